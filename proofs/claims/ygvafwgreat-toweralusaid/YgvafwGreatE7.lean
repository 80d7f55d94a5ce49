import Derived.Test.YgvafwGreatE6
set_option exponentiation.threshold 1000
set_option maxRecDepth 100000
set_option maxHeartbeats 4000000
set_option linter.unusedVariables false
set_option linter.unusedSimpArgs false
-- v2
-- v4
-- v5
-- v6
-- v7
namespace Go.Proofs.YgvafwGreat
open Go.HL Go.Proofs

/-- Cells that a move of the stack keeps. -/
def Stk (c c' : Nat → Value) : Prop := ∀ k, (k < 11 ∨ 1802 < k) → k ≠ 1807 → k ≠ 1809 → c' k = c k
/-- What settle leaves. -/
def SetP (I : Ent → Prop) (G : List Ent) (cb sz : Nat) (T : TypeId) (c : Nat → Value) (pc gas : Nat) (s : List Nat) : Post := fun r S' => ∃ c', S' = ⟨I, ⟨cb, sz, T, c'⟩ :: G⟩ ∧ MV c' pc gas s ∧ Stk c c'
theorem take_get {s : List Nat} {n i : Nat} (h : i < n) : (s.take n).getD i 0 = s.getD i 0 := by
  rw [List.getD_eq_getElem?_getD, List.getElem?_take, if_pos h, ← List.getD_eq_getElem?_getD]
theorem MV.setN {c : Nat → Value} {pc gas t step : Nat} {s : List Nat} (h : MV c pc gas s) (ht : t ≤ s.length) (hp : pc + step < 60000) : MV (upd (upd c 1809 (.int .u16 ((s.length - t : Nat) : Int))) 1807 (.int .u16 ((pc + step : Nat) : Int))) (pc + step) gas (s.take (s.length - t)) ∧ Stk c (upd (upd c 1809 (.int .u16 ((s.length - t : Nat) : Int))) 1807 (.int .u16 ((pc + step : Nat) : Int))) := by
  have e : ∀ k, k ≠ 1807 → k ≠ 1809 → upd (upd c 1809 (.int .u16 ((s.length - t : Nat) : Int))) 1807 (.int .u16 ((pc + step : Nat) : Int)) k = c k := fun k h1 h2 => by rw [updNe h1, updNe h2]
  have hl : (s.take (s.length - t)).length = s.length - t := by rw [List.length_take]; omega
  have hsl := h.sl
  refine ⟨⟨updEq, by rw [updNe (by decide), updEq, hl], by rw [e _ (by decide) (by decide)]; exact h.fgas, fun i hi => ?_, by omega, fun x hx => h.sb x (List.mem_of_mem_take hx), hp, h.gb⟩, fun k _ h1 h2 => e k h1 h2⟩
  rw [hl] at hi
  rw [take_get hi]
  refine Row.congr (h.stk i (by omega)) fun k h1 h2 => e k ?_ ?_
  · have : k < 11 + 4 * i + 4 := h2
    omega
  · have : k < 11 + 4 * i + 4 := h2
    omega
theorem MV.setG {c : Nat → Value} {pc gas t step w : Nat} {s : List Nat} (h : MV c pc gas s) (ht : t ≤ s.length) (hp : pc + step < 60000) (h64 : s.length - t < 64) (hw : w < 115792089237316195423570985008687907853269984665640564039457584007913129639936) (o : Nat) (ho : o = 11 + 4 * (s.length - t)) : MV (upd (upd (updN c o (wcs w)) 1809 (.int .u16 ((s.length - t + 1 : Nat) : Int))) 1807 (.int .u16 ((pc + step : Nat) : Int))) (pc + step) gas (s.take (s.length - t) ++ [w]) ∧ Stk c (upd (upd (updN c o (wcs w)) 1809 (.int .u16 ((s.length - t + 1 : Nat) : Int))) 1807 (.int .u16 ((pc + step : Nat) : Int))) := by
  subst ho
  have e0 : ∀ k, (k < 11 + 4 * (s.length - t) ∨ 11 + 4 * (s.length - t) + 4 ≤ k) → updN c (11 + 4 * (s.length - t)) (wcs w) k = c k := fun k hk => by
    unfold updN; rw [if_neg (by show ¬ (_ ≤ k ∧ k < _ + 4); omega)]
  have e : ∀ k, k ≠ 1807 → k ≠ 1809 → upd (upd (updN c (11 + 4 * (s.length - t)) (wcs w)) 1809 (.int .u16 ((s.length - t + 1 : Nat) : Int))) 1807 (.int .u16 ((pc + step : Nat) : Int)) k = updN c (11 + 4 * (s.length - t)) (wcs w) k := fun k h1 h2 => by rw [updNe h1, updNe h2]
  have hl : (s.take (s.length - t)).length = s.length - t := by rw [List.length_take]; omega
  have hsl := h.sl
  refine ⟨⟨updEq, by rw [updNe (by decide), updEq, List.length_append, hl]; rfl, by rw [e _ (by decide) (by decide), e0 _ (by omega)]; exact h.fgas, fun i hi => ?_, by rw [List.length_append, hl]; show s.length - t + 1 ≤ 64; omega, fun x hx => ?_, hp, h.gb⟩, fun k hk h1 h2 => by rw [e k h1 h2, e0 k (by omega)]⟩
  · rw [List.length_append, hl] at hi
    have hi : i < s.length - t + 1 := hi
    by_cases hlt : i < s.length - t
    · rw [List.getD_eq_getElem?_getD, List.getElem?_append_left (by omega), ← List.getD_eq_getElem?_getD, take_get hlt]
      refine Row.congr (h.stk i (by omega)) fun k h1 h2 => ?_
      have h2 : k < 11 + 4 * i + 4 := h2
      rw [e k (by omega) (by omega), e0 k (by omega)]
    · obtain rfl : i = s.length - t := by omega
      rw [List.getD_eq_getElem?_getD, List.getElem?_append_right (by omega), hl, Nat.sub_self]
      refine Row.congr (Row.updN2 c (11 + 4 * (s.length - t)) (wcs w)) fun k h1 h2 => ?_
      have h2 : k < 11 + 4 * (s.length - t) + 4 := h2
      exact e k (by omega) (by omega)
  · rcases List.mem_append.1 hx with h' | h'
    · exact h.sb x (List.mem_of_mem_take h')
    · obtain rfl := List.mem_singleton.1 h'; exact hw
/-- mach.Machine.settle, where nothing is given -/
theorem mSettleN {I : Ent → Prop} {G : List Ent} {cb sz pc gas t step : Nat} {T : TypeId} {c : Nat → Value} {s : List Nat} {ws : List Value} (hsz : 2435 ≤ sz) (hM : MV c pc gas s) (ht : t ≤ s.length) (hp : pc + step < 60000) (hwl : ws.length = 4) :
    CallG Hvaf.prog 269 #[ptr cb 0, ptr cb 1803, .int .u16 (t : Nat), .bool false, .agg ws.toArray, .int .u16 (step : Nat)] ⟨I, ⟨cb, sz, T, c⟩ :: G⟩ (SetP I G cb sz T c (pc + step) gas (s.take (s.length - t))) := by
  have hsp := hM.fsp
  have hl := hM.sl
  have hpc := hM.fpc
  have hpb := hM.pb
  have hfin := hM.setN (t := t) (step := step) ht hp
  unfold SetP
  generalize hn : s.length = n at *
  have hpc2 : upd c 1809 (.int .u16 ((n - t : Nat) : Int)) 1807 = .int .u16 (pc : Nat) := (updNe (by decide)).trans hpc
  refine CallG.start (C := mkC Hvaf.prog) cok (args := [ptr cb 0, ptr cb 1803, .int .u16 (t : Nat), .bool false, .agg ws.toArray, .int .u16 (step : Nat)]) Hvaf.func269 rfl Hvaf.ntmps269 (by simp) (by kernel_rfl) ?_
  intro xb
  repeat (first | (refine QuG.keep ?_; first | refine QuG.l1E cok 1 rfl rfl rfl rfl rfl (by first | exact Nat.le_of_ble_eq_true rfl | omega | (dsimp only; omega) | (simp only [addS_eq, mulS_eq]; omega)) (by assumption) ?_) | refine SeqS.go cok ?_ | refine CondS.f rfl ?_ | (refine ValS.keep ?_; first | (with_reducible refine ValS.kU16 ?_; first | (with_reducible refine ValS.addU16 ?_ ?_ ; omega) | (with_reducible refine ValS.subU16 ?_ ?_ ?_ ; omega; omega))) | (refine OpG.keep ?_; first | refine OpG.s1 cok 1 rfl rfl rfl rfl rfl (by first | exact Nat.le_of_ble_eq_true rfl | omega | (dsimp only; omega) | (simp only [addS_eq, mulS_eq]; omega)) rfl rfl ?_) | (refine CondS.keep ?_; first | refine CondS.d0 rfl (by omega) ?_))
  exact Fin.drop (⟨cb, sz, T, _⟩ :: G) [_] ⟨_, rfl, hfin.1, hfin.2⟩
/-- mach.Machine.settle, where a word is given -/
theorem mSettleG {I : Ent → Prop} {G : List Ent} {cb sz pc gas t step w : Nat} {T : TypeId} {c : Nat → Value} {s : List Nat} (hsz : 2435 ≤ sz) (hsb : c 1808 = .int .u16 ((0 : Nat) : Int)) (hM : MV c pc gas s) (ht : t ≤ s.length) (hp : pc + step < 60000) (h64 : s.length - t < 64) (hw : w < 115792089237316195423570985008687907853269984665640564039457584007913129639936) :
    CallG Hvaf.prog 269 #[ptr cb 0, ptr cb 1803, .int .u16 (t : Nat), .bool true, .agg (wcs w).toArray, .int .u16 (step : Nat)] ⟨I, ⟨cb, sz, T, c⟩ :: G⟩ (SetP I G cb sz T c (pc + step) gas (s.take (s.length - t) ++ [w])) := by
  have hsp := hM.fsp
  have hl := hM.sl
  have hpc := hM.fpc
  have hpb := hM.pb
  have hfin := hM.setG (t := t) (step := step) (w := w) ht hp h64 hw (addS 11 (mulS (0 + (s.length - t)) 4)) (by rw [addS_eq, mulS_eq]; omega)
  have hwl : (wcs w).length = 4 := rfl
  have hwo := wcs_one w
  unfold SetP
  generalize hn : s.length = n at *
  have hpc2 : upd (updN c (addS 11 (mulS (0 + (n - t)) 4)) (wcs w)) 1809 (.int .u16 ((n - t + 1 : Nat) : Int)) 1807 = .int .u16 (pc : Nat) := by
    rw [updNe (by decide)]
    unfold updN
    rw [if_neg (by show ¬ (addS 11 (mulS (0 + (n - t)) 4) ≤ 1807 ∧ 1807 < addS 11 (mulS (0 + (n - t)) 4) + 4); rw [addS_eq, mulS_eq]; omega)]; exact hpc
  have hfit : addS 11 (mulS (0 + (n - t)) 4) + 4 ≤ sz := by rw [addS_eq, mulS_eq]; omega
  generalize hws : wcs w = ws at *
  refine CallG.start (C := mkC Hvaf.prog) cok (args := [ptr cb 0, ptr cb 1803, .int .u16 (t : Nat), .bool true, .agg ws.toArray, .int .u16 (step : Nat)]) Hvaf.func269 rfl Hvaf.ntmps269 (by simp) (by kernel_rfl) ?_
  intro xb
  repeat (first | (refine OpG.keep ?_; refine OpG.upS cok 1 (o := addS 11 (mulS (0 + (n - t)) 4)) rfl rfl rfl rfl rfl hwl hwo hfit ?_) | (refine QuG.keep ?_; first | refine QuG.l1E cok 1 rfl rfl rfl rfl rfl (by first | exact Nat.le_of_ble_eq_true rfl | omega | (dsimp only; omega) | (simp only [addS_eq, mulS_eq]; omega)) (by assumption) ?_ | refine QuG.boxL cok 0 rfl rfl rfl rfl rfl (by assumption) ?_) | refine SeqS.go cok ?_ | refine GuardS.yes rfl ?_ | refine CondS.t rfl ?_ | refine And.intro (by dsimp only; omega) ?_ | (refine NatS.keep ?_; first | with_reducible refine NatS.nat ?_) | (refine ValS.keep ?_; first | (with_reducible refine ValS.kI64 ?_; first | (with_reducible refine ValS.convI64 ?_ ?_ ; omega) | (with_reducible refine ValS.addI64 ?_ ?_ ; omega)) | (with_reducible refine ValS.kU16 ?_; first | (with_reducible refine ValS.addU16_L ?_ ?_ ; omega) | (with_reducible refine ValS.addU16 ?_ ?_ ; omega) | (with_reducible refine ValS.subU16 ?_ ?_ ?_ ; omega; omega))) | (refine still_in ?_; first | refine still_drop (by decide) ?_) | (refine OpG.keep ?_; first | refine OpG.s1 cok 1 rfl rfl rfl rfl rfl (by first | exact Nat.le_of_ble_eq_true rfl | omega | (dsimp only; omega) | (simp only [addS_eq, mulS_eq]; omega)) rfl rfl ?_) | refine W.drawI 8 cok [0, 0, 0, 1, 9, 31, 63] [0, 1, 2, 3, 4, 5, 6] [2] (by kernel_rfl) (by kernel_rfl) ?_ | (refine GuardS.keep ?_; first | refine GuardS.F0 rfl (by omega) ?_) | (refine CondS.keep ?_; first | refine CondS.d0 rfl (by omega) ?_))
  exact Fin.drop (⟨cb, sz, T, _⟩ :: G) [_] ⟨_, rfl, hfin.1, hfin.2⟩
end Go.Proofs.YgvafwGreat
