import Derived.Test.YgvafwGreatE8
set_option exponentiation.threshold 1000
set_option maxRecDepth 100000
set_option maxHeartbeats 4000000
set_option linter.unusedVariables false
set_option linter.unusedSimpArgs false
-- v2
-- v4
-- v5
-- v6
-- v7
namespace Go.Proofs.YgvafwGreat
open Go.HL Go.Proofs
theorem updN_off {c : Nat → Value} {o k : Nat} {vs : List Value} (h : k < o ∨ o + vs.length ≤ k) : HL.updN c o vs k = c k := by
  unfold HL.updN; rw [if_neg (by omega)]
theorem MV.set1 {c : Nat → Value} {pc gas p w : Nat} {s : List Nat} (h : MV c pc gas s) (hp : p < s.length) (hw : w < 115792089237316195423570985008687907853269984665640564039457584007913129639936) (o : Nat) (ho : o = 11 + 4 * p) : MV (HL.updN c o (wcs w)) pc gas (s.set p w) ∧ Stk c (HL.updN c o (wcs w)) := by
  subst ho
  have hsl := h.sl
  have hl : (wcs w).length = 4 := rfl
  have e : ∀ k, (k < 11 + 4 * p ∨ 11 + 4 * p + 4 ≤ k) → HL.updN c (11 + 4 * p) (wcs w) k = c k := fun k hk => updN_off (by omega)
  refine ⟨⟨by rw [e _ (by omega)]; exact h.fpc, by rw [e _ (by omega), List.length_set]; exact h.fsp, by rw [e _ (by omega)]; exact h.fgas, fun i hi => ?_, by rw [List.length_set]; exact hsl, fun x hx => ?_, h.pb, h.gb⟩, fun k hk h1 h2 => e k (by omega)⟩
  · rw [List.length_set] at hi
    by_cases hip : i = p
    · subst hip
      rw [List.getD_eq_getElem?_getD, List.getElem?_set_self hi]
      exact Row.updN2 c _ (wcs w)
    · rw [List.getD_eq_getElem?_getD, List.getElem?_set_ne (by omega), ← List.getD_eq_getElem?_getD]
      refine Row.congr (h.stk i hi) fun k h1 h2 => ?_
      have h2 : k < 11 + 4 * i + 4 := h2
      exact e k (by omega)
  · rcases List.mem_or_eq_of_mem_set hx with h' | h'
    · exact h.sb x h'
    · rw [h']; exact hw
theorem MV.setPc {c : Nat → Value} {pc gas pc' : Nat} {s : List Nat} (h : MV c pc gas s) (hp : pc' < 60000) : MV (upd c 1807 (.int .u16 (pc' : Nat))) pc' gas s ∧ Stk c (upd c 1807 (.int .u16 (pc' : Nat))) := by
  have hsl := h.sl
  refine ⟨⟨updEq, by rw [updNe (by decide)]; exact h.fsp, by rw [updNe (by decide)]; exact h.fgas, fun i hi => ?_, hsl, h.sb, hp, h.gb⟩, fun k hk h1 h2 => updNe h1⟩
  refine Row.congr (h.stk i hi) fun k h1 h2 => ?_
  have h2 : k < 11 + 4 * i + 4 := h2
  exact updNe (by omega)
theorem Stk.trans {c c' c'' : Nat → Value} (h : Stk c c') (h' : Stk c' c'') : Stk c c'' := fun k hk h1 h2 => (h' k hk h1 h2).trans (h k hk h1 h2)
/-- The stack behind SWAP, by places. -/
def swapL (s : List Nat) (p q : Nat) : List Nat := (s.set p (s.getD q 0)).set q (s.getD p 0)
theorem MV.swap {c : Nat → Value} {pc gas p q : Nat} {s : List Nat} (h : MV c pc gas s) (hp : p < s.length) (hq : q < s.length) (hpb : pc + 1 < 60000) (o1 o2 : Nat) (h1 : o1 = 11 + 4 * p) (h2 : o2 = 11 + 4 * q) :
    MV (upd (HL.updN (HL.updN c o1 (wcs (s.getD q 0))) o2 (wcs (s.getD p 0))) 1807 (.int .u16 ((pc + 1 : Nat) : Int))) (pc + 1) gas (swapL s p q) ∧ Stk c (upd (HL.updN (HL.updN c o1 (wcs (s.getD q 0))) o2 (wcs (s.getD p 0))) 1807 (.int .u16 ((pc + 1 : Nat) : Int))) := by
  have a := h.set1 hp (h.sb _ (getD_mem (d := 0) hq)) o1 h1
  have b := a.1.set1 (p := q) (by rw [List.length_set]; exact hq) (h.sb _ (getD_mem (d := 0) hp)) o2 h2
  have d := b.1.setPc (pc' := pc + 1) hpb
  exact ⟨d.1, a.2.trans (b.2.trans d.2)⟩
/-- mach.Machine.OpSwap -/
theorem mSwap {I : Ent → Prop} {G : List Ent} {cb sz pc gas o : Nat} {T : TypeId} {c : Nat → Value} {K : YK} {s : List Nat} (hsz : 2435 ≤ sz) (hK : MK I cb c K) (hM : MV c pc gas s) (hpb : pc + 1 < 60000) (ho : K.code.getD pc 0 = o) (hi : 144 ≤ o) (hi2 : o < 160) (hlen : o - 144 + 2 ≤ s.length) :
    CallG Hvaf.prog 328 #[ptr cb 0] ⟨I, ⟨cb, sz, T, c⟩ :: G⟩ (SetP I G cb sz T c (pc + 1) gas (swapL s (s.length - 1) (s.length - 1 - (o - 144) - 1))) := by
  have hrn := mRunning (I := I) (G := G) (cb := cb) (T := T) hsz hK
  have hop := mOpcode (I := I) (G := G) (cb := cb) (T := T) hsz hK hM
  rw [ho] at hop
  have hsb := hK.fsb
  have hsp := hM.fsp
  have hl := hM.sl
  have hpc := hM.fpc
  have hfin := hM.swap (p := s.length - 1) (q := s.length - 1 - (o - 144) - 1) (by omega) (by omega) hpb (addS 11 (mulS (0 + s.length - 1) 4)) (addS 11 (mulS (0 + s.length - 1 - (o - 144) - 1) 4)) (by rw [addS_eq, mulS_eq]; omega) (by rw [addS_eq, mulS_eq]; omega)
  have hr1 := hM.stk (s.length - 1) (by omega)
  have hr2 := hM.stk (s.length - 1 - (o - 144) - 1) (by omega)
  have hw1 : (wcs (s.getD (s.length - 1) 0)).length = 4 := rfl
  have ho1 := wcs_one (s.getD (s.length - 1) 0)
  have hw2 : (wcs (s.getD (s.length - 1 - (o - 144) - 1) 0)).length = 4 := rfl
  have ho2 := wcs_one (s.getD (s.length - 1 - (o - 144) - 1) 0)
  have hpc2 : HL.updN (HL.updN c (addS 11 (mulS (0 + s.length - 1) 4)) (wcs (s.getD (s.length - 1 - (o - 144) - 1) 0))) (addS 11 (mulS (0 + s.length - 1 - (o - 144) - 1) 4)) (wcs (s.getD (s.length - 1) 0)) 1807 = .int .u16 (pc : Nat) := by
    rw [updN_off (by rw [addS_eq, mulS_eq, hw1]; omega), updN_off (by rw [addS_eq, mulS_eq, hw2]; omega)]; exact hpc
  generalize hvp : wcs (s.getD (s.length - 1) 0) = vp at *
  generalize hvq : wcs (s.getD (s.length - 1 - (o - 144) - 1) 0) = vq at *
  generalize swapL s (s.length - 1) (s.length - 1 - (o - 144) - 1) = s' at *
  generalize hn : s.length = n at *
  have hrd : Rd ⟨I, ⟨cb, sz, T, c⟩ :: G⟩ ⟨cb, sz, T, c⟩ := .inr List.mem_cons_self
  have hrd2 : ∀ y : Ent, Rd ⟨I, y :: ⟨cb, sz, T, c⟩ :: G⟩ ⟨cb, sz, T, c⟩ := fun y => .inr (List.mem_cons_of_mem _ List.mem_cons_self)
  have hat : addS 11 (mulS (0 + n - 1) 4) = 11 + 4 * (n - 1) := by rw [addS_eq, mulS_eq]; omega
  have haq : addS 11 (mulS (0 + n - 1 - (o - 144) - 1) 4) = 11 + 4 * (n - 1 - (o - 144) - 1) := by rw [addS_eq, mulS_eq]; omega
  have hf1 : 11 + 4 * (n - 1) + 4 ≤ sz := by omega
  have hf2 : 11 + 4 * (n - 1 - (o - 144) - 1) + 4 ≤ sz := by omega
  have hf1' : addS 11 (mulS (0 + n - 1) 4) + 4 ≤ sz := by omega
  have hf2' : addS 11 (mulS (0 + n - 1 - (o - 144) - 1) 4) + 4 ≤ sz := by omega
  have h18 : 1807 < sz := by omega
  have hrd3 : ∀ (y : Ent) (c2 : Nat → Value), Rd ⟨I, y :: ⟨cb, sz, T, c2⟩ :: G⟩ ⟨cb, sz, T, c2⟩ := fun y c2 => .inr (List.mem_cons_of_mem _ List.mem_cons_self)
  refine CallG.start (C := mkC Hvaf.prog) cok (args := [ptr cb 0]) Hvaf.func328 rfl Hvaf.ntmps328 (by simp) (by kernel_rfl) ?_
  skip
  refine CallG.sameL [] hrn ?_
  repeat (first | (refine QuG.keep ?_; first | refine QuG.l1E cok 0 rfl rfl rfl rfl rfl (by first | exact Nat.le_of_ble_eq_true rfl | omega | (dsimp only; omega) | (simp only [addS_eq, mulS_eq]; omega)) (by assumption) ?_) | refine SeqS.go cok ?_ | refine CondS.f rfl ?_ | (refine ValS.keep ?_; first | (with_reducible refine ValS.kI64 ?_; first | (with_reducible refine ValS.convI64 ?_ ?_ ; omega) | (with_reducible refine ValS.addI64 ?_ ?_ ; omega) | (with_reducible refine ValS.subI64_L ?_ ?_ ?_ ; omega; omega) | (with_reducible refine ValS.convI64_LL ?_ ?_ ; omega))) | refine W.drawI 2 cok [0, 1, 3, 7, 15, 0, 32, 96, 224, 480, 1023, 2047, 4095] [0, 1, 2, 3, 4, 5, 6, 7, 8, 9, 10, 11, 12] [3, 8] (by kernel_rfl) (by kernel_rfl) ?_)
  refine CallG.sameL [] hop ?_
  repeat (first | (refine QuG.keep ?_; refine QuG.rowE cok hr1 hrd rfl rfl rfl rfl hat hw1 hf1 ?_) | refine SeqS.go cok ?_ | refine GuardS.yes rfl ?_ | refine And.intro (by dsimp only; omega) ?_ | (refine NatS.keep ?_; first | with_reducible refine NatS.nat ?_) | (refine ValS.keep ?_; first | (with_reducible refine ValS.kI64 ?_; first | (with_reducible refine ValS.convI64 ?_ ?_ ; omega) | (with_reducible refine ValS.subI64_L ?_ ?_ ?_ ; omega; omega) | (with_reducible refine ValS.subI64 ?_ ?_ ?_ ; omega; omega)) | (with_reducible refine ValS.kU8 ?_; first | (with_reducible refine ValS.subU8_L ?_ ?_ ?_ ; omega; omega))) | (refine CondS.keep ?_; first | refine CondS.d0 rfl (by omega) ?_))
  intro x5
  repeat (first | (refine QuG.keep ?_; first | refine QuG.rowE cok hr2 (hrd2 _) rfl rfl rfl rfl haq hw2 hf2 ?_ | refine QuG.ld cok (hrd3 _ _) rfl rfl rfl rfl h18 hpc2 ?_) | (refine OpG.keep ?_; first | refine OpG.upS cok 1 (o := addS 11 (mulS (0 + n - 1) 4)) rfl rfl rfl rfl rfl hw2 ho2 hf1' ?_ | refine OpG.upS cok 1 (o := addS 11 (mulS (0 + n - 1 - (o - 144) - 1) 4)) rfl rfl rfl rfl rfl hw1 ho1 hf2' ?_) | (refine QuG.keep ?_; first | refine QuG.upL cok 0 rfl rfl rfl rfl rfl rfl (by assumption) (by first | exact Nat.le_of_ble_eq_true rfl | omega) ?_) | (refine OpG.keep ?_; first | refine OpG.upS cok 0 rfl rfl rfl rfl rfl (by assumption) (by first | assumption | exact one_bvs _) (by first | exact Nat.le_of_ble_eq_true rfl | omega) ?_) | refine SeqS.go cok ?_ | refine And.intro (by dsimp only; omega) ?_ | (refine NatS.keep ?_; first | with_reducible refine NatS.nat ?_) | (refine ValS.keep ?_; first | (with_reducible refine ValS.kU16 ?_; first | (with_reducible refine ValS.addU16_L ?_ ?_ ; omega))) | (refine still_in ?_; first | refine still_drop (by decide) ?_) | (refine OpG.keep ?_; first | refine OpG.s1 cok 1 rfl rfl rfl rfl rfl (by first | exact Nat.le_of_ble_eq_true rfl | omega | (dsimp only; omega) | (simp only [addS_eq, mulS_eq]; omega)) rfl rfl ?_) | refine W.drawI 7 cok [0, 0, 0, 0, 4, 20, 60, 124, 1, 257, 1023, 2047] [0, 1, 2, 3, 4, 5, 6, 7, 8, 9, 10, 11] [7] (by kernel_rfl) (by kernel_rfl) ?_ | refine W.drawI 8 cok [0, 0, 0, 1, 9, 31, 63] [0, 1, 2, 3, 4, 5, 6] [2] (by kernel_rfl) (by kernel_rfl) ?_)
  exact Fin.drop (⟨cb, sz, T, _⟩ :: G) [_] ⟨_, rfl, hfin.1, hfin.2⟩
end Go.Proofs.YgvafwGreat
