import Derived.Test.YgvafwGreatY19
set_option maxRecDepth 100000
set_option maxHeartbeats 4000000
set_option linter.unusedVariables false
set_option linter.unusedSimpArgs false
-- v2
-- v4
-- v5
-- v6
namespace Go.HL
section
variable {C : Cfg} {e : Env} {S : St} {ty : TypeId} {q : Value → Prop} {t : TypeId} {a : Operand} {ti : TI} {o : Nat}
theorem QuG.el1E (hC : C.Ok) {x : Ent} {i z : Nat} {vss : List (List Value)} {u : Value} (hr : Els x o 1 vss) (hx : Rd S x) (hl : vss.getD i [] = [u]) (hD : C.D t = some ti) (hk : isAggK ti = false) (ha : ev e a = ptr x.b (addS o (mulS i z))) (hz : z = 1) (hi : i < vss.length)
    (h : q u) : QuG C.P (.load t a) ty e S q := by
  obtain ⟨h1, h2, h3⟩ := hr.at hi
  rw [hl] at h1
  have hr1 : Row x.c (o + i) [u] := by rwa [Nat.mul_one] at h1
  exact QuG.cell hC (n := 0) hr1 hx hD hk ha rfl (by rw [addS_eq, mulS_eq, hz, Nat.mul_one]; rfl) (by simp) (by rw [Nat.mul_one] at h3; omega) h
end
end Go.HL
namespace Go.Proofs.YgvafwGreat
open Go.HL Go.Proofs

/-- A list of the specification's numbers, in memory's order. -/
structure StkI (I : Ent → Prop) (v : Value) (ns : List Nat) : Prop where
  out : ∃ vss, RowI I 1 v vss ∧ vss.length = ns.length ∧ ∀ i, i < ns.length → ∃ u, vss.getD i [] = [u] ∧ NatI I u (ns.getD i 0)
theorem StkI.up {I J : Ent → Prop} {v : Value} {ns : List Nat} (h : StkI I v ns) (hs : Sub I J) : StkI J v ns := by
  obtain ⟨vss, a, b, c⟩ := h.out; exact ⟨vss, a.up hs, b, fun i hi => by obtain ⟨u, e, h⟩ := c i hi; exact ⟨u, e, h.up hs⟩⟩
/-- yp.operand -/
theorem yOperand {I : Ent → Prop} {G : List Ent} {v : Value} {ns : List Nat} {i : Nat} (hN : StkI I v ns) (hlen : ns.length < 2 ^ 30) (hi : i < 2 ^ 30) :
    CallG Hvaf.prog 238 #[v, .int .i64 (i : Nat)] ⟨I, G⟩ fun r S' => ⟨I, G⟩ = S' ∧ NatI I r (ns.getD i 0) := by
  obtain ⟨vss, hR, hvl, hel⟩ := hN.out
  obtain ⟨ad, cap, rfl⟩ := hR.form
  by_cases h : i < ns.length
  · obtain ⟨x, o, rfl, hx, hE⟩ := hR.some (by omega)
    obtain ⟨u, hu, hn⟩ := hel i h
    have hrd : ∀ G, Rd ⟨I, G⟩ x := fun _ => .inl hx
    refine CallG.start (C := mkC Hvaf.prog) cok (args := [.slice (some ⟨x.b, o, none⟩) vss.length cap, .int .i64 (i : Nat)]) Hvaf.func238 rfl Hvaf.ntmps238 (by simp) (by kernel_rfl) ?_
    repeat (first | (refine QuG.keep ?_; first | refine QuG.el1E cok (by assumption) (by first | assumption | exact ‹∀ G, Rd ⟨_, G⟩ _› _) (by assumption) rfl rfl rfl rfl (by omega) ?_) | refine SeqS.go cok ?_ | refine And.intro (by omega) ?_ | (refine NatS.keep ?_; first | with_reducible refine NatS.nat ?_) | (refine CondS.keep ?_; first | refine CondS.d1 rfl (by omega) ?_))
    exact Fin.same ⟨rfl, hn⟩
  · rw [getD_big h]
    refine CallG.start (C := mkC Hvaf.prog) cok (args := [.slice ad vss.length cap, .int .i64 (i : Nat)]) Hvaf.func238 rfl Hvaf.ntmps238 (by simp) (by kernel_rfl) ?_
    repeat (first | refine SeqS.go cok ?_ | (refine CondS.keep ?_; first | refine CondS.d0 rfl (by omega) ?_))
    exact Fin.same ⟨rfl, NatI.zero _⟩
/-- yp.Frame.arg -/
theorem yArg {I : Ent → Prop} {G : List Ent} {fb sz : Nat} {T : TypeId} {c : Nat → Value} {ns : List Nat} {i : Nat} (hsz : 60 ≤ sz) (hN : StkI I (c 8) ns) (hlen : ns.length < 2 ^ 30) (hi : i < 2 ^ 30) :
    CallG Hvaf.prog 73 #[ptr fb 0, .int .i64 (i : Nat)] ⟨I, ⟨fb, sz, T, c⟩ :: G⟩ fun r S' => ⟨I, ⟨fb, sz, T, c⟩ :: G⟩ = S' ∧ NatI I r (if i < ns.length then ns.getD (ns.length - 1 - i) 0 else 0) := by
  obtain ⟨vss, hR, hvl, hel⟩ := hN.out
  obtain ⟨ad, cap, hc⟩ := hR.form
  by_cases h : i < ns.length
  · rw [if_pos h]
    rw [hc] at hR
    obtain ⟨x, o, rfl, hx, hE⟩ := hR.some (by omega)
    obtain ⟨u, hu, hn⟩ := hel (ns.length - 1 - i) (by omega)
    rw [← hvl] at hu
    have hrd : ∀ G, Rd ⟨I, G⟩ x := fun _ => .inl hx
    refine CallG.start (C := mkC Hvaf.prog) cok (args := [ptr fb 0, .int .i64 (i : Nat)]) Hvaf.func73 rfl Hvaf.ntmps73 (by simp) (by kernel_rfl) ?_
    repeat (first | (refine QuG.keep ?_; first | refine QuG.l1E cok 0 rfl rfl rfl rfl rfl (by first | exact Nat.le_of_ble_eq_true rfl | omega | (dsimp only; omega) | (simp only [addS_eq, mulS_eq]; omega)) (by assumption) ?_ | refine QuG.el1E cok (by assumption) (by first | assumption | exact ‹∀ G, Rd ⟨_, G⟩ _› _) (by assumption) rfl rfl rfl rfl (by omega) ?_) | refine SeqS.go cok ?_ | refine And.intro (by omega) ?_ | (refine NatS.keep ?_; first | with_reducible refine NatS.nat ?_) | (refine ValS.keep ?_; first | (with_reducible refine ValS.kI64 ?_; first | (with_reducible refine ValS.subI64_L ?_ ?_ ?_ ; omega; omega) | (with_reducible refine ValS.subI64 ?_ ?_ ?_ ; omega; omega))) | refine W.drawI 3 cok [0, 1, 3, 7, 0, 16, 48, 112, 240, 496, 0, 2032, 4095, 8191, 16383] [0, 1, 2, 3, 4, 5, 6, 7, 8, 9, 10, 11, 12, 13, 14] [3, 7, 13] (by kernel_rfl) (by kernel_rfl) ?_ | (refine CondS.keep ?_; first | refine CondS.d0 rfl (by omega) ?_))
    exact Fin.same ⟨rfl, hn⟩
  · rw [if_neg h]
    refine CallG.start (C := mkC Hvaf.prog) cok (args := [ptr fb 0, .int .i64 (i : Nat)]) Hvaf.func73 rfl Hvaf.ntmps73 (by simp) (by kernel_rfl) ?_
    repeat (first | (refine QuG.keep ?_; first | refine QuG.l1E cok 0 rfl rfl rfl rfl rfl (by first | exact Nat.le_of_ble_eq_true rfl | omega | (dsimp only; omega) | (simp only [addS_eq, mulS_eq]; omega)) (by assumption) ?_) | refine SeqS.go cok ?_ | (refine CondS.keep ?_; first | refine CondS.d1 rfl (by omega) ?_))
    exact Fin.same ⟨rfl, NatI.zero _⟩
/-- yp.Frame.opcode -/
theorem yOpcode {I : Ent → Prop} {G : List Ent} {fb sz pc : Nat} {T : TypeId} {c : Nat → Value} {code : List Nat} (hsz : 60 ≤ sz) (hN : NatI I (c 3) pc) (hb : Byt ⟨I, []⟩ (c 10) code) (hlen : code.length < 2 ^ 30) :
    CallG Hvaf.prog 67 #[ptr fb 0] ⟨I, ⟨fb, sz, T, c⟩ :: G⟩ fun r S' => ⟨I, ⟨fb, sz, T, c⟩ :: G⟩ = S' ∧ r = .int .u8 (code.getD pc 0 : Nat) := by
  have hpl := fun (G : List Ent) => yPlace (G := G) (L := code.length) hN (by omega)
  by_cases h : pc < code.length
  · simp only [if_pos h, decide_eq_true h] at hpl
    rcases hb.cases with ⟨_, rfl⟩ | ⟨x, o, cap, hc, h1, h2, hx, hbs⟩
    · simp at h
    · have hx2 : Rd ⟨I, ⟨fb, sz, T, c⟩ :: G⟩ x := hx.mono (.refl _) (by simp)
      refine CallG.start (C := mkC Hvaf.prog) cok (args := [ptr fb 0]) Hvaf.func67 rfl Hvaf.ntmps67 (by simp) (by kernel_rfl) ?_
      repeat (first | (refine QuG.keep ?_; first | refine QuG.l1E cok 0 rfl rfl rfl rfl rfl (by first | exact Nat.le_of_ble_eq_true rfl | omega | (dsimp only; omega) | (simp only [addS_eq, mulS_eq]; omega)) (by assumption) ?_) | refine SeqS.go cok ?_ | (refine QuG.keep ?_; first | refine QuG.l1 cok 0 rfl rfl rfl rfl rfl (by first | exact Nat.le_of_ble_eq_true rfl | omega | (dsimp only; omega) | (simp only [addS_eq, mulS_eq]; omega)) ?_) | refine W.drawI 1 cok [0, 1, 3, 7, 0, 16, 48, 112, 240, 511, 1023, 2047, 2047, 4095, 16383] [0, 1, 2, 3, 4, 5, 6, 7, 8, 9, 10, 11, 12, 13, 14] [3, 7] (by kernel_rfl) (by kernel_rfl) ?_)
      refine (hpl _).mono ?_
      rintro r _ - ⟨rfl, rfl⟩
      repeat (first | (refine QuG.keep ?_; first | refine QuG.l1E cok 0 rfl rfl rfl rfl rfl (by first | exact Nat.le_of_ble_eq_true rfl | omega | (dsimp only; omega) | (simp only [addS_eq, mulS_eq]; omega)) (by assumption) ?_) | refine SeqS.go cok ?_ | refine CondS.t rfl ?_ | refine And.intro (by omega) ?_ | (refine NatS.keep ?_; first | with_reducible refine NatS.nat ?_) | (refine QuG.keep ?_; first | refine QuG.bs cok (by assumption) (by assumption) rfl rfl rfl rfl (by omega) ?_) | (refine still_in ?_; first | refine still_drop (by decide) ?_))
      exact Fin.same ⟨rfl, rfl⟩
  · simp only [if_neg h, decide_eq_false h] at hpl
    obtain ⟨ad, cap, hc, _⟩ := hb.form
    rw [getD_big h]
    refine CallG.start (C := mkC Hvaf.prog) cok (args := [ptr fb 0]) Hvaf.func67 rfl Hvaf.ntmps67 (by simp) (by kernel_rfl) ?_
    repeat (first | (refine QuG.keep ?_; first | refine QuG.l1E cok 0 rfl rfl rfl rfl rfl (by first | exact Nat.le_of_ble_eq_true rfl | omega | (dsimp only; omega) | (simp only [addS_eq, mulS_eq]; omega)) (by assumption) ?_) | refine SeqS.go cok ?_ | (refine QuG.keep ?_; first | refine QuG.l1 cok 0 rfl rfl rfl rfl rfl (by first | exact Nat.le_of_ble_eq_true rfl | omega | (dsimp only; omega) | (simp only [addS_eq, mulS_eq]; omega)) ?_) | refine W.drawI 1 cok [0, 1, 3, 7, 0, 16, 48, 112, 240, 511, 1023, 2047, 2047, 4095, 16383] [0, 1, 2, 3, 4, 5, 6, 7, 8, 9, 10, 11, 12, 13, 14] [3, 7] (by kernel_rfl) (by kernel_rfl) ?_)
    refine (hpl _).mono ?_
    rintro r _ - ⟨rfl, rfl⟩
    repeat (first | refine SeqS.go cok ?_ | refine CondS.f rfl ?_ | (refine still_in ?_; first | refine still_drop (by decide) ?_))
    exact Fin.same ⟨rfl, rfl⟩
end Go.Proofs.YgvafwGreat
