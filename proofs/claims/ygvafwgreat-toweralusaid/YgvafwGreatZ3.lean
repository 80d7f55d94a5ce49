import Derived.Test.YgvafwGreatZ2
set_option maxRecDepth 100000
set_option maxHeartbeats 4000000
set_option linter.unusedVariables false
set_option linter.unusedSimpArgs false
-- v2
-- v4
-- v5
namespace Go.Proofs.YgvafwGreat
open Go.HL Go.Proofs

/-- yp.World.setBalance -/
theorem ySetBalanceD {I : Ent → Prop} {G : List Ent} {wb sz n : Nat} {T : TypeId} {c : Nat → Value} {al : List YA} {a : List Nat} {v : Value} (hsz : 8 ≤ sz) (hN : AcctsD I (c 0) al) (hA : AdOk a) (hN2 : NatI I v n) (hlen : al.length < 2 ^ 19) (hEm : emptyA { getA al a with bal := n } = false) :
    CallG Hvaf.prog 59 #[ptr wb 0, bytesV a, v] ⟨I, ⟨wb, sz, T, c⟩ :: G⟩ fun r S' => ∃ J w, S' = ⟨J, ⟨wb, sz, T, upd c 0 w⟩ :: G⟩ ∧ AcctsD J w (putA { getA al a with bal := n } al) := by
  have ha := hA.bv
  have hla := hA.len
  have hv1 := NatI.isl hN2
  refine CallG.start (C := mkC Hvaf.prog) cok (args := [ptr wb 0, bytesV a, v]) Hvaf.func59 rfl Hvaf.ntmps59 (by simp) (by kernel_rfl) ?_
  intro b4
  repeat (first | (refine QuG.keep ?_; first | refine QuG.boxL cok 0 rfl rfl rfl rfl rfl (by assumption) ?_) | refine SeqS.go cok ?_)
  refine CallG.focus 1 rfl ?_
  refine (yAccountD hsz hN hA (by omega)).mono ?_
  rintro r _ - ⟨rfl, l, rfl, hac⟩
  have h24 := hac.len
  have hone := hac.one
  have hac2 := hac.setBal hN2
  have h24b := hac2.len
  intro b6
  repeat (first | (refine OpG.keep ?_; first | refine OpG.upF cok 0 rfl rfl rfl rfl rfl rfl (by first | exact Nat.le_of_ble_eq_true rfl | omega) (by first | exact Nat.le_of_ble_eq_true rfl | omega) rfl (by first | rfl | assumption) ?_) | (refine QuG.keep ?_; first | refine QuG.upL cok 0 rfl rfl rfl rfl rfl rfl (by assumption) (by first | exact Nat.le_of_ble_eq_true rfl | omega) ?_) | (refine OpG.keep ?_; first | refine OpG.upS cok 0 rfl rfl rfl rfl rfl (by assumption) (by first | assumption | exact one_bvs _) (by first | exact Nat.le_of_ble_eq_true rfl | omega) ?_) | refine SeqS.go cok ?_)
  refine CallG.focus 1 rfl ?_
  refine (yPutD hsz hN hac2 hlen hEm).mono ?_
  rintro r _ hs ⟨J, w, rfl, hw⟩
  skip
  exact Fin.drop1 _ G [_, _] ⟨J, w, rfl, hw⟩
/-- yp.World.setNonce -/
theorem ySetNonceD {I : Ent → Prop} {G : List Ent} {wb sz n : Nat} {T : TypeId} {c : Nat → Value} {al : List YA} {a : List Nat} {v : Value} (hsz : 8 ≤ sz) (hN : AcctsD I (c 0) al) (hA : AdOk a) (hN2 : NatI I v n) (hlen : al.length < 2 ^ 19) (hEm : emptyA { getA al a with nonce := n } = false) :
    CallG Hvaf.prog 58 #[ptr wb 0, bytesV a, v] ⟨I, ⟨wb, sz, T, c⟩ :: G⟩ fun r S' => ∃ J w, S' = ⟨J, ⟨wb, sz, T, upd c 0 w⟩ :: G⟩ ∧ AcctsD J w (putA { getA al a with nonce := n } al) := by
  have ha := hA.bv
  have hla := hA.len
  have hv1 := NatI.isl hN2
  refine CallG.start (C := mkC Hvaf.prog) cok (args := [ptr wb 0, bytesV a, v]) Hvaf.func58 rfl Hvaf.ntmps58 (by simp) (by kernel_rfl) ?_
  intro b4
  repeat (first | (refine QuG.keep ?_; first | refine QuG.boxL cok 0 rfl rfl rfl rfl rfl (by assumption) ?_) | refine SeqS.go cok ?_)
  refine CallG.focus 1 rfl ?_
  refine (yAccountD hsz hN hA (by omega)).mono ?_
  rintro r _ - ⟨rfl, l, rfl, hac⟩
  have h24 := hac.len
  have hone := hac.one
  have hac2 := hac.setNonce hN2
  have h24b := hac2.len
  intro b6
  repeat (first | (refine OpG.keep ?_; first | refine OpG.upF cok 0 rfl rfl rfl rfl rfl rfl (by first | exact Nat.le_of_ble_eq_true rfl | omega) (by first | exact Nat.le_of_ble_eq_true rfl | omega) rfl (by first | rfl | assumption) ?_) | (refine QuG.keep ?_; first | refine QuG.upL cok 0 rfl rfl rfl rfl rfl rfl (by assumption) (by first | exact Nat.le_of_ble_eq_true rfl | omega) ?_) | (refine OpG.keep ?_; first | refine OpG.upS cok 0 rfl rfl rfl rfl rfl (by assumption) (by first | assumption | exact one_bvs _) (by first | exact Nat.le_of_ble_eq_true rfl | omega) ?_) | refine SeqS.go cok ?_)
  refine CallG.focus 1 rfl ?_
  refine (yPutD hsz hN hac2 hlen hEm).mono ?_
  rintro r _ hs ⟨J, w, rfl, hw⟩
  skip
  exact Fin.drop1 _ G [_, _] ⟨J, w, rfl, hw⟩
end Go.Proofs.YgvafwGreat
