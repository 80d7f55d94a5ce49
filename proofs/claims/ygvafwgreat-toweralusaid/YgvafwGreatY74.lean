import Derived.Test.YgvafwGreatL2
import Derived.Test.YgvafwGreatY48
set_option exponentiation.threshold 1000
set_option maxRecDepth 100000
set_option maxHeartbeats 4000000
set_option linter.unusedVariables false
set_option linter.unusedSimpArgs false
-- v2
-- v4
-- v5
-- v6
-- v7
namespace Go.Proofs.YgvafwGreat
open Go.HL Go.Proofs

/-- obs.Tx.Fees -/
theorem yFees {I : Ent → Prop} {G : List Ent} {tb sz gas : Nat} {T : TypeId} {dv : Value} (hsz : 174 ≤ sz) :
    CallG Hvaf.prog 130 #[ptr tb 0] ⟨I, ⟨tb, sz, T, vc (txV dv gas)⟩ :: G⟩ fun r S' => ⟨I, ⟨tb, sz, T, vc (txV dv gas)⟩ :: G⟩ = S' ∧ r = .tuple #[bytesV z32, bytesV z32] := by
  refine CallG.start (C := mkC Hvaf.prog) cok (args := [ptr tb 0]) Hvaf.func130 rfl Hvaf.ntmps130 (by simp) (by kernel_rfl) ?_
  intro b2 b3
  repeat (first | refine SeqS.go cok ?_ | refine CondS.f rfl ?_ | (refine QuG.keep ?_; first | refine QuG.l1 cok 2 rfl rfl rfl rfl rfl (by first | exact Nat.le_of_ble_eq_true rfl | omega | (dsimp only; omega) | (simp only [addS_eq, mulS_eq]; omega)) ?_ | refine QuG.lN cok 2 rfl rfl rfl rfl rfl (by first | exact Nat.le_of_ble_eq_true rfl | omega | (dsimp only; omega) | (simp only [addS_eq, mulS_eq]; omega)) ?_) | (refine still_in ?_; first | refine still_nil ?_ | refine still_drop (by decide) ?_ | (refine still_keep (by decide) rfl ?_ ?_; first | exact QuV.lN cok 2 rfl rfl rfl rfl rfl (by first | exact Nat.le_of_ble_eq_true rfl | omega | (dsimp only; omega) | (simp only [addS_eq, mulS_eq]; omega)) rfl)) | (refine LdG.keep ?_; first | refine LdG.lN cok 0 rfl rfl rfl rfl rfl (by first | exact Nat.le_of_ble_eq_true rfl | omega | (dsimp only; omega) | (simp only [addS_eq, mulS_eq]; omega)) ?_ | refine LdG.lN cok 1 rfl rfl rfl rfl rfl (by first | exact Nat.le_of_ble_eq_true rfl | omega | (dsimp only; omega) | (simp only [addS_eq, mulS_eq]; omega)) ?_) | (refine OpG.keep ?_; first | refine OpG.sL cok 0 rfl rfl rfl rfl rfl rfl rfl (by first | exact Nat.le_of_ble_eq_true rfl | omega | (dsimp only; omega) | (simp only [addS_eq, mulS_eq]; omega)) ?_ | refine OpG.sL cok 1 rfl rfl rfl rfl rfl rfl rfl (by first | exact Nat.le_of_ble_eq_true rfl | omega | (dsimp only; omega) | (simp only [addS_eq, mulS_eq]; omega)) ?_) | refine W.drawI 3 cok [0, 1, 3, 7, 0, 16, 48, 112, 15, 511] [0, 1, 2, 3, 4, 5, 6, 7, 8, 9] [3, 7] (by kernel_rfl) (by kernel_rfl) ?_)
  exact Fin.drop (⟨tb, sz, T, vc (txV dv gas)⟩ :: G) [_, _] ⟨rfl, rfl⟩
/-- obs.Tx.ListOK -/
theorem yListOK {I : Ent → Prop} {G : List Ent} {tb sz gas : Nat} {T : TypeId} {dv : Value} (hsz : 174 ≤ sz) :
    CallG Hvaf.prog 132 #[ptr tb 0] ⟨I, ⟨tb, sz, T, vc (txV dv gas)⟩ :: G⟩ fun r S' => ⟨I, ⟨tb, sz, T, vc (txV dv gas)⟩ :: G⟩ = S' ∧ r = .bool true := by
  refine CallG.start (C := mkC Hvaf.prog) cok (args := [ptr tb 0]) Hvaf.func132 rfl Hvaf.ntmps132 (by simp) (by kernel_rfl) ?_
  repeat (first | refine SeqS.go cok ?_ | refine CondS.f rfl ?_ | (refine QuG.keep ?_; first | refine QuG.l1 cok 0 rfl rfl rfl rfl rfl (by first | exact Nat.le_of_ble_eq_true rfl | omega | (dsimp only; omega) | (simp only [addS_eq, mulS_eq]; omega)) ?_))
  refine W.rounds cok (by kernel_rfl) 1 ?_
  repeat (first | refine SeqS.go cok ?_ | refine CondS.f rfl ?_)
  exact Fin.same ⟨rfl, rfl⟩
end Go.Proofs.YgvafwGreat
