import Derived.Test.YgvafwGreatY31
set_option maxRecDepth 100000
set_option maxHeartbeats 4000000
set_option linter.unusedVariables false
set_option linter.unusedSimpArgs false
-- v2
-- v4
-- v5
-- v6
-- v7
namespace Go.Proofs.YgvafwGreat
open Go.HL Go.Proofs

/-- The address whose last byte is n. -/
def adNo (n : Nat) : List Nat := [0, 0, 0, 0, 0, 0, 0, 0, 0, 0, 0, 0, 0, 0, 0, 0, 0, 0, 0, n]
/-- Nothing is marked to go. -/
theorem yGoes0 {I : Ent → Prop} {G : List Ent} {wb sz : Nat} {T : TypeId} {c : Nat → Value} (hsz : 8 ≤ sz) (hc : c 7 = .slice none 0 0) :
    CallG Hvaf.prog 82 #[ptr wb 0] ⟨I, ⟨wb, sz, T, c⟩ :: G⟩ fun r S' => ⟨I, ⟨wb, sz, T, c⟩ :: G⟩ = S' := by
  refine CallG.start (C := mkC Hvaf.prog) cok (args := [ptr wb 0]) Hvaf.func82 rfl Hvaf.ntmps82 (by simp) (by kernel_rfl) ?_
  repeat (first | (refine QuG.keep ?_; first | refine QuG.l1E cok 0 rfl rfl rfl rfl rfl (by first | exact Nat.le_of_ble_eq_true rfl | omega | (dsimp only; omega) | (simp only [addS_eq, mulS_eq]; omega)) (by assumption) ?_) | refine SeqS.go cok ?_)
  refine W.loopG cok (by kernel_rfl) 0 (fun (_ : Unit) e' => slots [(8, .int .i64 (0 : Nat)), (9, .int .i64 (0 : Nat))] e') (fun _ => 0) () ⟨rfl, rfl, trivial⟩ (fun e' => True) ?_ ?_
  · rintro e' -
    skip
    exact Fin.same rfl
  · rintro _ e' hsl
    refine W.slots _ hsl fun e => ?_
    repeat (first | refine SeqS.go cok ?_ | refine CondS.f rfl ?_)
    exact ⟨rfl, trivial⟩
/-- Account 1 is no precompiled contract. -/
theorem yNativeAt1 {S : St} : CallG Hvaf.prog 63 #[bytesV (adNo 1)] S fun r S' => S = S' ∧ r = .int .u8 0 := by
  refine CallG.start (C := mkC Hvaf.prog) cok (args := [bytesV (adNo 1)]) Hvaf.func63 rfl Hvaf.ntmps63 (by simp) (by kernel_rfl) ?_
  intro b1
  repeat (first | (refine QuG.keep ?_; first | refine QuG.eqA cok .u8 (xs := adNo 1) (ys := adNo 4) rfl rfl rfl rfl rfl (by kernel_rfl) rfl rfl rfl rfl ?_ | refine QuG.eqA cok .u8 (xs := adNo 1) (ys := adNo 5) rfl rfl rfl rfl rfl (by kernel_rfl) rfl rfl rfl rfl ?_) | refine SeqS.go cok ?_ | refine GuardS.yes rfl ?_ | refine CondS.f rfl ?_ | refine And.intro (fillOk_of (Eq.refl true)) ?_ | (refine QuG.keep ?_; first | refine QuG.lN cok 0 rfl rfl rfl rfl rfl (by first | exact Nat.le_of_ble_eq_true rfl | omega | (dsimp only; omega) | (simp only [addS_eq, mulS_eq]; omega)) ?_))
  exact Fin.drop S.G [_] ⟨rfl, rfl⟩
end Go.Proofs.YgvafwGreat
