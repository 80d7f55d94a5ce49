import Derived.Test.YgvafwGreatM2
set_option maxRecDepth 100000
set_option maxHeartbeats 4000000
set_option linter.unusedVariables false
set_option linter.unusedSimpArgs false
-- v2
namespace Go.Proofs.YgvafwGreat
open Go.HL Go.Proofs
/-- mach.CopyCost -/
theorem mCopyCost {S : St} {n : Nat} (hn : n < 2 ^ 40) : CallG Hvaf.prog 376 #[.int .u64 (n : Nat)] S fun r S' => S = S' ∧ r = .int .u64 (3 * ((n + 31) / 32) : Nat) := by
  have hw := fun (S : St) => Words_spec (S := S) (n := n) (by omega)
  refine CallG.start (C := mkC Hvaf.prog) cok (args := [.int .u64 (n : Nat)]) Hvaf.func376 rfl Hvaf.ntmps376 (by simp) (by kernel_rfl) ?_
  repeat (first | refine SeqS.go cok ?_)
  refine (hw _).mono ?_
  rintro r _ - ⟨rfl, rfl⟩
  repeat (first | refine SeqS.go cok ?_ | (refine ValS.keep ?_; first | (with_reducible refine ValS.kU64 ?_; first | (with_reducible refine ValS.mulU64_M ?_ ?_ ; omega))))
  exact Fin.same ⟨rfl, rfl⟩
/-- mach.ExpCost -/
theorem mExpCost {S : St} {n : Nat} (hn : n < 115792089237316195423570985008687907853269984665640564039457584007913129639936) : CallG Hvaf.prog 374 #[wordV n] S fun r S' => S = S' ∧ r = .int .u64 (10 + 50 * ((blen n + 7) / 8) : Nat) := by
  have hb := blen_le (x := n) (n := 256) hn
  have hw := fun (S : St) => UNBytes_spec (S := S) hn
  replace hn : Hid _ := ⟨hn⟩
  refine CallG.start (C := mkC Hvaf.prog) cok (args := [wordV n]) Hvaf.func374 rfl Hvaf.ntmps374 (by simp) (by kernel_rfl) ?_
  intro b1
  repeat (first | refine SeqS.go cok ?_ | (refine QuG.keep ?_; first | refine QuG.lN cok 0 rfl rfl rfl rfl rfl (by first | exact Nat.le_of_ble_eq_true rfl | omega | (dsimp only; omega) | (simp only [addS_eq, mulS_eq]; omega)) ?_))
  refine (hw _).mono ?_
  rintro r _ - ⟨rfl, rfl⟩
  repeat (first | refine SeqS.go cok ?_ | (refine ValS.keep ?_; first | (with_reducible refine ValS.kU64 ?_; first | (with_reducible refine ValS.convU64 ?_ ?_ ; omega) | (with_reducible refine ValS.addU64_M ?_ ?_ ; omega) | (with_reducible refine ValS.mulU64_M ?_ ?_ ; omega))))
  exact Fin.drop S.G [_] ⟨rfl, rfl⟩
end Go.Proofs.YgvafwGreat
