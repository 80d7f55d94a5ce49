import Derived.Test.YgvafwGreatY32
set_option maxRecDepth 100000
set_option maxHeartbeats 4000000
set_option linter.unusedVariables false
set_option linter.unusedSimpArgs false
-- v2
-- v4
-- v5
-- v6
-- v7
namespace Go.Proofs.YgvafwGreat
open Go.HL Go.Proofs

/-- which built-in account number 1 is: none -/
theorem mNativeAt1 {S : St} : CallG Hvaf.prog 112 #[bytesV (adNo 1)] S fun r S' => S = S' ∧ r = .int .u8 0 := by
  refine CallG.start (C := mkC Hvaf.prog) cok (args := [bytesV (adNo 1)]) Hvaf.func112 rfl Hvaf.ntmps112 (by simp) (by kernel_rfl) ?_
  intro b1
  repeat (first | (refine QuG.keep ?_; first | refine QuG.eqA cok .u8 (xs := adNo 1) (ys := adNo 4) rfl rfl rfl rfl rfl (by kernel_rfl) rfl rfl rfl rfl ?_ | refine QuG.eqA cok .u8 (xs := adNo 1) (ys := adNo 5) rfl rfl rfl rfl rfl (by kernel_rfl) rfl rfl rfl rfl ?_) | refine SeqS.go cok ?_ | refine GuardS.yes rfl ?_ | refine CondS.f rfl ?_ | refine And.intro (fillOk_of (Eq.refl true)) ?_ | (refine QuG.keep ?_; first | refine QuG.lN cok 0 rfl rfl rfl rfl rfl (by first | exact Nat.le_of_ble_eq_true rfl | omega | (dsimp only; omega) | (simp only [addS_eq, mulS_eq]; omega)) ?_))
  exact Fin.drop S.G [_] ⟨rfl, rfl⟩
/-- mach.creates: the outer frame of a call makes no account. -/
theorem mCreates0 {S : St} : CallG Hvaf.prog 190 #[.int .u8 0] S fun r S' => S = S' ∧ r = .bool false := by
  refine CallG.start (C := mkC Hvaf.prog) cok (args := [.int .u8 0]) Hvaf.func190 rfl Hvaf.ntmps190 (by simp) (by kernel_rfl) ?_
  repeat (first | refine SeqS.go cok ?_ | refine GuardS.yes rfl ?_)
  exact Fin.same ⟨rfl, rfl⟩
/-- yp.creates: the outer frame of a call makes no account. -/
theorem yCreates0 {S : St} : CallG Hvaf.prog 142 #[.int .u8 0] S fun r S' => S = S' ∧ r = .bool false := by
  refine CallG.start (C := mkC Hvaf.prog) cok (args := [.int .u8 0]) Hvaf.func142 rfl Hvaf.ntmps142 (by simp) (by kernel_rfl) ?_
  repeat (first | refine SeqS.go cok ?_ | refine GuardS.yes rfl ?_)
  exact Fin.same ⟨rfl, rfl⟩
theorem u64T {S : St} {n : Nat} (hn : n < 18446744073709551616) : CallG Hvaf.prog 310 #[wordV n] S fun r S' => S = S' ∧ r = .tuple #[.int .u64 (n : Nat), .bool true] := by
  have h := UU64_spec (S := S) (a := n) (by omega)
  rwa [if_pos hn] at h
theorem u64F {S : St} {n : Nat} (hW : n < 115792089237316195423570985008687907853269984665640564039457584007913129639936) (hn : ¬ n < 18446744073709551616) : CallG Hvaf.prog 310 #[wordV n] S fun r S' => S = S' ∧ r = .tuple #[.int .u64 0, .bool false] := by
  have h := UU64_spec (S := S) hW
  rwa [if_neg hn] at h
/-- mach.source -/
theorem mSource {S : St} {n : Nat} (hn : n < 115792089237316195423570985008687907853269984665640564039457584007913129639936) : CallG Hvaf.prog 307 #[wordV n] S fun r S' => S = S' ∧ r = .int .u64 ((if n < 18446744073709551616 then n else 18446744073709551615 : Nat) : Int) := by
  by_cases h : n < 18446744073709551616
  · rw [if_pos h]
    replace hn : Hid _ := ⟨hn⟩
    refine CallG.start (C := mkC Hvaf.prog) cok (args := [wordV n]) Hvaf.func307 rfl Hvaf.ntmps307 (by simp) (by kernel_rfl) ?_
    intro b1
    repeat (first | refine SeqS.go cok ?_ | (refine QuG.keep ?_; first | refine QuG.lN cok 0 rfl rfl rfl rfl rfl (by first | exact Nat.le_of_ble_eq_true rfl | omega | (dsimp only; omega) | (simp only [addS_eq, mulS_eq]; omega)) ?_))
    refine (u64T h).mono ?_
    rintro r _ - ⟨rfl, rfl⟩
    repeat (first | refine SeqS.go cok ?_ | refine CondS.f rfl ?_)
    exact Fin.drop S.G [_] ⟨rfl, rfl⟩
  · rw [if_neg h]
    have hf := fun (S : St) => u64F (S := S) hn h
    replace hn : Hid _ := ⟨hn⟩
    replace h : Hid _ := ⟨h⟩
    refine CallG.start (C := mkC Hvaf.prog) cok (args := [wordV n]) Hvaf.func307 rfl Hvaf.ntmps307 (by simp) (by kernel_rfl) ?_
    intro b1
    repeat (first | refine SeqS.go cok ?_ | (refine QuG.keep ?_; first | refine QuG.lN cok 0 rfl rfl rfl rfl rfl (by first | exact Nat.le_of_ble_eq_true rfl | omega | (dsimp only; omega) | (simp only [addS_eq, mulS_eq]; omega)) ?_))
    refine (hf _).mono ?_
    rintro r _ - ⟨rfl, rfl⟩
    repeat (first | refine SeqS.go cok ?_ | refine CondS.t rfl ?_)
    exact Fin.drop S.G [_] ⟨rfl, rfl⟩
/-- mach.length -/
theorem mLength {S : St} {n : Nat} (hn : n < 18446744073709551616) : CallG Hvaf.prog 375 #[wordV n] S fun r S' => S = S' ∧ r = .int .u64 (n : Nat) := by
  refine CallG.start (C := mkC Hvaf.prog) cok (args := [wordV n]) Hvaf.func375 rfl Hvaf.ntmps375 (by simp) (by kernel_rfl) ?_
  intro b1
  repeat (first | refine SeqS.go cok ?_ | (refine QuG.keep ?_; first | refine QuG.lN cok 0 rfl rfl rfl rfl rfl (by first | exact Nat.le_of_ble_eq_true rfl | omega | (dsimp only; omega) | (simp only [addS_eq, mulS_eq]; omega)) ?_))
  refine (u64T hn).mono ?_
  rintro r _ - ⟨rfl, rfl⟩
  repeat (first | refine SeqS.go cok ?_)
  exact Fin.drop S.G [_] ⟨rfl, rfl⟩
/-- mach.small -/
theorem mSmall {S : St} {n : Nat} (hn : n < 4294967296) : CallG Hvaf.prog 309 #[wordV n] S fun r S' => S = S' ∧ r = .int .u32 (n : Nat) := by
  refine CallG.start (C := mkC Hvaf.prog) cok (args := [wordV n]) Hvaf.func309 rfl Hvaf.ntmps309 (by simp) (by kernel_rfl) ?_
  intro b1
  repeat (first | refine SeqS.go cok ?_ | (refine QuG.keep ?_; first | refine QuG.lN cok 0 rfl rfl rfl rfl rfl (by first | exact Nat.le_of_ble_eq_true rfl | omega | (dsimp only; omega) | (simp only [addS_eq, mulS_eq]; omega)) ?_))
  refine (u64T (Nat.lt_trans hn (by decide))).mono ?_
  rintro r _ - ⟨rfl, rfl⟩
  repeat (first | refine SeqS.go cok ?_ | refine GuardS.yes rfl ?_ | (refine ValS.keep ?_; first | (with_reducible refine ValS.kU32 ?_; first | (with_reducible refine ValS.convU32 ?_ ?_ ; omega))) | (refine CondS.keep ?_; first | refine CondS.d0 rfl (by omega) ?_))
  exact Fin.drop S.G [_] ⟨rfl, rfl⟩
end Go.Proofs.YgvafwGreat
