import Derived.Test.YgvafwGreatE30
import Derived.Test.YgvafwGreatE34
import Derived.Test.YgvafwGreatM1
import Derived.Test.YgvafwGreatM3
import Derived.Test.YgvafwGreatY35
set_option exponentiation.threshold 1000
set_option maxRecDepth 100000
set_option maxHeartbeats 4000000
set_option linter.unusedVariables false
set_option linter.unusedSimpArgs false
-- v2
-- v4
-- v5
-- v6
-- v7
namespace Go.Proofs.YgvafwGreat
open Go.HL Go.Proofs
/-- mach.reach, within the bound -/
theorem mReachY {S : St} {off n : Nat} (ho : off < 115792089237316195423570985008687907853269984665640564039457584007913129639936) (hn : n < 115792089237316195423570985008687907853269984665640564039457584007913129639936) (h : endN off n ≤ 717280) : CallG Hvaf.prog 371 #[wordV off, wordV n] S fun r S' => S = S' ∧ r = .tuple #[.int .u64 (((endN off n + 31) / 32 : Nat) : Int), .bool true] := by
  have hz := fun S => UIsZero_spec (S := S) hn
  unfold endN at *
  by_cases h0 : n = 0
  · rw [decide_eq_true h0] at hz
    rw [if_pos h0]
    refine CallG.start (C := mkC Hvaf.prog) cok (args := [wordV off, wordV n]) Hvaf.func371 rfl Hvaf.ntmps371 (by simp) (by kernel_rfl) ?_
    intro x1 x2
    repeat (first | refine SeqS.go cok ?_ | (refine QuG.keep ?_; first | refine QuG.lN cok 0 rfl rfl rfl rfl rfl (by first | exact Nat.le_of_ble_eq_true rfl | omega | (dsimp only; omega) | (simp only [addS_eq, mulS_eq]; omega)) ?_))
    refine (hz _).mono ?_
    rintro r _ - ⟨rfl, rfl⟩
    repeat (first | refine SeqS.go cok ?_ | refine CondS.t rfl ?_)
    exact Fin.drop S.G [_, _] ⟨rfl, rfl⟩
  · rw [decide_eq_false h0] at hz
    rw [if_neg h0] at h ⊢
    have hu1 := fun S => u64T (S := S) (n := n) (by omega)
    have hu2 := fun S => u64T (S := S) (n := off) (by omega)
    have hw := fun S => Words_spec (S := S) (n := off + n) (by omega)
    replace ho : Hid _ := ⟨ho⟩
    replace hn : Hid _ := ⟨hn⟩
    refine CallG.start (C := mkC Hvaf.prog) cok (args := [wordV off, wordV n]) Hvaf.func371 rfl Hvaf.ntmps371 (by simp) (by kernel_rfl) ?_
    intro x1 x2
    repeat (first | refine SeqS.go cok ?_ | (refine QuG.keep ?_; first | refine QuG.lN cok 0 rfl rfl rfl rfl rfl (by first | exact Nat.le_of_ble_eq_true rfl | omega | (dsimp only; omega) | (simp only [addS_eq, mulS_eq]; omega)) ?_))
    refine (hz _).mono ?_
    rintro r _ - ⟨rfl, rfl⟩
    repeat (first | refine SeqS.go cok ?_ | refine CondS.f rfl ?_ | (refine QuG.keep ?_; first | refine QuG.lN cok 0 rfl rfl rfl rfl rfl (by first | exact Nat.le_of_ble_eq_true rfl | omega | (dsimp only; omega) | (simp only [addS_eq, mulS_eq]; omega)) ?_))
    refine (hu1 _).mono ?_
    rintro r _ - ⟨rfl, rfl⟩
    repeat (first | refine SeqS.go cok ?_ | (refine QuG.keep ?_; first | refine QuG.lN cok 1 rfl rfl rfl rfl rfl (by first | exact Nat.le_of_ble_eq_true rfl | omega | (dsimp only; omega) | (simp only [addS_eq, mulS_eq]; omega)) ?_))
    refine (hu2 _).mono ?_
    rintro r _ - ⟨rfl, rfl⟩
    repeat (first | refine SeqS.go cok ?_ | refine GuardS.yes rfl ?_ | (refine ValS.keep ?_; first | (with_reducible refine ValS.kU64 ?_; first | (with_reducible refine ValS.addU64 ?_ ?_ ; omega) | (with_reducible refine ValS.subU64_M ?_ ?_ ?_ ; omega; omega))) | (refine GuardS.keep ?_; first | refine GuardS.F0 rfl (by omega) ?_) | (refine CondS.keep ?_; first | refine CondS.d0 rfl (by omega) ?_))
    refine (hw _).mono ?_
    rintro r _ - ⟨rfl, rfl⟩
    repeat (first | refine SeqS.go cok ?_)
    exact Fin.drop S.G [_, _] ⟨rfl, rfl⟩
/-- mach.reach, beyond the bound -/
theorem mReachN {S : St} {off n : Nat} (ho : off < 115792089237316195423570985008687907853269984665640564039457584007913129639936) (hn : n < 115792089237316195423570985008687907853269984665640564039457584007913129639936) (h : 717280 < endN off n) : CallG Hvaf.prog 371 #[wordV off, wordV n] S fun r S' => S = S' ∧ r = .tuple #[.int .u64 ((0 : Nat) : Int), .bool false] := by
  have hz := fun S => UIsZero_spec (S := S) hn
  unfold endN at *
  have h0 : ¬ n = 0 := by intro e; rw [if_pos e] at h; omega
  rw [decide_eq_false h0] at hz
  rw [if_neg h0] at h
  by_cases h1 : n < 18446744073709551616
  · have hu1 := fun S => u64T (S := S) (n := n) h1
    by_cases h2 : off < 18446744073709551616
    · have hu2 := fun S => u64T (S := S) (n := off) h2
      by_cases h3 : 717280 < n
      all_goals (
        refine CallG.start (C := mkC Hvaf.prog) cok (args := [wordV off, wordV n]) Hvaf.func371 rfl Hvaf.ntmps371 (by simp) (by kernel_rfl) ?_
        intro x1 x2
        repeat (first | refine SeqS.go cok ?_ | (refine QuG.keep ?_; first | refine QuG.lN cok 0 rfl rfl rfl rfl rfl (by first | exact Nat.le_of_ble_eq_true rfl | omega | (dsimp only; omega) | (simp only [addS_eq, mulS_eq]; omega)) ?_))
        refine (hz _).mono ?_
        rintro r _ - ⟨rfl, rfl⟩
        repeat (first | refine SeqS.go cok ?_ | refine CondS.f rfl ?_ | (refine QuG.keep ?_; first | refine QuG.lN cok 0 rfl rfl rfl rfl rfl (by first | exact Nat.le_of_ble_eq_true rfl | omega | (dsimp only; omega) | (simp only [addS_eq, mulS_eq]; omega)) ?_))
        refine (hu1 _).mono ?_
        rintro r _ - ⟨rfl, rfl⟩
        repeat (first | refine SeqS.go cok ?_ | (refine QuG.keep ?_; first | refine QuG.lN cok 1 rfl rfl rfl rfl rfl (by first | exact Nat.le_of_ble_eq_true rfl | omega | (dsimp only; omega) | (simp only [addS_eq, mulS_eq]; omega)) ?_))
        refine (hu2 _).mono ?_
        rintro r _ - ⟨rfl, rfl⟩
        repeat (first | refine SeqS.go cok ?_ | refine GuardS.yes rfl ?_ | refine GuardS.no rfl ?_ | refine CondS.t rfl ?_ | (refine ValS.keep ?_; first | (with_reducible refine ValS.kU64 ?_; first | (with_reducible refine ValS.subU64_M ?_ ?_ ?_ ; omega; omega))) | (refine GuardS.keep ?_; first | refine GuardS.F1 rfl (by omega) ?_ | refine GuardS.F0 rfl (by omega) ?_) | (refine CondS.keep ?_; first | refine CondS.d1 rfl (by omega) ?_))
        exact Fin.drop S.G [_, _] ⟨rfl, rfl⟩)
    · have hu2 := fun S => u64F (S := S) (n := off) ho h2
      replace ho : Hid _ := ⟨ho⟩
      replace hn : Hid _ := ⟨hn⟩
      refine CallG.start (C := mkC Hvaf.prog) cok (args := [wordV off, wordV n]) Hvaf.func371 rfl Hvaf.ntmps371 (by simp) (by kernel_rfl) ?_
      intro x1 x2
      repeat (first | refine SeqS.go cok ?_ | (refine QuG.keep ?_; first | refine QuG.lN cok 0 rfl rfl rfl rfl rfl (by first | exact Nat.le_of_ble_eq_true rfl | omega | (dsimp only; omega) | (simp only [addS_eq, mulS_eq]; omega)) ?_))
      refine (hz _).mono ?_
      rintro r _ - ⟨rfl, rfl⟩
      repeat (first | refine SeqS.go cok ?_ | refine CondS.f rfl ?_ | (refine QuG.keep ?_; first | refine QuG.lN cok 0 rfl rfl rfl rfl rfl (by first | exact Nat.le_of_ble_eq_true rfl | omega | (dsimp only; omega) | (simp only [addS_eq, mulS_eq]; omega)) ?_))
      refine (hu1 _).mono ?_
      rintro r _ - ⟨rfl, rfl⟩
      repeat (first | refine SeqS.go cok ?_ | (refine QuG.keep ?_; first | refine QuG.lN cok 1 rfl rfl rfl rfl rfl (by first | exact Nat.le_of_ble_eq_true rfl | omega | (dsimp only; omega) | (simp only [addS_eq, mulS_eq]; omega)) ?_))
      refine (hu2 _).mono ?_
      rintro r _ - ⟨rfl, rfl⟩
      repeat (first | refine SeqS.go cok ?_ | refine GuardS.yes rfl ?_ | refine GuardS.no rfl ?_ | refine CondS.t rfl ?_)
      exact Fin.drop S.G [_, _] ⟨rfl, rfl⟩
  · have hu1 := fun S => u64F (S := S) (n := n) hn h1
    have hu2 := fun S => UU64_spec (S := S) ho
    have hb : ∃ v p, ∀ S, CallG Hvaf.prog 310 #[wordV off] S fun r S' => S = S' ∧ r = .tuple #[.int .u64 (v : Nat), .bool p] := by
      by_cases h2 : off < 18446744073709551616
      · exact ⟨off, true, fun S => u64T h2⟩
      · exact ⟨0, false, fun S => u64F ho h2⟩
    obtain ⟨v, p, hu3⟩ := hb
    clear hu2
    replace ho : Hid _ := ⟨ho⟩
    replace hn : Hid _ := ⟨hn⟩
    refine CallG.start (C := mkC Hvaf.prog) cok (args := [wordV off, wordV n]) Hvaf.func371 rfl Hvaf.ntmps371 (by simp) (by kernel_rfl) ?_
    intro x1 x2
    repeat (first | refine SeqS.go cok ?_ | (refine QuG.keep ?_; first | refine QuG.lN cok 0 rfl rfl rfl rfl rfl (by first | exact Nat.le_of_ble_eq_true rfl | omega | (dsimp only; omega) | (simp only [addS_eq, mulS_eq]; omega)) ?_))
    refine (hz _).mono ?_
    rintro r _ - ⟨rfl, rfl⟩
    repeat (first | refine SeqS.go cok ?_ | refine CondS.f rfl ?_ | (refine QuG.keep ?_; first | refine QuG.lN cok 0 rfl rfl rfl rfl rfl (by first | exact Nat.le_of_ble_eq_true rfl | omega | (dsimp only; omega) | (simp only [addS_eq, mulS_eq]; omega)) ?_))
    refine (hu1 _).mono ?_
    rintro r _ - ⟨rfl, rfl⟩
    repeat (first | refine SeqS.go cok ?_ | (refine QuG.keep ?_; first | refine QuG.lN cok 1 rfl rfl rfl rfl rfl (by first | exact Nat.le_of_ble_eq_true rfl | omega | (dsimp only; omega) | (simp only [addS_eq, mulS_eq]; omega)) ?_))
    refine (hu3 _).mono ?_
    rintro r _ - ⟨rfl, rfl⟩
    repeat (first | refine SeqS.go cok ?_ | refine GuardS.no rfl ?_ | refine CondS.t rfl ?_)
    exact Fin.drop S.G [_, _] ⟨rfl, rfl⟩
end Go.Proofs.YgvafwGreat
