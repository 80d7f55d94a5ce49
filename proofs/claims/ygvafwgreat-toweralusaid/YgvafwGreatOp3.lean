import Derived.Test.YgvafwGreatOp2
set_option maxRecDepth 100000
set_option maxHeartbeats 4000000
set_option linter.unusedVariables false
set_option linter.unusedSimpArgs false
-- v2
namespace Go.Proofs.YgvafwGreat
open Go.HL Go.Proofs

/-- An instruction whose gas hangs on nothing. -/
def flatB (o : Nat) : Bool := decide ((o < 32 ∧ o ≠ 10) ∨ (95 ≤ o ∧ o ≤ 159) ∨ (88 ≤ o ∧ o ≤ 91))
theorem flat_case {S : St} {o : Nat} {v : Bool} (hv : flatB o = v) (h : CallG Hvaf.prog 276 #[.int .u8 (o : Nat)] S fun r S' => S = S' ∧ r = .bool v) :
    CallG Hvaf.prog 276 #[.int .u8 (o : Nat)] S fun r S' => S = S' ∧ r = .bool (flatB o) := by rw [hv]; exact h
/-- mach.Flat -/
theorem Flat_spec {S : St} {o : Nat} (ho : o < 256) :
    CallG Hvaf.prog 276 #[.int .u8 (o : Nat)] S fun r S' => S = S' ∧ r = .bool (flatB o) := by
  have hc : (0 ≤ o ∧ o ≤ 9) ∨ (10 ≤ o ∧ o ≤ 10) ∨ (11 ≤ o ∧ o ≤ 31) ∨ (32 ≤ o ∧ o ≤ 87) ∨ (88 ≤ o ∧ o ≤ 91) ∨ (92 ≤ o ∧ o ≤ 94) ∨ (95 ≤ o ∧ o ≤ 159) ∨ (160 ≤ o ∧ o ≤ 255) := by omega
  rcases hc with ⟨h1, h2⟩ | ⟨h1, h2⟩ | ⟨h1, h2⟩ | ⟨h1, h2⟩ | ⟨h1, h2⟩ | ⟨h1, h2⟩ | ⟨h1, h2⟩ | ⟨h1, h2⟩
  · refine flat_case (v := true) (by unfold flatB; simp only [decide_eq_true_eq]; omega) ?_
    refine CallG.start (C := mkC Hvaf.prog) cok (args := [.int .u8 (o : Nat)]) Hvaf.func276 rfl Hvaf.ntmps276 (by simp) (by kernel_rfl) ?_
    repeat (first | refine SeqS.go cok ?_ | refine GuardS.yes rfl ?_ | refine GuardS.no rfl ?_ | refine GuardS.U rfl ?_ | (refine GuardS.keep ?_; first | refine GuardS.T1 rfl (by omega) ?_ | refine GuardS.Fn1 rfl (by omega) ?_))
    exact Fin.same ⟨rfl, vB rfl (by first | rfl | (simp; done) | (simp; omega))⟩
  · refine flat_case (v := false) (by unfold flatB; simp only [decide_eq_false_iff_not]; omega) ?_
    refine CallG.start (C := mkC Hvaf.prog) cok (args := [.int .u8 (o : Nat)]) Hvaf.func276 rfl Hvaf.ntmps276 (by simp) (by kernel_rfl) ?_
    repeat (first | refine SeqS.go cok ?_ | refine GuardS.yes rfl ?_ | refine GuardS.no rfl ?_ | (refine GuardS.keep ?_; first | refine GuardS.T1 rfl (by omega) ?_ | refine GuardS.T0 rfl (by omega) ?_ | refine GuardS.Fn0 rfl (by omega) ?_))
    exact Fin.same ⟨rfl, vB rfl (by first | rfl | (simp; done) | (simp; omega))⟩
  · refine flat_case (v := true) (by unfold flatB; simp only [decide_eq_true_eq]; omega) ?_
    refine CallG.start (C := mkC Hvaf.prog) cok (args := [.int .u8 (o : Nat)]) Hvaf.func276 rfl Hvaf.ntmps276 (by simp) (by kernel_rfl) ?_
    repeat (first | refine SeqS.go cok ?_ | refine GuardS.yes rfl ?_ | refine GuardS.no rfl ?_ | refine GuardS.U rfl ?_ | (refine GuardS.keep ?_; first | refine GuardS.T1 rfl (by omega) ?_ | refine GuardS.Fn1 rfl (by omega) ?_))
    exact Fin.same ⟨rfl, vB rfl (by first | rfl | (simp; done) | (simp; omega))⟩
  · refine flat_case (v := false) (by unfold flatB; simp only [decide_eq_false_iff_not]; omega) ?_
    refine CallG.start (C := mkC Hvaf.prog) cok (args := [.int .u8 (o : Nat)]) Hvaf.func276 rfl Hvaf.ntmps276 (by simp) (by kernel_rfl) ?_
    repeat (first | refine SeqS.go cok ?_ | refine GuardS.yes rfl ?_ | refine GuardS.no rfl ?_ | (refine GuardS.keep ?_; first | refine GuardS.T0 rfl (by omega) ?_))
    exact Fin.same ⟨rfl, vB rfl (by first | rfl | (simp; done) | (simp; omega))⟩
  · refine flat_case (v := true) (by unfold flatB; simp only [decide_eq_true_eq]; omega) ?_
    refine CallG.start (C := mkC Hvaf.prog) cok (args := [.int .u8 (o : Nat)]) Hvaf.func276 rfl Hvaf.ntmps276 (by simp) (by kernel_rfl) ?_
    repeat (first | refine SeqS.go cok ?_ | refine GuardS.yes rfl ?_ | refine GuardS.no rfl ?_ | (refine GuardS.keep ?_; first | refine GuardS.T1 rfl (by omega) ?_ | refine GuardS.T0 rfl (by omega) ?_))
    exact Fin.same ⟨rfl, vB rfl (by first | rfl | (simp; done) | (simp; omega))⟩
  · refine flat_case (v := false) (by unfold flatB; simp only [decide_eq_false_iff_not]; omega) ?_
    refine CallG.start (C := mkC Hvaf.prog) cok (args := [.int .u8 (o : Nat)]) Hvaf.func276 rfl Hvaf.ntmps276 (by simp) (by kernel_rfl) ?_
    repeat (first | refine SeqS.go cok ?_ | refine GuardS.yes rfl ?_ | refine GuardS.no rfl ?_ | (refine GuardS.keep ?_; first | refine GuardS.T1 rfl (by omega) ?_ | refine GuardS.T0 rfl (by omega) ?_))
    exact Fin.same ⟨rfl, vB rfl (by first | rfl | (simp; done) | (simp; omega))⟩
  · refine flat_case (v := true) (by unfold flatB; simp only [decide_eq_true_eq]; omega) ?_
    refine CallG.start (C := mkC Hvaf.prog) cok (args := [.int .u8 (o : Nat)]) Hvaf.func276 rfl Hvaf.ntmps276 (by simp) (by kernel_rfl) ?_
    repeat (first | refine SeqS.go cok ?_ | refine GuardS.yes rfl ?_ | refine GuardS.no rfl ?_ | refine GuardS.U rfl ?_ | (refine GuardS.keep ?_; first | refine GuardS.T1 rfl (by omega) ?_ | refine GuardS.T0 rfl (by omega) ?_ | refine GuardS.F1 rfl (by omega) ?_))
    exact Fin.same ⟨rfl, vB rfl (by first | rfl | (simp; done) | (simp; omega))⟩
  · refine flat_case (v := false) (by unfold flatB; simp only [decide_eq_false_iff_not]; omega) ?_
    refine CallG.start (C := mkC Hvaf.prog) cok (args := [.int .u8 (o : Nat)]) Hvaf.func276 rfl Hvaf.ntmps276 (by simp) (by kernel_rfl) ?_
    repeat (first | refine SeqS.go cok ?_ | refine GuardS.yes rfl ?_ | refine GuardS.no rfl ?_ | (refine GuardS.keep ?_; first | refine GuardS.T1 rfl (by omega) ?_ | refine GuardS.T0 rfl (by omega) ?_ | refine GuardS.F0 rfl (by omega) ?_))
    exact Fin.same ⟨rfl, vB rfl (by first | rfl | (simp; done) | (simp; omega))⟩
end Go.Proofs.YgvafwGreat
