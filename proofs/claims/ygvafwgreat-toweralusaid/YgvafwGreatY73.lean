import Derived.Test.YgvafwGreatY72
set_option exponentiation.threshold 1000
set_option maxRecDepth 100000
set_option maxHeartbeats 4000000
set_option linter.unusedVariables false
set_option linter.unusedSimpArgs false
-- v2
-- v4
-- v5
-- v6
-- v7
namespace Go.Proofs.YgvafwGreat
open Go.HL Go.Proofs

section
variable {I : Ent → Prop} {sb ssz fb fsz : Nat} {Ts Tf : TypeId} {cs cf : Nat → Value} {K : YK} {σ : NS} {M ML : List Ent}
/-- The specification's Step refines stepN. -/
theorem yStep (h : YI I fb cs cf K σ M ML) (hsz : 179 ≤ ssz) (hfz : 60 ≤ fsz) (hN : NOk K σ) (hD : KY K) (hpc : σ.pc < 2 ^ 20) (hw0 : K.w0.lg = []) (h16 : famN (K.code.getD σ.pc 0) ≠ 16 ∨ σ.s.length < (arN (K.code.getD σ.pc 0)).1) :
    CallG Hvaf.prog 30 #[ptr sb 0] ⟨I, ⟨sb, ssz, Ts, cs⟩ :: ⟨fb, fsz, Tf, cf⟩ :: (M ++ ML)⟩ fun r S' => r = .bool true ∧ StY sb ssz fb fsz Ts Tf cs K (stepN kecN K σ) S' := by
  obtain ⟨o, ho⟩ : ∃ o, K.code.getD σ.pc 0 = o := ⟨_, rfl⟩
  have hmem : σ.pc < K.code.length → o ∈ K.code := fun hl => by
    rw [← ho, List.getD_eq_getElem?_getD, List.getElem?_eq_getElem hl]; exact List.getElem_mem hl
  have hz : ¬ σ.pc < K.code.length → o = 0 := fun hl => by
    rw [← ho, List.getD_eq_getElem?_getD, List.getElem?_eq_none (by omega)]; rfl
  have ho2 : o < 256 := by
    by_cases hl : σ.pc < K.code.length
    · exact hD.cb o (hmem hl)
    · rw [hz hl]; decide
  rw [ho] at h16
  by_cases hr : refN K σ.w σ.s σ.gas σ.mem.length o = 0
  · by_cases h0 : o = 0
    · subst h0
      have e : stepN kecN K σ = .inr ⟨0, (paidN K σ 0).gas, [], σ.w⟩ := by
        unfold stepN
        simp only [ho]
        rw [if_neg (by rw [hr]; simp), if_pos trivial]
      rw [e]
      exact yStep0 h hsz hfz hN ho hr
    · by_cases h1 : o = 243
      · subst h1
        have e : stepN kecN K σ = .inr ⟨0, (paidN K σ 243).gas, cutL (paidN K σ 243).mem (argN σ.s 0) (argN σ.s 1), σ.w⟩ := by
          unfold stepN
          simp only [ho]
          rw [if_neg (by rw [hr]; simp), if_neg (by decide), if_pos trivial]
        rw [e]
        exact yStepR h hsz hfz hN ho hr
      · by_cases h2 : o = 253
        · subst h2
          have e : stepN kecN K σ = .inr ⟨1, (paidN K σ 253).gas, cutL (paidN K σ 253).mem (argN σ.s 0) (argN σ.s 1), K.w0⟩ := by
            unfold stepN
            simp only [ho]
            rw [if_neg (by rw [hr]; simp), if_neg (by decide), if_neg (by decide), if_pos trivial]
          rw [e]
          exact yStepV h hsz hfz hN hw0 ho hr
        · have e : stepN kecN K σ = .inl (plainN kecN K (paidN K σ o) o) := by
            have := step_run (K := K) (σ := σ) (by rw [ho]; exact hr) (by rw [ho]; exact h0) (by rw [ho]; exact h1) (by rw [ho]; exact h2)
            rw [ho] at this; exact this
          rw [e]
          exact yStepP h hsz hfz hN hD hpc ho ho2 (h16.resolve_right (Nat.not_lt.2 (refN_ok hr).2.1)) h0 h1 h2 hr
  · have e : stepN kecN K σ = .inr ⟨refN K σ.w σ.s σ.gas σ.mem.length o, 0, [], K.w0⟩ := by
      have := step_fail (K := K) (σ := σ) (by rw [ho]; exact hr)
      rw [ho] at this; exact this
    rw [e]
    exact yStepF h hsz hfz hw0 ho ho2 h16 hr
/-- yp.Chain.Step where no transaction runs -/
theorem yStepE {G : List Ent} (hsz : 179 ≤ ssz) (hph : cs 11 = .int .u8 2) :
    CallG Hvaf.prog 30 #[ptr sb 0] ⟨I, ⟨sb, ssz, Ts, cs⟩ :: G⟩ fun r S' => ⟨I, ⟨sb, ssz, Ts, cs⟩ :: G⟩ = S' ∧ r = .bool false := by
  refine CallG.start (C := mkC Hvaf.prog) cok (args := [ptr sb 0]) Hvaf.func30 rfl Hvaf.ntmps30 (by simp) (by kernel_rfl) ?_
  repeat (first | (refine QuG.keep ?_; first | refine QuG.l1E cok 0 rfl rfl rfl rfl rfl (by first | exact Nat.le_of_ble_eq_true rfl | omega | (dsimp only; omega) | (simp only [addS_eq, mulS_eq]; omega)) (by assumption) ?_) | refine SeqS.go cok ?_ | refine GuardS.no rfl ?_ | refine CondS.t rfl ?_)
  exact Fin.same ⟨rfl, rfl⟩
end
end Go.Proofs.YgvafwGreat
