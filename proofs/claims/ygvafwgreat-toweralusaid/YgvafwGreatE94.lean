import Derived.Test.YgvafwGreatN15
set_option exponentiation.threshold 1000
set_option maxRecDepth 100000
set_option maxHeartbeats 4000000
set_option linter.unusedVariables false
set_option linter.unusedSimpArgs false
-- v2
namespace Go.Proofs.YgvafwGreat
open Go.HL Go.Proofs

section
variable {I : Ent → Prop} {cb sz : Nat} {T : TypeId} {c : Nat → Value} {V : Vl} {M G : List Ent} {q : AQ} {σ : NS}
/-- mach.Machine.Step refines stepA along the program's run -/
theorem mStepX (hq : q.Ok) (hR : RA q σ) (h : NI I cb sz c q.K V σ M G) :
    CallG Hvaf.prog 46 #[ptr cb 0] ⟨I, ⟨cb, sz, T, c⟩ :: (M ++ G)⟩ fun r S' => r = .bool true ∧ StX cb sz T c q.K σ.gas (stepA q.K σ) S' := by
  have hC : KC q.K := ⟨by show q.code.length ≤ 512; rw [q.len hq]; decide, rfl, rfl⟩
  by_cases hc : famN (q.K.code.getD σ.pc 0) ≠ 16 ∨ σ.s.length < (arN (q.K.code.getD σ.pc 0)).1
  · have e : stepA q.K σ = stepN kecN q.K σ := by unfold stepA; rw [if_pos hc]
    rw [e]
    refine (mStep hC h hc).mono ?_
    rintro r S' _ ⟨rfl, hq2⟩
    refine ⟨rfl, ?_⟩
    cases hs : stepN kecN q.K σ with
    | inl τ => rw [hs] at hq2; exact .inl hq2
    | inr e => rw [hs] at hq2; exact hq2
  · obtain ⟨rfl, ho | ho⟩ := hR.special hq hc
    · have hk : q.K.code.getD q.s3.pc 0 = 240 := (q.at3 hq 0).trans ho
      rw [q.e240 hq ho]
      by_cases h1 : 512 < argN q.s3.s 2
      · rw [if_pos h1]
        exact mStep240F h hk (AQ.crK hq) (mPsIc h.ei h1)
      · rw [if_neg h1]
        by_cases h2 : 178991 < crcN q.s3.s 0
        · rw [if_pos h2]
          exact mStep240F h hk (AQ.crK hq) (mPs240N h (by omega) h2)
        · rw [if_neg h2]
          exact mStep240 h hk (AQ.crK hq) (by omega) (by show crcN q.s3.s 0 ≤ 178991; omega) (by show 99 + 1 < 60000; decide)
    · have hk : q.K.code.getD q.s3.pc 0 = 255 := (q.at3 hq 0).trans ho
      rw [q.e255 hq ho]
      exact mStep255 h hk (by show 1 ≤ 3; decide) rfl rfl (by show 7600 ≤ 178991; decide)
end
end Go.Proofs.YgvafwGreat
