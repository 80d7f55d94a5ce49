import Derived.Test.YgvafwGreatN14
set_option exponentiation.threshold 1000
set_option maxRecDepth 100000
set_option maxHeartbeats 4000000
set_option linter.unusedVariables false
set_option linter.unusedSimpArgs false
-- v2
namespace Go.Proofs.YgvafwGreat
open Go.HL Go.Proofs

section
variable {q : AQ} {σ τ : NS} {e : NE}
theorem RA.next (hq : q.Ok) (h : RA q σ) (hst : stepA q.K σ = .inl τ) : RA q τ ∧ τ.gas < σ.gas := by
  by_cases hc : famN (q.K.code.getD σ.pc 0) ≠ 16 ∨ σ.s.length < (arN (q.K.code.getD σ.pc 0)).1
  · exact h.nextN hq hc hst
  · obtain ⟨rfl, ho | ho⟩ := h.special hq hc
    · rw [q.e240 hq ho] at hst
      split at hst
      · cases hst
      · split at hst
        · cases hst
        · cases Sum.inl.inj hst
          exact h.cr hq (by omega)
    · rw [q.e255 hq ho] at hst; cases hst
theorem RA.fin (hq : q.Ok) (h : RA q σ) (hst : stepA q.K σ = .inr e) : FinA q e ∧ e.gas ≤ σ.gas := by
  by_cases hc : famN (q.K.code.getD σ.pc 0) ≠ 16 ∨ σ.s.length < (arN (q.K.code.getD σ.pc 0)).1
  · exact h.finN hq hc hst
  · obtain ⟨rfl, ho | ho⟩ := h.special hq hc
    · rw [q.e240 hq ho] at hst
      split at hst
      · cases Sum.inr.inj hst; exact ⟨FinA.w0 (by decide), Nat.zero_le _⟩
      · split at hst
        · cases Sum.inr.inj hst; exact ⟨FinA.w0 (by decide), Nat.zero_le _⟩
        · cases hst
    · rw [q.e255 hq ho] at hst
      cases Sum.inr.inj hst
      exact ⟨FinA.e255, by show 178991 - _ ≤ 178991; omega⟩
theorem RA.zero (hq : q.Ok) : RA q q.s0 := by
  have h := runOk0 (code := q.code) (ds := []) (gas := 200000) (by decide) (by rw [q.len hq]; decide) (q.bytes hq)
  exact ⟨h, (fun t ht => by cases ht), .inl rfl, .inl ⟨[], rfl, SsOk.nil⟩⟩
theorem RA.runs (hq : q.Ok) (hr : RunsA q.K σ e) : RA q σ → FinA q e ∧ e.gas ≤ σ.gas := by
  induction hr using RunsA.ind with
  | fin h => exact fun hR => hR.fin hq h
  | next h _ ih =>
    intro hR
    obtain ⟨h1, h2⟩ := hR.next hq h
    obtain ⟨h3, h4⟩ := ih h1
    exact ⟨h3, by omega⟩
theorem RunsA.exists (hq : q.Ok) : ∀ (n : Nat) (σ : NS), σ.gas < n → RA q σ → ∃ e, RunsA q.K σ e
  | 0, σ, h, _ => absurd h (Nat.not_lt_zero _)
  | n + 1, σ, h, hR => by
    cases hs : stepA q.K σ with
    | inr e => exact ⟨e, .fin hs⟩
    | inl τ =>
      obtain ⟨h1, h2⟩ := hR.next hq hs
      obtain ⟨e, he⟩ := RunsA.exists hq n τ (by omega) h1
      exact ⟨e, .next hs he⟩
/-- the conditions for the engine's step at CREATE -/
theorem AQ.crK (hq : q.Ok) : CrK q.K q.s3 := ⟨rfl, rfl, rfl, rfl, rfl, ⟨rfl, rfl⟩, rfl, rfl, rfl⟩
end
end Go.Proofs.YgvafwGreat
