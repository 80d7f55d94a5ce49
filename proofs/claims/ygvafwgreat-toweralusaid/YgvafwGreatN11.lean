import Derived.Test.YgvafwGreatN10
import Derived.Test.YgvafwGreatN9
import Derived.Test.YgvafwGreatN6
import Derived.Test.YgvafwGreatN4
set_option exponentiation.threshold 1000
set_option maxRecDepth 100000
set_option maxHeartbeats 4000000
set_option linter.unusedVariables false
set_option linter.unusedSimpArgs false
-- v2
namespace Go.Proofs.YgvafwGreat
open Go.HL Go.Proofs

/-- A whole run with CREATE and SELFDESTRUCT. -/
def runA (K : YK) : Nat → NS → Option NE
  | 0, _ => none
  | n + 1, σ => match stepA K σ with
    | .inr e => some e
    | .inl τ => runA K n τ
def RunsA (K : YK) (σ : NS) (e : NE) : Prop := ∃ n, runA K n σ = some e
theorem RunsA.fin {K : YK} {σ : NS} {e : NE} (h : stepA K σ = .inr e) : RunsA K σ e := ⟨1, by simp only [runA, h]⟩
theorem RunsA.next {K : YK} {σ τ : NS} {e : NE} (h : stepA K σ = .inl τ) (hr : RunsA K τ e) : RunsA K σ e := by
  obtain ⟨n, hn⟩ := hr
  exact ⟨n + 1, by simp only [runA, h]; exact hn⟩
theorem RunsA.ind {K : YK} {motive : (σ : NS) → (e : NE) → RunsA K σ e → Prop} (fin : ∀ {σ : NS} {e : NE} (h : stepA K σ = .inr e), motive σ e (.fin h))
    (next : ∀ {σ τ : NS} {e : NE} (h : stepA K σ = .inl τ) (hr : RunsA K τ e), motive τ e hr → motive σ e (.next h hr)) {σ : NS} {e : NE} (h : RunsA K σ e) : motive σ e h := by
  obtain ⟨n, hn⟩ := h
  induction n generalizing σ with
  | zero => cases hn
  | succ n ih =>
    cases hs : stepA K σ with
    | inr e1 =>
      have h1 : e1 = e := by simp only [runA, hs] at hn; exact Option.some.inj hn
      subst h1
      exact fin hs
    | inl τ =>
      have h1 : runA K n τ = some e := by simp only [runA, hs] at hn; exact hn
      exact next hs ⟨n, h1⟩ (ih h1)
theorem RunsA.inv {K : YK} {σ : NS} {e : NE} (h : RunsA K σ e) : stepA K σ = .inr e ∨ ∃ τ, stepA K σ = .inl τ ∧ RunsA K τ e := by
  induction h using RunsA.ind with
  | fin h => exact .inl h
  | next h hr _ => exact .inr ⟨_, h, hr⟩
theorem RunsA.det {K : YK} {σ : NS} {e e' : NE} (h : RunsA K σ e) (h' : RunsA K σ e') : e = e' := by
  induction h using RunsA.ind with
  | fin h =>
    rcases h'.inv with h2 | ⟨τ, h2, _⟩
    · rw [h] at h2; exact Sum.inr.inj h2
    · rw [h] at h2; cases h2
  | next h _ ih =>
    rcases h'.inv with h2 | ⟨τ, h2, h3⟩
    · rw [h] at h2; cases h2
    · rw [h] at h2; cases Sum.inl.inj h2; exact ih h3
/-- The accounts behind a creation. -/
def alC (code : List Nat) : List YA := [⟨adNo 1, 2, 0, code, []⟩, ⟨adNo 240, 1, 2 ^ 128, [], []⟩, ⟨crAd, 1, 0, [], []⟩]
theorem crW_al (code ds : List Nat) : (crW (K0 code ds waN) (W0 code waN)).al = alC code := rfl
end Go.Proofs.YgvafwGreat
