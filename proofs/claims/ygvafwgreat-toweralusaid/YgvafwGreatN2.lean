import Derived.Test.YgvafwGreatN1
set_option exponentiation.threshold 1000
set_option maxRecDepth 100000
set_option maxHeartbeats 4000000
set_option linter.unusedVariables false
set_option linter.unusedSimpArgs false
-- v2
namespace Go.Proofs.YgvafwGreat
open Go.HL Go.Proofs

/-- A whole run. -/
def runF (K : YK) : Nat → NS → Option NE
  | 0, _ => none
  | n + 1, σ => match stepN kecN K σ with
    | .inr e => some e
    | .inl τ => runF K n τ
def Runs (K : YK) (σ : NS) (e : NE) : Prop := ∃ n, runF K n σ = some e
theorem Runs.fin {K : YK} {σ : NS} {e : NE} (h : stepN kecN K σ = .inr e) : Runs K σ e := ⟨1, by simp only [runF, h]⟩
theorem Runs.next {K : YK} {σ τ : NS} {e : NE} (h : stepN kecN K σ = .inl τ) (hr : Runs K τ e) : Runs K σ e := by
  obtain ⟨n, hn⟩ := hr
  exact ⟨n + 1, by simp only [runF, h]; exact hn⟩
theorem Runs.ind {K : YK} {motive : (σ : NS) → (e : NE) → Runs K σ e → Prop} (fin : ∀ {σ : NS} {e : NE} (h : stepN kecN K σ = .inr e), motive σ e (.fin h))
    (next : ∀ {σ τ : NS} {e : NE} (h : stepN kecN K σ = .inl τ) (hr : Runs K τ e), motive τ e hr → motive σ e (.next h hr)) {σ : NS} {e : NE} (h : Runs K σ e) : motive σ e h := by
  obtain ⟨n, hn⟩ := h
  induction n generalizing σ with
  | zero => cases hn
  | succ n ih =>
    cases hs : stepN kecN K σ with
    | inr e1 =>
      have h1 : e1 = e := by simp only [runF, hs] at hn; exact Option.some.inj hn
      subst h1
      exact fin hs
    | inl τ =>
      have h1 : runF K n τ = some e := by simp only [runF, hs] at hn; exact hn
      exact next hs ⟨n, h1⟩ (ih h1)
theorem Runs.inv {K : YK} {σ : NS} {e : NE} (h : Runs K σ e) : stepN kecN K σ = .inr e ∨ ∃ τ, stepN kecN K σ = .inl τ ∧ Runs K τ e := by
  induction h using Runs.ind with
  | fin h => exact .inl h
  | next h hr _ => exact .inr ⟨_, h, hr⟩
theorem Runs.det {K : YK} {σ : NS} {e e' : NE} (h : Runs K σ e) (h' : Runs K σ e') : e = e' := by
  induction h using Runs.ind with
  | fin h =>
    rcases h'.inv with h2 | ⟨τ, h2, _⟩
    · rw [h] at h2; exact Sum.inr.inj h2
    · rw [h] at h2; cases h2
  | next h _ ih =>
    rcases h'.inv with h2 | ⟨τ, h2, h3⟩
    · rw [h] at h2; cases h2
    · rw [h] at h2; cases Sum.inl.inj h2; exact ih h3
/-- What holds along a run. -/
structure RunOk (K : YK) (σ : NS) : Prop where
  n : NOk K σ
  pc : σ.pc ≤ K.code.length + 33
theorem step_inl {K : YK} {σ τ : NS} (h : stepN kecN K σ = .inl τ) : refN K σ.w σ.s σ.gas σ.mem.length (K.code.getD σ.pc 0) = 0 ∧ K.code.getD σ.pc 0 ≠ 0 ∧ K.code.getD σ.pc 0 ≠ 243 ∧ K.code.getD σ.pc 0 ≠ 253 ∧ τ = plainN kecN K (paidN K σ (K.code.getD σ.pc 0)) (K.code.getD σ.pc 0) := by
  by_cases hr : refN K σ.w σ.s σ.gas σ.mem.length (K.code.getD σ.pc 0) = 0
  · unfold stepN at h
    simp only at h
    rw [if_neg (by rw [hr]; simp)] at h
    split at h
    · cases h
    · split at h
      · cases h
      · split at h
        · cases h
        · rename_i a b c
          exact ⟨hr, a, b, c, (Sum.inl.inj h).symm⟩
  · rw [step_fail hr] at h; cases h
theorem RunOk.next {K : YK} {σ τ : NS} (h : RunOk K σ) (hD : KY K) (hcl : K.code.length ≤ 512) (hst : stepN kecN K σ = .inl τ) : RunOk K τ ∧ τ.gas < σ.gas := by
  obtain ⟨hr, h0, h1, h2, rfl⟩ := step_inl hst
  have hok := refN_ok hr
  have hpc := h.pc
  have hlt : σ.pc < K.code.length := by
    rcases Nat.lt_or_ge σ.pc K.code.length with hc | hc
    · exact hc
    · exact absurd (by rw [List.getD_eq_getElem?_getD, List.getElem?_eq_none hc]; rfl) h0
  obtain ⟨hp1, hp2, hp3, hp4⟩ := h.n.paid hok.2.2.2.1
  have hb := bare_pos (K := K) (w := σ.w) (s := σ.s) h0 h1 h2
  generalize ho : K.code.getD σ.pc 0 = o at *
  refine ⟨⟨h.n.next hD hok.2.2.2.1 (by omega) hok.2.1 hok.2.2.1, ?_⟩, ?_⟩
  · show nextN K σ.pc σ.s o ≤ _
    unfold nextN
    have him : immN o ≤ 32 := by unfold immN; split <;> omega
    split
    · rename_i hj
      have hd : destN K.code (argN σ.s 0) = true := by
        rcases hj with hj | hj
        · exact hok.2.2.2.2.2.1 hj
        · exact hok.2.2.2.2.2.2 hj.1 hj.2
      rcases Nat.lt_or_ge (argN σ.s 0) K.code.length with hc | hc
      · omega
      · rw [dest_lt hc] at hd; exact absurd hd (by decide)
    · omega
  · show (paidN K σ o).gas < σ.gas
    omega
theorem Runs.exists {K : YK} (hD : KY K) (hcl : K.code.length ≤ 512) : ∀ (n : Nat) (σ : NS), σ.gas < n → RunOk K σ → ∃ e, Runs K σ e
  | 0, σ, h, _ => absurd h (Nat.not_lt_zero _)
  | n + 1, σ, h, hR => by
    cases hs : stepN kecN K σ with
    | inr e => exact ⟨e, .fin hs⟩
    | inl τ =>
      obtain ⟨h1, h2⟩ := hR.next hD hcl hs
      obtain ⟨e, he⟩ := Runs.exists hD hcl n τ (by omega) h1
      exact ⟨e, .next hs he⟩
end Go.Proofs.YgvafwGreat
