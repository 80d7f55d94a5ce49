import Derived.Test.YgvafwGreatY111
import Derived.Test.YgvafwGreatY85
set_option exponentiation.threshold 1000
set_option maxRecDepth 100000
set_option maxHeartbeats 4000000
set_option linter.unusedVariables false
set_option linter.unusedSimpArgs false
-- v2
-- v4
-- v5
-- v6
-- v7
namespace Go.Proofs.YgvafwGreat
open Go.HL Go.Proofs

/-- The state behind a whole run: ended. -/
def RunE (sb : Nat) (cs1 : Nat → Value) (q : AQ) (L : List Ent) (S' : St) : Prop :=
  ∃ J cs' R ML e, S' = ⟨J, L ++ (⟨sb, 179, 118, cs'⟩ :: (R ++ ML))⟩ ∧ EndY J cs1 cs' e ML ∧ RunsA q.K q.s0 e
/-- The state amid a run: the outer frame runs, or a child that CREATE made. -/
def RunM (sb : Nat) (cs1 : Nat → Value) (q : AQ) (L : List Ent) (n : Nat) (S' : St) : Prop :=
  (∃ J fb fsz cs' cf' M ML σ, n = σ.gas + 1 ∧ S' = ⟨J, L ++ (⟨sb, 179, 118, cs'⟩ :: ⟨fb, fsz, 156, cf'⟩ :: (M ++ ML))⟩ ∧ YI J fb cs' cf' q.K σ M ML ∧ 60 ≤ fsz ∧ ((∃ fc, cs' 9 = HL.sl fb 0 1 fc ∧ FzI fc fsz) ∨ σ.w.al = alC q.code) ∧ RA q σ ∧ (∀ k, 8 ≤ k → k ≠ 9 → cs' k = cs1 k) ∧ ∀ e, RunsA q.K σ e → RunsA q.K q.s0 e) ∨ (∃ J fb fsz cs' c M ML σ, n = σ.gas + 2 ∧ S' = ⟨J, L ++ (⟨sb, 179, 118, cs'⟩ :: ⟨fb, fsz, 156, c⟩ :: (M ++ ML))⟩ ∧ YCh J fb fsz cs' c q.K σ M ML ∧ σ.w.al = alC q.code ∧ RA q σ ∧ (∀ k, 8 ≤ k → k ≠ 9 → cs' k = cs1 k) ∧ ∀ e, RunsA q.K σ e → RunsA q.K q.s0 e) ∨ (n = 0 ∧ RunE sb cs1 q L S')
theorem endY_keep {J : Ent → Prop} {cs cs1 cs' : Nat → Value} {e : NE} {ML : List Ent} (h : EndY J cs cs' e ML) (hk : ∀ k, 8 ≤ k → k ≠ 9 → cs k = cs1 k) : EndY J cs1 cs' e ML :=
  ⟨h.w, h.l, h.fr, h.rt, h.ph, h.st, h.gs, fun k h1 h2 => (h.rs k h1 h2).trans (hk k (by omega) (by omega)), h.r8.trans (hk 8 (by omega) (by omega))⟩
/-- A step keeps the accounts once an account is made. -/
theorem RA.alC {q : AQ} {σ τ : NS} (hq : q.Ok) (h : RA q σ) (ha : σ.w.al = alC q.code) (hst : stepA q.K σ = .inl τ) : τ.w.al = Go.Proofs.YgvafwGreat.alC q.code := by
  have hp : 100 ≤ σ.pc := by
    rcases h.al with ⟨ss, h1, _⟩ | ⟨h1, _⟩
    · rw [ha] at h1; exact absurd (congrArg List.length h1) (by show ¬ (3 = 2); decide)
    · exact h1
  rcases q.tail hq (pc := σ.pc) (by omega) with ⟨e, _⟩ | ⟨_, ht⟩
  · omega
  · have hc : famN (q.K.code.getD σ.pc 0) ≠ 16 ∨ σ.s.length < (arN (q.K.code.getD σ.pc 0)).1 := .inl (fam_tail _ ht).1
    have hst2 : stepN kecN q.K σ = .inl τ := by unfold stepA at hst; rw [if_pos hc] at hst; exact hst
    obtain ⟨_, _, _, _, rfl⟩ := step_inl hst2
    show (wrlN q.K _ σ.w σ.s (q.code.getD σ.pc 0)).al = _
    rw [wrl_tail ht]; exact ha
/-- One Step of a run. -/
theorem yRunStep {sb n : Nat} {cs1 : Nat → Value} {q : AQ} {L : List Ent} {S : St} (hq : q.Ok) (h : RunM sb cs1 q L n S) :
    CallG Hvaf.prog 30 #[ptr sb 0] S fun r S' => (r = .bool true ∧ ∃ m, m < n ∧ RunM sb cs1 q L m S') ∨ (r = .bool false ∧ RunE sb cs1 q L S') := by
  rcases h with ⟨J, fb, fsz, cs', cf', M, ML, σ, rfl, rfl, hY, hfz, hF, hR, hk, hr⟩ | ⟨J, fb, fsz, cs', cf', M, ML, σ, rfl, rfl, hY, hal, hR, hk, hr⟩ | ⟨rfl, J, cs', R, ML, e, rfl, hE, hr⟩
  · refine CallG.behind L (yStepX hq hR hY (by decide) hfz hF) ?_
    rintro r J2 G2 hs ⟨rfl, hst⟩
    left
    refine ⟨rfl, ?_⟩
    cases hs2 : stepA q.K σ with
    | inl τ =>
      rw [hs2] at hst
      obtain ⟨hR3, hg⟩ := hR.next hq hs2
      rcases hst with ⟨J3, cs3, cf3, M3, ML3, e3, hY3, hk3⟩ | ⟨J3, fb3, fsz3, cs3, c3, M3, ML3, e3, hY3, hk3, hal3, hg3⟩
      · cases e3
        refine ⟨τ.gas + 1, by omega, .inl ⟨_, fb, fsz, cs3, cf3, M3, ML3, τ, rfl, rfl, hY3, hfz, ?_, hR3, fun k h8 h9 => (hk3 k (by omega)).trans (hk k h8 h9), fun e he => hr e (.next hs2 he)⟩⟩
        rcases hF with ⟨fc, h9, hz⟩ | hF
        · exact .inl ⟨fc, (hk3 9 (by decide)).trans h9, hz⟩
        · exact .inr (RA.alC hq hR hF hs2)
      · cases e3
        exact ⟨τ.gas + 2, by omega, .inr (.inl ⟨_, fb3, fsz3, cs3, c3, M3, ML3, τ, rfl, rfl, hY3, hal3, hR3, fun k h8 h9 => (hk3 k h8 h9).trans (hk k h8 h9), fun e he => hr e (.next hs2 he)⟩)⟩
    | inr e =>
      rw [hs2] at hst
      obtain ⟨J3, cs3, R3, ML3, e3, hE3⟩ := hst
      cases e3
      exact ⟨0, by omega, .inr (.inr ⟨rfl, _, cs3, R3, ML3, e, rfl, endY_keep hE3 hk, hr e (.fin hs2)⟩)⟩
  · refine CallG.behind L (chStep hY (by decide) hR.ok.n) ?_
    rintro r J2 G2 hs ⟨rfl, J3, cs3, cf3, e3, hY3, hk3⟩
    cases e3
    have hfz : 60 ≤ fsz := by
      obtain ⟨cap, _, h2, h3⟩ := hY.cp
      rw [h2, mulS_eq]; omega
    exact .inl ⟨rfl, σ.gas + 1, by omega, .inl ⟨_, fb, fsz, cs3, cf3, M, ML, σ, rfl, rfl, hY3, hfz, .inr hal, hR, fun k h8 h9 => (hk3 k h8 h9).trans (hk k h8 h9), hr⟩⟩
  · refine CallG.behind L (yStepE (by decide) hE.ph) ?_
    rintro r J2 G2 hs ⟨e2, rfl⟩
    cases e2
    exact .inr ⟨rfl, _, cs', R, ML, e, rfl, hE, hr⟩
end Go.Proofs.YgvafwGreat
