import Derived.Test.YgvaewGreatY73
import Derived.Test.YgvaewGreatY85
import Derived.Test.YgvaewGreatN2
set_option exponentiation.threshold 1000
set_option maxRecDepth 100000
set_option maxHeartbeats 4000000
set_option linter.unusedVariables false
set_option linter.unusedSimpArgs false
-- v2
-- v4
-- v5
-- v6
-- v7
namespace Go.Proofs.YgvaewGreat
open Go.HL Go.Proofs

/-- The state behind a whole run: ended. -/
def RunE (sb : Nat) (cs1 : Nat → Value) (K : YK) (σ0 : NS) (L : List Ent) (S' : St) : Prop :=
  ∃ J cs' R ML e, S' = ⟨J, L ++ (⟨sb, 179, 118, cs'⟩ :: (R ++ ML))⟩ ∧ EndY J cs1 cs' e ML ∧ Runs K σ0 e
/-- The state amid a run. -/
def RunM (sb fb fsz : Nat) (cs1 : Nat → Value) (K : YK) (σ0 : NS) (L : List Ent) (n : Nat) (S' : St) : Prop :=
  (∃ J cs' cf' M ML σ, n = σ.gas + 1 ∧ S' = ⟨J, L ++ (⟨sb, 179, 118, cs'⟩ :: ⟨fb, fsz, 156, cf'⟩ :: (M ++ ML))⟩ ∧ YI J fb cs' cf' K σ M ML ∧ RunOk K σ ∧ (∀ k, 6 ≤ k → cs' k = cs1 k) ∧ ∀ e, Runs K σ e → Runs K σ0 e) ∨ (n = 0 ∧ RunE sb cs1 K σ0 L S')
theorem endY_keep {J : Ent → Prop} {cs cs1 cs' : Nat → Value} {e : NE} {ML : List Ent} (h : EndY J cs cs' e ML) (hk : ∀ k, 6 ≤ k → cs k = cs1 k) : EndY J cs1 cs' e ML :=
  ⟨h.w, h.l, h.fr, h.rt, h.ph, h.st, h.gs, fun k h1 h2 => (h.rs k h1 h2).trans (hk k (by omega)), h.r8.trans (hk 8 (by omega))⟩
/-- One Step of a run. -/
theorem yRunStep {sb fb fsz n : Nat} {cs1 : Nat → Value} {K : YK} {σ0 : NS} {L : List Ent} {S : St} (hfz : 60 ≤ fsz) (hD : KY K) (hcl : K.code.length ≤ 512) (hw0 : K.w0.lg = []) (hf16 : ∀ o ∈ K.code, famN o ≠ 16) (h : RunM sb fb fsz cs1 K σ0 L n S) :
    CallG Hvae.prog 30 #[ptr sb 0] S fun r S' => (r = .bool true ∧ ∃ m, m < n ∧ RunM sb fb fsz cs1 K σ0 L m S') ∨ (r = .bool false ∧ RunE sb cs1 K σ0 L S') := by
  rcases h with ⟨J, cs', cf', M, ML, σ, rfl, rfl, hY, hR, hk, hr⟩ | ⟨rfl, J, cs', R, ML, e, rfl, hE, hr⟩
  · refine CallG.behind L (yStep hY (by decide) hfz hR.n hD (by have := hR.pc; omega) hw0 hf16) ?_
    rintro r J2 G2 hs ⟨rfl, hst⟩
    left
    refine ⟨rfl, ?_⟩
    cases hs2 : stepN kecN K σ with
    | inl τ =>
      rw [hs2] at hst
      obtain ⟨J3, cs3, cf3, M3, ML3, e3, hY3, hk3⟩ := hst
      cases e3
      obtain ⟨hR3, hg⟩ := hR.next hD hcl hs2
      exact ⟨τ.gas + 1, by omega, .inl ⟨_, cs3, cf3, M3, ML3, τ, rfl, rfl, hY3, hR3, fun k h6 => (hk3 k h6).trans (hk k h6), fun e he => hr e (.next hs2 he)⟩⟩
    | inr e =>
      rw [hs2] at hst
      obtain ⟨J3, cs3, R3, ML3, e3, hE3⟩ := hst
      cases e3
      exact ⟨0, by omega, .inr ⟨rfl, _, cs3, R3, ML3, e, rfl, endY_keep hE3 hk, hr e (.fin hs2)⟩⟩
  · refine CallG.behind L (yStepE (by decide) hE.ph) ?_
    rintro r J2 G2 hs ⟨e2, rfl⟩
    cases e2
    exact .inr ⟨rfl, _, cs', R, ML, e, rfl, hE, hr⟩
end Go.Proofs.YgvaewGreat
