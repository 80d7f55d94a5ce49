import Derived.Test.YgvafwGreatN12
set_option exponentiation.threshold 1000
set_option maxRecDepth 100000
set_option maxHeartbeats 4000000
set_option linter.unusedVariables false
set_option linter.unusedSimpArgs false
-- v2
namespace Go.Proofs.YgvafwGreat
open Go.HL Go.Proofs

section
variable {q : AQ} {σ τ : NS} {e : NE}
theorem fam16 : ∀ o, o < 256 → famN o = 16 → (arN o).1 ≤ 3 → o = 240 ∨ o = 255 := by
  have : ∀ o, o < 256 → famN o ≠ 16 ∨ 3 < (arN o).1 ∨ o = 240 ∨ o = 255 := by decide +kernel
  intro o h1 h2 h3
  rcases this o h1 with h | h | h
  · exact absurd h2 h
  · omega
  · exact h
/-- where the plain step does not serve -/
theorem RA.special (hq : q.Ok) (h : RA q σ) (hc : ¬ (famN (q.K.code.getD σ.pc 0) ≠ 16 ∨ σ.s.length < (arN (q.K.code.getD σ.pc 0)).1)) : σ = q.s3 ∧ (q.o = 240 ∨ q.o = 255) := by
  have h1 : famN (q.K.code.getD σ.pc 0) = 16 := Decidable.byContradiction fun hn => hc (.inl hn)
  have h2 : (arN (q.K.code.getD σ.pc 0)).1 ≤ σ.s.length := Nat.not_lt.1 fun hn => hc (.inr hn)
  rcases h.st with e | e | e | e | ⟨e1, e2⟩
  · subst e; rw [show q.K.code.getD q.s0.pc 0 = 127 from rfl] at h1; exact absurd h1 (by decide)
  · subst e; rw [show q.K.code.getD q.s1.pc 0 = 127 from q.at1 hq 0] at h1; exact absurd h1 (by decide)
  · subst e; rw [show q.K.code.getD q.s2.pc 0 = 127 from q.at2 hq 0] at h1; exact absurd h1 (by decide)
  · subst e
    rw [show q.K.code.getD q.s3.pc 0 = q.o from q.at3 hq 0] at h1 h2
    exact ⟨rfl, fam16 q.o hq.o h1 h2⟩
  · exfalso
    rcases q.tail hq e1 with ⟨e, ho⟩ | ⟨e, ht⟩
    · rw [show q.K.code.getD σ.pc 0 = q.o from ho] at h1; exact e2 e h1
    · exact (fam_tail _ ht).1 h1
theorem FinA.w0 {st g : Nat} (h : st < 13) : FinA q ⟨st, g, [], q.K.w0⟩ := ⟨h, lgB0 (code := q.code) (ds := []) (wa := waN), szB0, .inl (AlOk.w0 (ds := []) (wa := waN))⟩
/-- SELFDESTRUCT -/
theorem AQ.e255 (hq : q.Ok) (ho : q.o = 255) : stepA q.K q.s3 = .inr ⟨0, 178991 - dstN (W0 q.code waN) q.s3.s, [], { W0 q.code waN with wa := withA (adN (argN q.s3.s 0)) waN }⟩ := by
  have hk : q.K.code.getD q.s3.pc 0 = 255 := (q.at3 hq 0).trans ho
  unfold stepA
  rw [hk, if_neg (by show ¬ (famN 255 ≠ 16 ∨ 3 < (arN 255).1); decide), if_pos rfl]
  rfl
theorem FinA.e255 {g : Nat} {a : List Nat} : FinA q ⟨0, g, [], { W0 q.code waN with wa := withA a waN }⟩ := by
  refine ⟨(by decide : 0 < 13), (fun t ht => by cases ht), ?_, .inl ⟨[], rfl, SsOk.nil⟩⟩
  have h := withA_len a waN
  have h5 : waN.length = 5 := by decide
  show 2 + 0 + (withA a waN).length + 0 + 0 + 0 ≤ 35333
  omega
end
end Go.Proofs.YgvafwGreat
