import Derived.Test.YgvafwGreatN11
set_option exponentiation.threshold 1000
set_option maxRecDepth 100000
set_option maxHeartbeats 4000000
set_option linter.unusedVariables false
set_option linter.unusedSimpArgs false
-- v2
namespace Go.Proofs.YgvafwGreat
open Go.HL Go.Proofs

/-- What holds along the program's run. -/
structure RA (q : AQ) (σ : NS) : Prop where
  ok : RunOk q.K σ
  lg : LgB σ.w
  st : σ = q.s0 ∨ σ = q.s1 ∨ σ = q.s2 ∨ σ = q.s3 ∨ (99 ≤ σ.pc ∧ (σ.pc = 99 → famN q.o ≠ 16))
  al : AlOk q.code σ.w ∨ (100 ≤ σ.pc ∧ σ.w.al = alC q.code)
section
variable {q : AQ} {σ τ : NS} {e : NE}
theorem AQ.ky (h : q.Ok) : KY q.K := ky0 (by rw [q.len h]; decide) (by decide) (q.bytes h) (by simp)
theorem fam_tail : ∀ o ∈ [95, 82, 96, 32, 243, 0], famN o ≠ 16 ∧ o ≠ 86 ∧ o ≠ 87 ∧ o ≠ 49 ∧ o ≠ 59 ∧ o ≠ 63 ∧ o ≠ 60 ∧ o ≠ 84 ∧ o ≠ 85 ∧ o ≠ 93 ∧ ¬ (160 ≤ o ∧ o ≤ 164) := by decide
theorem wrl_tail {K : YK} {mem s : List Nat} {w : YW} {o : Nat} (h : o ∈ [95, 82, 96, 32, 243, 0]) : wrlN K mem w s o = w := by
  obtain ⟨_, _, _, h1, h2, h3, h4, h5, h6, h7, h8⟩ := fam_tail o h
  unfold wrlN
  rw [if_neg (by omega), if_neg h5, if_neg h6, if_neg h7, if_neg h8]
theorem nx_tail {K : YK} {s : List Nat} {pc o : Nat} (h : o ∈ [95, 82, 96, 32, 243, 0]) : pc < nextN K pc s o := by
  obtain ⟨_, h1, h2, _⟩ := fam_tail o h
  unfold nextN
  rw [if_neg (fun hc => hc.elim h1 (fun hc => h2 hc.1))]; omega
theorem st_tail (hq : q.Ok) (h : 99 ≤ σ.pc) (h16 : σ.pc = 99 → famN q.o ≠ 16) (h86 : q.K.code.getD σ.pc 0 = 86 → destN q.K.code (argN σ.s 0) = true) (h87 : q.K.code.getD σ.pc 0 = 87 → argN σ.s 1 ≠ 0 → destN q.K.code (argN σ.s 0) = true) : 99 ≤ nextN q.K σ.pc σ.s (q.K.code.getD σ.pc 0) ∧ (nextN q.K σ.pc σ.s (q.K.code.getD σ.pc 0) = 99 → famN q.o ≠ 16) := by
  rcases q.tail hq h with ⟨e, ho⟩ | ⟨e, ht⟩
  · refine ⟨?_, fun _ => h16 e⟩
    unfold nextN
    split
    · rename_i hj
      refine q.dest hq ?_
      rcases hj with hj | hj
      · exact h86 hj
      · exact h87 hj.1 hj.2
    · omega
  · have := nx_tail (K := q.K) (s := σ.s) (pc := σ.pc) ht
    have h2 : nextN q.K σ.pc σ.s (q.K.code.getD σ.pc 0) = nextN q.K σ.pc σ.s (q.code.getD σ.pc 0) := rfl
    exact ⟨by omega, fun hc => by omega⟩
/-- the opcode is of no special kind, or there are too few operands: the plain step -/
theorem RA.nextN (hq : q.Ok) (h : RA q σ) (hc : famN (q.K.code.getD σ.pc 0) ≠ 16 ∨ σ.s.length < (arN (q.K.code.getD σ.pc 0)).1) (hst : stepA q.K σ = .inl τ) : RA q τ ∧ τ.gas < σ.gas := by
  have hst2 : stepN kecN q.K σ = .inl τ := by unfold stepA at hst; rw [if_pos hc] at hst; exact hst
  have hcl : q.K.code.length ≤ 512 := by show q.code.length ≤ 512; rw [q.len hq]; decide
  obtain ⟨h1, h2⟩ := h.ok.next (AQ.ky hq) hcl hst2
  obtain ⟨hr, n0, n1, n2, rfl⟩ := step_inl hst2
  have hok := refN_ok hr
  have hpc : (plainN kecN q.K (paidN q.K σ (q.K.code.getD σ.pc 0)) (q.K.code.getD σ.pc 0)).pc = nextN q.K σ.pc σ.s (q.K.code.getD σ.pc 0) := rfl
  refine ⟨⟨h1, h.lg.wrl, ?_, ?_⟩, h2⟩
  · rcases h.st with e | e | e | e | ⟨e1, e2⟩
    · subst e; rw [q.e0 hq] at hst; exact .inr (.inl (Sum.inl.inj hst).symm)
    · subst e; rw [q.e1 hq] at hst; exact .inr (.inr (.inl (Sum.inl.inj hst).symm))
    · subst e; rw [q.e2 hq] at hst; exact .inr (.inr (.inr (.inl (Sum.inl.inj hst).symm)))
    · subst e
      refine .inr (.inr (.inr (.inr (st_tail hq (Nat.le_refl 99) ?_ hok.2.2.2.2.2.1 hok.2.2.2.2.2.2))))
      intro _
      have ho : q.K.code.getD q.s3.pc 0 = q.o := q.at3 hq 0
      have h4 := hok.2.1
      rw [ho] at hc h4
      exact hc.resolve_right (Nat.not_lt.2 h4)
    · exact .inr (.inr (.inr (.inr (st_tail hq e1 e2 hok.2.2.2.2.2.1 hok.2.2.2.2.2.2))))
  · rcases h.al with ha | ⟨ha, hb⟩
    · exact .inl (ha.wrl h.ok.n.sb)
    · rcases q.tail hq (pc := σ.pc) (by omega) with ⟨e, _⟩ | ⟨e, ht⟩
      · omega
      · refine .inr ⟨?_, ?_⟩
        · rw [hpc]; exact Nat.le_trans ha (Nat.le_of_lt (nx_tail ht))
        · show (wrlN q.K _ σ.w σ.s (q.code.getD σ.pc 0)).al = _
          rw [wrl_tail ht]; exact hb
/-- The run's end. -/
structure FinA (q : AQ) (e : NE) : Prop where
  st : e.st < 13
  lg : LgB e.w
  sz : szW q.K e.w ≤ 35333
  al : AlOk q.code e.w ∨ e.w.al = alC q.code
theorem RA.finN (hq : q.Ok) (h : RA q σ) (hc : famN (q.K.code.getD σ.pc 0) ≠ 16 ∨ σ.s.length < (arN (q.K.code.getD σ.pc 0)).1) (hst : stepA q.K σ = .inr e) : FinA q e ∧ e.gas ≤ σ.gas := by
  have hst2 : stepN kecN q.K σ = .inr e := by unfold stepA at hst; rw [if_pos hc] at hst; exact hst
  have hcl : q.K.code.length ≤ 512 := by show q.code.length ≤ 512; rw [q.len hq]; decide
  have hr := Runs.fin hst2
  refine ⟨⟨runs_st hr, LgB.fin lgB0 h.lg hst2, szB.runs (AQ.ky hq) hcl szB0 hr h.ok, ?_⟩, runs_gas (AQ.ky hq) hcl hr h.ok⟩
  rcases h.al with ha | ⟨_, ha⟩
  · exact .inl (ha.fin hst2)
  · have : e.w = σ.w ∨ e.w = q.K.w0 := by
      unfold stepN at hst2
      dsimp only at hst2
      repeat' split at hst2
      all_goals first | (cases hst2; done) | (have e2 := Sum.inr.inj hst2; rw [← e2]; first | exact .inl rfl | exact .inr rfl)
    rcases this with e1 | e1
    · rw [e1]; exact .inr ha
    · rw [e1]; exact .inl AlOk.w0
end
end Go.Proofs.YgvafwGreat
