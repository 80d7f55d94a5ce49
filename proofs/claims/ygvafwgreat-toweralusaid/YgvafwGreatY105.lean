import Derived.Test.YgvafwGreatY104
set_option exponentiation.threshold 1000
set_option maxRecDepth 100000
set_option maxHeartbeats 4000000
set_option linter.unusedVariables false
set_option linter.unusedSimpArgs false
-- v2
namespace Go.Proofs.YgvafwGreat
open Go.HL Go.Proofs

section
variable {I : Ent → Prop} {sb ssz fb fsz : Nat} {Ts Tf : TypeId} {cs cf : Nat → Value} {K : YK} {σ : NS} {M ML : List Ent}
/-- yp.Chain.Step at CREATE with a value that the account does not have -/
theorem yStep240V (h : YI I fb cs cf K σ M ML) (hsz : 179 ≤ ssz) (hfz : 60 ≤ fsz) (ho : K.code.getD σ.pc 0 = 240) (h3 : σ.s.length = 3) (h512 : argN σ.s 2 ≤ 512) (hg : crcN σ.s σ.mem.length ≤ σ.gas) (hrb : endN (argN σ.s 1) (argN σ.s 2) < 2 ^ 29) (hv : 0 < argN σ.s 0) (hbal : (getA σ.w.al K.self).bal = 0) (hpc : σ.pc < 2 ^ 20) (hN : NOk K (crS K σ)) :
    CallG Hvaf.prog 30 #[ptr sb 0] ⟨I, ⟨sb, ssz, Ts, cs⟩ :: ⟨fb, fsz, Tf, cf⟩ :: (M ++ ML)⟩ fun r S' => r = .bool true ∧ StY sb ssz fb fsz Ts Tf cs K (.inl (crS K σ)) S' := by
  have ecr : crS K σ = ⟨σ.pc + 1, σ.gas - crcN σ.s σ.mem.length, [0], growL σ.mem ((endN (argN σ.s 1) (argN σ.s 2) + 31) / 32), σ.w⟩ := by
    unfold crS; rw [if_neg (by omega), if_neg (by omega), h3]; rfl
  rw [ecr] at hN ⊢
  refine yStep240P h hsz hfz ho h3 h512 hg hrb fun J gv mv M' hsub h5 => ?_
  refine (yEnterCrV h5 hsz hfz h3 hv hbal hpc).mono ?_
  rintro r _ _ ⟨J2, sv, pv, rfl, hs, q1, q2, q3, q4⟩
  exact ⟨J2, cs, _, M', ML, rfl, h5.next hs ⟨h5.c.W.up hs, fun _ _ => rfl⟩ (h5.l.up hs) h5.m rfl q2 q4 q1 q3 hN, fun _ _ => rfl⟩
end
end Go.Proofs.YgvafwGreat
