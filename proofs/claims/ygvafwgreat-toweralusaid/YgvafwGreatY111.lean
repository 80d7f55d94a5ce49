import Derived.Test.YgvafwGreatY109
import Derived.Test.YgvafwGreatY110
import Derived.Test.YgvafwGreatY99
import Derived.Test.YgvafwGreatY73
import Derived.Test.YgvafwGreatN15
set_option exponentiation.threshold 1000
set_option maxRecDepth 100000
set_option maxHeartbeats 4000000
set_option linter.unusedVariables false
set_option linter.unusedSimpArgs false
-- v2
namespace Go.Proofs.YgvafwGreat
open Go.HL Go.Proofs

/-- What a Step of the program leaves. -/
def StZ (sb ssz fb fsz : Nat) (Ts : TypeId) (cs : Nat → Value) (K : YK) (g : Nat) : NS ⊕ NE → St → Prop
  | .inl τ, S' => PlY sb ssz fb fsz Ts 156 cs K τ S' ∨ ∃ J fb' fsz' cs' c M' ML', S' = ⟨J, ⟨sb, ssz, Ts, cs'⟩ :: ⟨fb', fsz', 156, c⟩ :: (M' ++ ML')⟩ ∧ YCh J fb' fsz' cs' c K τ M' ML' ∧ (∀ k, 8 ≤ k → k ≠ 9 → cs' k = cs k) ∧ τ.w.al = alC K.code ∧ τ.gas + 2 ≤ g
  | .inr e, S' => ∃ J cs' R ML', S' = ⟨J, ⟨sb, ssz, Ts, cs'⟩ :: (R ++ ML')⟩ ∧ EndY J cs cs' e ML'
theorem cr_farY {s : List Nat} {g : Nat} (hle : crcN s 0 ≤ g) (hg : g ≤ 1048576) : endN (argN s 1) (argN s 2) ≤ 717280 := by
  rcases Nat.lt_or_ge 717280 (endN (argN s 1) (argN s 2)) with hc | hc
  · exfalso
    have q2 : memC (Nat.succ 22415) = 1048648 := by decide
    have q3 : memC 0 = 0 := by decide
    have q1 := memC_mono (show Nat.succ 22415 ≤ (endN (argN s 1) (argN s 2) + 31) / 32 by omega)
    unfold crcN at hle
    rw [if_neg (show ¬ (endN (argN s 1) (argN s 2) + 31) / 32 ≤ 0 / 32 by omega), show 0 / 32 = 0 from rfl, q3] at hle
    omega
  · exact hc
theorem grow_nilY (w : Nat) : growL [] w = List.replicate (32 * w) 0 := by
  unfold growL
  split
  · rename_i h
    have h : w ≤ 0 := h
    obtain rfl : w = 0 := by omega
    rfl
  · rfl
section
variable {I : Ent → Prop} {sb ssz fb fsz : Nat} {Ts : TypeId} {cs cf : Nat → Value} {M ML : List Ent} {q : AQ} {σ : NS}
/-- yp.Chain.Step at CREATE where a child enters -/
theorem yStep240C {fc : Nat} (hq : q.Ok) (h : YI I fb cs cf q.K q.s3 M ML) (hsz : 179 ≤ ssz) (hfc : cs 9 = HL.sl fb 0 1 fc) (hz : FzI fc fsz) (ho : q.K.code.getD q.s3.pc 0 = 240) (h512 : argN q.s3.s 2 ≤ 512) (hg : crcN q.s3.s 0 ≤ 178991) (hv : argN q.s3.s 0 = 0) :
    CallG Hvaf.prog 30 #[ptr sb 0] ⟨I, ⟨sb, ssz, Ts, cs⟩ :: ⟨fb, fsz, 156, cf⟩ :: (M ++ ML)⟩ fun r S' => r = .bool true ∧ StZ sb ssz fb fsz Ts cs q.K q.s3.gas (.inl (crS q.K q.s3)) S' := by
  have hfar := cr_farY hg (by decide)
  have ecr : crS q.K q.s3 = ⟨99 + 1, 178991 - crcN q.s3.s 0, [bev crAd], growL [] ((endN (argN q.s3.s 1) (argN q.s3.s 2) + 31) / 32), crW q.K q.s3.w⟩ := by
    unfold crS; rw [if_pos hv, if_pos hv]; rfl
  refine yStep240P h hsz hz.2 ho rfl h512 hg (Nat.lt_of_le_of_lt hfar (by decide)) fun J gv mv M' hsub h5 => ?_
  refine (yEnterCr0 (fc := fc) (code := q.code) h5 hsz hfc hz rfl rfl rfl hv (by show 99 < 2 ^ 20; decide) (grow_nilY _) (Nat.lt_of_le_of_lt h512 (by decide)) (Nat.lt_of_le_of_lt (Nat.sub_le _ _) (by show 178991 < 2 ^ 100; decide))).mono ?_
  rintro r _ _ ⟨J2, fb', fsz', cs', c, rfl, q1, q2⟩
  refine .inr ⟨J2, fb', fsz', cs', c, M', ML, rfl, ?_, q2, ?_, ?_⟩
  · rw [ecr]; exact q1
  · rw [ecr]; exact crW_al q.code []
  · rw [ecr]
    have hge : 32000 ≤ crcN q.s3.s 0 := by unfold crcN; split <;> omega
    show 178991 - crcN q.s3.s 0 + 2 ≤ 178991
    omega
/-- yp.Chain.Step refines stepA along the program's run -/
theorem yStepX (hq : q.Ok) (hR : RA q σ) (h : YI I fb cs cf q.K σ M ML) (hsz : 179 ≤ ssz) (hfz : 60 ≤ fsz) (hF : (∃ fc, cs 9 = HL.sl fb 0 1 fc ∧ FzI fc fsz) ∨ σ.w.al = alC q.code) :
    CallG Hvaf.prog 30 #[ptr sb 0] ⟨I, ⟨sb, ssz, Ts, cs⟩ :: ⟨fb, fsz, 156, cf⟩ :: (M ++ ML)⟩ fun r S' => r = .bool true ∧ StZ sb ssz fb fsz Ts cs q.K σ.gas (stepA q.K σ) S' := by
  by_cases hc : famN (q.K.code.getD σ.pc 0) ≠ 16 ∨ σ.s.length < (arN (q.K.code.getD σ.pc 0)).1
  · have e : stepA q.K σ = stepN kecN q.K σ := by unfold stepA; rw [if_pos hc]
    rw [e]
    refine (yStep h hsz hfz hR.ok.n (AQ.ky hq) (by have := hR.ok.pc; have h2 : q.K.code.length = 106 := q.len hq; omega) rfl hc).mono ?_
    rintro r S' _ ⟨rfl, hq2⟩
    refine ⟨rfl, ?_⟩
    cases hs : stepN kecN q.K σ with
    | inl τ => rw [hs] at hq2; exact .inl hq2
    | inr e => rw [hs] at hq2; exact hq2
  · obtain ⟨rfl, ho | ho⟩ := hR.special hq hc
    · have hk : q.K.code.getD q.s3.pc 0 = 240 := (q.at3 hq 0).trans ho
      rw [q.e240 hq ho]
      by_cases h1 : 512 < argN q.s3.s 2
      · rw [if_pos h1]
        exact yStep240F9 h hsz hfz rfl hk rfl h1
      · rw [if_neg h1]
        by_cases h2 : 178991 < crcN q.s3.s 0
        · rw [if_pos h2]
          exact yStep240F2 h hsz hfz rfl hk rfl (by omega) h2
        · rw [if_neg h2]
          rcases Nat.eq_zero_or_pos (argN q.s3.s 0) with hv | hv
          · rcases hF with ⟨fc, h9, hz⟩ | hF
            · exact yStep240C hq h hsz h9 hz hk (by omega) (by omega) hv
            · exact absurd (congrArg List.length hF) (by show ¬ (2 = 3); decide)
          · have hN := ((hR.cr hq (by omega)).1).ok.n
            refine (yStep240V h hsz hfz hk rfl (by omega) (by show crcN q.s3.s 0 ≤ 178991; omega) (Nat.lt_of_le_of_lt (cr_farY (g := 178991) (by omega) (by decide)) (by decide)) hv rfl (by show 99 < 2 ^ 20; decide) hN).mono ?_
            rintro r S' _ ⟨rfl, hq2⟩
            exact ⟨rfl, .inl hq2⟩
    · have hk : q.K.code.getD q.s3.pc 0 = 255 := (q.at3 hq 0).trans ho
      rw [q.e255 hq ho]
      exact yStep255 h hsz hfz hk rfl rfl rfl (by show waN.length < 60000; decide) (by show dstN _ _ ≤ 178991; unfold dstN; split <;> decide)
end
end Go.Proofs.YgvafwGreat
