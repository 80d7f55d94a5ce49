import Derived.Test.YgvafwGreatE67u
import Derived.Test.YgvafwGreatE70
set_option exponentiation.threshold 1000
set_option maxRecDepth 100000
set_option maxHeartbeats 4000000
set_option linter.unusedVariables false
set_option linter.unusedSimpArgs false
-- v2
namespace Go.Proofs.YgvafwGreat
open Go.HL Go.Proofs

theorem MN.idl {cb : Nat} {c : Nat → Value} (h : MN cb c) : MIdl cb c :=
  ⟨⟨h.mS, h.ph, h.ap, row_at h.env 22 (by decide) rfl, row_sub (p := 87) (us := bvs z32) h.env rfl⟩, h.a1, h.a2, h.a10, h.top, h.env⟩
theorem acc2 {V : Vl} {A B : VA} (h : V.ac = [A, B]) (a : List Nat) : V.acc a = if A.ad = a then A else if B.ad = a then B else dVA := by
  unfold Vl.acc Vl.ix
  rw [h, List.findIdx_cons]
  by_cases h1 : A.ad = a
  · rw [if_pos h1]
    have : (A.ad == a) = true := by rw [h1]; exact beq_self_eq_true a
    rw [this]; rfl
  · have e1 : (A.ad == a) = false := beq_eq_false_iff_ne.2 h1
    rw [if_neg h1, e1, List.findIdx_cons]
    by_cases h2 : B.ad = a
    · have : (B.ad == a) = true := by rw [h2]; exact beq_self_eq_true a
      rw [if_pos h2, this]; rfl
    · have e2 : (B.ad == a) = false := beq_eq_false_iff_ne.2 h2
      rw [if_neg h2, e2]; rfl
theorem get2 {A B : YA} (a : List Nat) : getA [A, B] a = if A.addr = a then A else if B.addr = a then B else ⟨a, 0, 0, [], []⟩ := by
  unfold getA
  rw [List.find?_cons]
  by_cases h1 : A.addr = a
  · rw [if_pos h1]
    have : (A.addr == a) = true := by rw [h1]; exact beq_self_eq_true a
    rw [this]; rfl
  · have e1 : (A.addr == a) = false := beq_eq_false_iff_ne.2 h1
    rw [if_neg h1, e1, List.find?_cons]
    by_cases h2 : B.addr = a
    · have : (B.addr == a) = true := by rw [h2]; exact beq_self_eq_true a
      rw [if_pos h2, this]; rfl
    · have e2 : (B.addr == a) = false := beq_eq_false_iff_ne.2 h2
      rw [if_neg h2, e2]; rfl
/-- The new vault bears the first world. -/
theorem FP.vq {code ds : List Nat} {V : Vl} (h : FP code 2 V) : VQ (K0 code ds waN) V (w00 code) 0 := by
  obtain ⟨v1, v2, hac, hsl, hjr, hnm, hrf, hlg, htp, hO⟩ := h
  have hac : V.ac = [⟨adNo 1, 1, 0, v1, code, false, false, false⟩, ⟨adNo 240, 0, 2 ^ 128, v2, [], false, false, false⟩] := hac
  have hs : ∀ k, V.slt k = dVS := fun k => by unfold Vl.slt Vl.is; rw [hsl]; rfl
  have ht : ∀ k, V.tmp k = dVT := fun k => by unfold Vl.tmp Vl.it; rw [htp]; rfl
  refine ⟨hO, ⟨fun a => ?_, fun a => ?_, fun a => ?_, fun k => ?_, fun k => ?_, fun k => ?_, fun k => ?_, hrf.symm, hlg.symm, ⟨_, _, hac, rfl⟩⟩, hnm, by rw [hjr]; rfl, by rw [hac]; exact Nat.le_refl 2, hsl, htp, by rw [hjr]; simp⟩
  · rw [acc2 hac]
    show (getA [(⟨adNo 1, 1, 0, code, []⟩ : YA), ⟨adNo 240, 0, 2 ^ 128, [], []⟩] a).nonce = _ ∧ (getA [(⟨adNo 1, 1, 0, code, []⟩ : YA), ⟨adNo 240, 0, 2 ^ 128, [], []⟩] a).bal = _ ∧ (getA [(⟨adNo 1, 1, 0, code, []⟩ : YA), ⟨adNo 240, 0, 2 ^ 128, [], []⟩] a).code = _
    rw [get2]
    dsimp only
    by_cases h1 : adNo 1 = a
    · rw [if_pos h1, if_pos h1]; exact ⟨rfl, rfl, rfl⟩
    · rw [if_neg h1, if_neg h1]
      by_cases h2 : adNo 240 = a
      · rw [if_pos h2, if_pos h2]; exact ⟨rfl, rfl, rfl⟩
      · rw [if_neg h2, if_neg h2]; exact ⟨rfl, rfl, rfl⟩
  · rw [acc2 hac]
    dsimp only
    constructor
    · intro hw
      by_cases h1 : adNo 1 = a
      · rw [if_pos h1] at hw; cases hw
      · rw [if_neg h1] at hw
        by_cases h2 : adNo 240 = a
        · rw [if_pos h2] at hw; cases hw
        · rw [if_neg h2] at hw; cases hw
    · intro hw; cases hw
  · rw [acc2 hac]
    dsimp only
    by_cases h1 : adNo 1 = a
    · rw [if_pos h1]; exact ⟨⟨fun h => (by cases h), fun h => (by cases h)⟩, rfl⟩
    · rw [if_neg h1]
      by_cases h2 : adNo 240 = a
      · rw [if_pos h2]; exact ⟨⟨fun h => (by cases h), fun h => (by cases h)⟩, rfl⟩
      · rw [if_neg h2]; exact ⟨⟨fun h => (by cases h), fun h => (by cases h)⟩, rfl⟩
  · rw [hs]; rfl
  · rw [hs]
  · rw [hs]; rfl
  · rw [ht]; rfl
end Go.Proofs.YgvafwGreat
