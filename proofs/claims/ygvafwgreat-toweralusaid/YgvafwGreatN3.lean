import Derived.Test.YgvafwGreatY73
import Derived.Test.YgvafwGreatY85
import Derived.Test.YgvafwGreatN2
set_option exponentiation.threshold 1000
set_option maxRecDepth 100000
set_option maxHeartbeats 4000000
set_option linter.unusedVariables false
set_option linter.unusedSimpArgs false
-- v2
namespace Go.Proofs.YgvafwGreat
open Go.HL Go.Proofs

theorem getA_two {A B : YA} (a : List Nat) : getA [A, B] a = A ∨ getA [A, B] a = B ∨ getA [A, B] a = ⟨a, 0, 0, [], []⟩ := by
  unfold getA
  rw [List.find?_cons]
  split
  · exact .inl rfl
  · rw [List.find?_cons]
    split
    · exact .inr (.inl rfl)
    · exact .inr (.inr rfl)
theorem ky0 {code ds : List Nat} {wa : List (List Nat)} (hcl : code.length ≤ 256) (hdl : ds.length ≤ 1024) (hcb : ∀ d ∈ code, d < 256) (hdb : ∀ d ∈ ds, d < 256) : KY (K0 code ds wa) :=
  ⟨⟨by show code.length < _; omega, by show ds.length < _; omega, adOk1, adOk240, by show 0 < 2 ^ 17; decide⟩, hcb, hdb, rfl⟩
theorem runOk0 {code ds : List Nat} {gas : Nat} (hg : gas ≤ 1048576) (hcl : code.length ≤ 256) (hcb : ∀ d ∈ code, d < 256) : RunOk (K0 code ds waN) ⟨0, gas - intN ds, [], [], W0 code waN⟩ := by
  have hw : waN.length = 5 := by decide
  have hm : memC 0 = 0 := by decide
  refine ⟨⟨by simp, by show 0 ≤ 64; decide, by simp, rfl, ?_, ?_, ?_, ⟨?_, ?_, ?_, ?_, ?_⟩⟩, Nat.zero_le _⟩
  · show gas - intN ds + memC (0 / 32) ≤ 1048576
    rw [Nat.zero_div, hm]; omega
  · show gas - intN ds + 30 * (2 + 0 + waN.length + 0 + 0 + 0) ≤ _
    omega
  · show 0 + 199 * (gas - intN ds) ≤ _
    omega
  · intro a
    rcases getA_two (A := ⟨adNo 1, 1, 0, code, []⟩) (B := ⟨adNo 240, 1, 2 ^ 128, [], []⟩) a with h | h | h
    all_goals (show (getA [(⟨adNo 1, 1, 0, code, []⟩ : YA), ⟨adNo 240, 1, 2 ^ 128, [], []⟩] a).bal < 2 ^ 256; rw [h])
    · exact (by decide : 0 < 2 ^ 256)
    · exact (by decide : 2 ^ 128 < 2 ^ 256)
    · exact (by decide : 0 < 2 ^ 256)
  · intro a
    rcases getA_two (A := ⟨adNo 1, 1, 0, code, []⟩) (B := ⟨adNo 240, 1, 2 ^ 128, [], []⟩) a with h | h | h
    all_goals (show (getA [(⟨adNo 1, 1, 0, code, []⟩ : YA), ⟨adNo 240, 1, 2 ^ 128, [], []⟩] a).code.length < 2 ^ 20; rw [h])
    · show code.length < 2 ^ 20
      omega
    · exact (by decide : 0 < 2 ^ 20)
    · exact (by decide : 0 < 2 ^ 20)
  · intro k
    show loadS [] k < 2 ^ 256
    exact (by decide : 0 < 2 ^ 256)
  · intro a k
    exact (by decide : 0 < 2 ^ 256)
  · intro a
    rcases getA_two (A := ⟨adNo 1, 1, 0, code, []⟩) (B := ⟨adNo 240, 1, 2 ^ 128, [], []⟩) a with h | h | h
    all_goals (show ∀ d ∈ (getA [(⟨adNo 1, 1, 0, code, []⟩ : YA), ⟨adNo 240, 1, 2 ^ 128, [], []⟩] a).code, d < 256; rw [h])
    · exact hcb
    · simp
    · simp
end Go.Proofs.YgvafwGreat
