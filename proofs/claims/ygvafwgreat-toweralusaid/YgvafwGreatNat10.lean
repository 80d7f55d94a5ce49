import Derived.Test.YgvafwGreatNat9
set_option maxRecDepth 100000
set_option linter.unusedVariables false
set_option linter.unusedSimpArgs false
namespace Go.Proofs.YgvafwGreat
open Go.HL Go.Proofs

theorem or_pow_all : ∀ d, d < 256 → ∀ b, b < 8 → d.testBit b = false → d ||| 1 * 2 ^ b = d + 2 ^ b := by decide
theorem shl_or_all : ∀ d, d < 256 → ∀ c, c < 2 → d * 2 ^ 1 % 256 ||| c = d * 2 % 256 + c := by decide
theorem step_dbl (v c P w d : Nat) (hd : d < 256) (h : v + c * P = w) : v + P * (d * 2 % 256 + c) + d / 2 ^ 7 * (P * 256) = w + 2 * (P * d) := by
  have h1 : d * 2 % 256 + d / 2 ^ 7 * 256 = 2 * d := by omega
  have h2 : P * (d * 2 % 256 + d / 2 ^ 7 * 256) = P * (2 * d) := by rw [h1]
  grind
theorem div_step (A B i : Nat) (hB : 0 < B) (hi : 0 < i) :
    let R := A / 2 ^ i % B
    let b := (A.testBit (i - 1)).toNat
    A / 2 ^ (i - 1) % B = (if B ≤ 2 * R + b then 2 * R + b - B else 2 * R + b) ∧
    A / 2 ^ (i - 1) / B * 2 ^ (i - 1) = A / 2 ^ i / B * 2 ^ i + (if B ≤ 2 * R + b then 2 ^ (i - 1) else 0) := by
  intro R b
  obtain ⟨j, rfl⟩ : ∃ j, i = j + 1 := ⟨i - 1, by omega⟩
  simp only [Nat.add_sub_cancel]
  have e1 : A / 2 ^ (j + 1) = A / 2 ^ j / 2 := by rw [Nat.pow_succ, Nat.div_div_eq_div_mul]
  have e2 : b = A / 2 ^ j % 2 := by
    show (A.testBit (j + 1 - 1)).toNat = _
    rw [Nat.add_sub_cancel, Nat.testBit_eq_decide_div_mod_eq]
    have : A / 2 ^ j % 2 = 0 ∨ A / 2 ^ j % 2 = 1 := by omega
    rcases this with h | h <;> simp [h]
  have hR : R = A / 2 ^ j / 2 % B := by show A / 2 ^ (j + 1) % B = _; rw [e1]
  rw [e1, hR, e2]
  generalize A / 2 ^ j = X
  have h1 := Nat.div_add_mod X 2
  have h2 := Nat.div_add_mod (X / 2) B
  have h3 := Nat.mod_lt (X / 2) hB
  have h4 : X % 2 < 2 := Nat.mod_lt _ (by omega)
  generalize hq : X / 2 / B = q at *
  generalize hr : X / 2 % B = r at *
  generalize X % 2 = b at *
  have hX : X = B * (2 * q) + (2 * r + b) := by
    rw [← h1, ← h2, Nat.mul_add]
    have : 2 * (B * q) = B * (2 * q) := by rw [Nat.mul_left_comm]
    omega
  have hp : 2 ^ (j + 1) = 2 * 2 ^ j := by rw [Nat.pow_succ, Nat.mul_comm]
  split
  · rename_i hle
    have hX2 : X = B * (2 * q + 1) + (2 * r + b - B) := by rw [Nat.mul_add, Nat.mul_one]; omega
    have hlt : 2 * r + b - B < B := by omega
    constructor
    · rw [hX2, Nat.mul_add_mod, Nat.mod_eq_of_lt hlt]
    · rw [hX2, Nat.mul_add_div hB, Nat.div_eq_of_lt hlt, hp]
      generalize 2 ^ j = P
      grind
  · rename_i hle
    have hlt : 2 * r + b < B := by omega
    constructor
    · rw [hX, Nat.mul_add_mod, Nat.mod_eq_of_lt hlt]
    · rw [hX, Nat.mul_add_div hB, Nat.div_eq_of_lt hlt, hp]
      generalize 2 ^ j = P
      grind
end Go.Proofs.YgvafwGreat
