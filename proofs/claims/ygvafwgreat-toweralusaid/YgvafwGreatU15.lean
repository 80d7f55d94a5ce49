import Derived.Test.YgvafwGreatU14
import Derived.Test.YgvafwGreatHR
set_option maxRecDepth 100000
set_option maxHeartbeats 4000000
set_option linter.unusedVariables false
set_option linter.unusedSimpArgs false
-- v2
-- v3
namespace Go.Proofs.YgvafwGreat
open Go.HL Go.Proofs

/-! ### The laws of Exp -/
theorem exp_sq (p a m W : Nat) : (p * (a * a % W) ^ m) % W = (p * a ^ (2 * m)) % W := by
  rw [Nat.mul_mod, Nat.pow_mod, Nat.mod_mod, ← Nat.pow_mod, ← Nat.mul_mod, Nat.pow_mul, Nat.pow_two]
theorem exp_bit1 (p a m W : Nat) : (p * a % W * (a * a % W) ^ m) % W = (p * a ^ (2 * m + 1)) % W := by
  rw [exp_sq, Nat.mod_mul_mod, Nat.pow_succ, Nat.mul_assoc, Nat.mul_comm a (a ^ (2 * m))]
theorem half_stepU (B k : Nat) : B / 2 ^ k = 2 * (B / 2 ^ (k + 1)) + B / 2 ^ k % 2 := by
  rw [Nat.pow_succ, ← Nat.div_div_eq_div_mul]; omega
theorem exp_step0 {p a B k W R : Nat} (h : p * a ^ (B / 2 ^ k) % W = R) (hb : B / 2 ^ k % 2 = 0) : p * (a * a % W) ^ (B / 2 ^ (k + 1)) % W = R := by
  rw [exp_sq, ← h]; congr 3
  have := half_stepU B k; omega
theorem exp_step1 {p a B k W R : Nat} (h : p * a ^ (B / 2 ^ k) % W = R) (hb : B / 2 ^ k % 2 = 1) : (p * a % W) * (a * a % W) ^ (B / 2 ^ (k + 1)) % W = R := by
  rw [exp_bit1, ← h]; congr 3
  have := half_stepU B k; omega
theorem last_one {B : Nat} (hB : B ≠ 0) : B / 2 ^ (blen B - 1) = 1 := by
  have h1 := blen_lt B
  have h2 := blen_ge hB
  have h3 : blen B ≠ 0 := by unfold blen; rw [if_neg hB]; omega
  rw [show blen B = (blen B - 1) + 1 by omega, Nat.pow_succ] at h1
  have hp := Nat.two_pow_pos (blen B - 1)
  refine Nat.div_eq_of_lt_le ?_ ?_
  · omega
  · omega
theorem limb_bit {b0 b1 b2 b3 k : Nat} (g0 : b0 < 18446744073709551616) (g1 : b1 < 18446744073709551616) (g2 : b2 < 18446744073709551616) (hk : k < 256) : [b0, b1, b2, b3].getD (k / 64) 0 / 2 ^ (k % 64) % 2 = (b0 + 18446744073709551616 * b1 + 340282366920938463463374607431768211456 * b2 + 6277101735386680763835789423207666416102355444464034512896 * b3) / 2 ^ k % 2 := by
  have low : ∀ c Y u : Nat, u < 64 → (c + 18446744073709551616 * Y) / 2 ^ u % 2 = c / 2 ^ u % 2 := by
    intro c Y u hu
    have e : 18446744073709551616 = 2 ^ u * (2 * 2 ^ (63 - u)) := by rw [show (2 : Nat) * 2 ^ (63 - u) = 2 ^ (1 + (63 - u)) by rw [Nat.pow_add], ← Nat.pow_add, show u + (1 + (63 - u)) = 64 by omega]
    rw [e, Nat.mul_assoc, Nat.add_mul_div_left _ _ (Nat.two_pow_pos u), Nat.mul_assoc, Nat.add_mul_mod_self_left]
  obtain ⟨u, hu⟩ : ∃ u, u = k % 64 := ⟨_, rfl⟩
  have hu64 : u < 64 := by omega
  have hc : k / 64 = 0 ∨ k / 64 = 1 ∨ k / 64 = 2 ∨ k / 64 = 3 := by omega
  rw [← hu]
  rcases hc with h | h | h | h
  · rw [h, show k = u by omega, show b0 + 18446744073709551616 * b1 + 340282366920938463463374607431768211456 * b2 + 6277101735386680763835789423207666416102355444464034512896 * b3 = b0 + 18446744073709551616 * (b1 + 18446744073709551616 * (b2 + 18446744073709551616 * b3)) by omega, low _ _ u hu64]; rfl
  · rw [h, show k = 64 * 1 + u by omega, pw1, Nat.mul_comm (2 ^ u), ← Nat.div_div_eq_div_mul, show (b0 + 18446744073709551616 * b1 + 340282366920938463463374607431768211456 * b2 + 6277101735386680763835789423207666416102355444464034512896 * b3) / 18446744073709551616 = b1 + 18446744073709551616 * (b2 + 18446744073709551616 * b3) by omega, low _ _ u hu64]; rfl
  · rw [h, show k = 64 * 2 + u by omega, pw2, Nat.mul_comm (2 ^ u), ← Nat.div_div_eq_div_mul, show (b0 + 18446744073709551616 * b1 + 340282366920938463463374607431768211456 * b2 + 6277101735386680763835789423207666416102355444464034512896 * b3) / 340282366920938463463374607431768211456 = b2 + 18446744073709551616 * b3 by omega, low _ _ u hu64]; rfl
  · rw [h, show k = 64 * 3 + u by omega, pw3, Nat.mul_comm (2 ^ u), ← Nat.div_div_eq_div_mul, show (b0 + 18446744073709551616 * b1 + 340282366920938463463374607431768211456 * b2 + 6277101735386680763835789423207666416102355444464034512896 * b3) / 6277101735386680763835789423207666416102355444464034512896 = b3 by omega]; rfl
end Go.Proofs.YgvafwGreat
