import Derived.Test.YgvafwGreatU13
set_option maxRecDepth 100000
set_option maxHeartbeats 4000000
set_option linter.unusedVariables false
set_option linter.unusedSimpArgs false
-- v2
namespace Go.Proofs.YgvafwGreat
open Go.HL Go.Proofs

theorem se_pow {w : Nat} (hw : w < 64) : (2 : Nat) ^ (63 - w) * 2 ^ (w + 1) = 18446744073709551616 := by rw [← Nat.pow_add, show 63 - w + (w + 1) = 64 by omega]
theorem se_x {w : Nat} (c : Nat) (hw : w < 64) : c * 2 ^ (63 - w) % 18446744073709551616 = c % 2 ^ (w + 1) * 2 ^ (63 - w) := by
  have e : 2 ^ (w + 1) * 2 ^ (63 - w) = 18446744073709551616 := by rw [Nat.mul_comm, se_pow hw]
  rw [← e, Nat.mul_mod_mul_right]
theorem se_half {w : Nat} (hw : w < 64) : (2 : Nat) ^ w * 2 ^ (63 - w) = 9223372036854775808 := by rw [← Nat.pow_add, show w + (63 - w) = 63 by omega]
theorem se_sign {w : Nat} (v : Nat) (hw : w < 64) : 9223372036854775808 ≤ v * 2 ^ (63 - w) ↔ 2 ^ w ≤ v := by
  rw [← se_half hw]
  exact Nat.mul_le_mul_right_iff (Nat.two_pow_pos _)
theorem se_mod {L A c Y w : Nat} (hw : w < 64) (hL : L < A) : (L + A * (c + 18446744073709551616 * Y)) % (A * 2 ^ (w + 1)) = L + A * (c % 2 ^ (w + 1)) := by
  have e : 2 ^ (w + 1) * 2 ^ (63 - w) = 18446744073709551616 := by rw [Nat.mul_comm, se_pow hw]
  rw [Nat.mod_mul, Nat.add_mul_mod_self_left, Nat.mod_eq_of_lt hL, Nat.add_mul_div_left _ _ (by omega), Nat.div_eq_of_lt hL, Nat.zero_add, ← e, Nat.mul_assoc, Nat.add_mul_mod_self_left]
theorem se_cmp {L A v w : Nat} (hL : L < A) : A * 2 ^ w ≤ L + A * v ↔ 2 ^ w ≤ v := by
  constructor
  · intro h
    have h1 : A * 2 ^ w < A * (v + 1) := by rw [Nat.mul_add, Nat.mul_one]; omega
    have := Nat.lt_of_mul_lt_mul_left h1
    omega
  · intro h
    have := Nat.mul_le_mul_left A h
    omega
theorem se_fdiv {w : Nat} (v : Nat) (hw : w < 64) : ishr .i64 (((v * 2 ^ (63 - w) : Nat) : Int) - 18446744073709551616) ((63 - w : Nat) : Int) = (v : Int) - ((2 ^ (w + 1) : Nat) : Int) := by
  have e := se_pow hw
  have b : IntKind.bits .i64 = 64 := rfl
  unfold ishr
  rw [b, Int.toNat_natCast, Nat.min_eq_left (by omega)]
  have h1 : ((v * 2 ^ (63 - w) : Nat) : Int) - 18446744073709551616 = ((v : Int) - ((2 ^ (w + 1) : Nat) : Int)) * (2 : Int) ^ (63 - w) := by
    rw [show (18446744073709551616 : Int) = ((18446744073709551616 : Nat) : Int) from rfl, ← e]
    push_cast
    rw [Int.sub_mul, Int.mul_comm (2 ^ (63 - w))]
  rw [h1]
  exact Int.mul_fdiv_cancel _ (by have : (0 : Int) < 2 ^ (63 - w) := Int.pow_pos (by decide); omega)
theorem seP0 (w : Nat) : (2 : Nat) ^ (64 * 0 + w) = 1 * 2 ^ w := by rw [Nat.pow_add]
theorem seA0 {b0 b1 b2 b3 w : Nat} (hw : w < 64) (g0 : b0 < 18446744073709551616) (g1 : b1 < 18446744073709551616) (g2 : b2 < 18446744073709551616) (g3 : b3 < 18446744073709551616) :
    (b0 + 18446744073709551616 * b1 + 340282366920938463463374607431768211456 * b2 + 6277101735386680763835789423207666416102355444464034512896 * b3) % 2 ^ (64 * 0 + (w + 1)) = 0 + 1 * (b0 % 2 ^ (w + 1)) ∧ (2 ^ (64 * 0 + w) ≤ (b0 + 18446744073709551616 * b1 + 340282366920938463463374607431768211456 * b2 + 6277101735386680763835789423207666416102355444464034512896 * b3) % 2 ^ (64 * 0 + (w + 1)) ↔ 2 ^ w ≤ b0 % 2 ^ (w + 1)) := by
  have h : (b0 + 18446744073709551616 * b1 + 340282366920938463463374607431768211456 * b2 + 6277101735386680763835789423207666416102355444464034512896 * b3) % 2 ^ (64 * 0 + (w + 1)) = 0 + 1 * (b0 % 2 ^ (w + 1)) := by
    rw [seP0, show b0 + 18446744073709551616 * b1 + 340282366920938463463374607431768211456 * b2 + 6277101735386680763835789423207666416102355444464034512896 * b3 = 0 + 1 * (b0 + 18446744073709551616 * (b1 + 18446744073709551616 * (b2 + 18446744073709551616 * b3))) by omega, se_mod hw (by omega)]
  exact ⟨h, by rw [h, seP0]; exact se_cmp (by omega)⟩
theorem se00 {b0 b1 b2 b3 w : Nat} (hw : w < 64) (g0 : b0 < 18446744073709551616) (g1 : b1 < 18446744073709551616) (g2 : b2 < 18446744073709551616) (g3 : b3 < 18446744073709551616) (hs : ¬ 2 ^ w ≤ b0 % 2 ^ (w + 1)) :
    WV (b0 % 2 ^ (w + 1)) (0) (0) (0) = wordV (if 2 ^ (64 * 0 + w) ≤ (b0 + 18446744073709551616 * b1 + 340282366920938463463374607431768211456 * b2 + 6277101735386680763835789423207666416102355444464034512896 * b3) % 2 ^ (64 * 0 + (w + 1)) then (b0 + 18446744073709551616 * b1 + 340282366920938463463374607431768211456 * b2 + 6277101735386680763835789423207666416102355444464034512896 * b3) % 2 ^ (64 * 0 + (w + 1)) + 115792089237316195423570985008687907853269984665640564039457584007913129639936 - 2 ^ (64 * 0 + (w + 1)) else (b0 + 18446744073709551616 * b1 + 340282366920938463463374607431768211456 * b2 + 6277101735386680763835789423207666416102355444464034512896 * b3) % 2 ^ (64 * 0 + (w + 1))) := by
  have h := seA0 hw g0 g1 g2 g3
  have hv : b0 % 2 ^ (w + 1) ≤ b0 := Nat.mod_le _ _
  rw [if_neg (by rw [h.2]; exact hs), h.1]
  exact WV_eq (by omega) (by omega) (by omega) (by omega) (by omega)
theorem se10 {b0 b1 b2 b3 w : Nat} (hw : w < 64) (g0 : b0 < 18446744073709551616) (g1 : b1 < 18446744073709551616) (g2 : b2 < 18446744073709551616) (g3 : b3 < 18446744073709551616) (hs : 2 ^ w ≤ b0 % 2 ^ (w + 1)) :
    WV ((18446744073709551616 + b0 % 2 ^ (w + 1) - 2 ^ (w + 1))) (18446744073709551615) (18446744073709551615) (18446744073709551615) = wordV (if 2 ^ (64 * 0 + w) ≤ (b0 + 18446744073709551616 * b1 + 340282366920938463463374607431768211456 * b2 + 6277101735386680763835789423207666416102355444464034512896 * b3) % 2 ^ (64 * 0 + (w + 1)) then (b0 + 18446744073709551616 * b1 + 340282366920938463463374607431768211456 * b2 + 6277101735386680763835789423207666416102355444464034512896 * b3) % 2 ^ (64 * 0 + (w + 1)) + 115792089237316195423570985008687907853269984665640564039457584007913129639936 - 2 ^ (64 * 0 + (w + 1)) else (b0 + 18446744073709551616 * b1 + 340282366920938463463374607431768211456 * b2 + 6277101735386680763835789423207666416102355444464034512896 * b3) % 2 ^ (64 * 0 + (w + 1))) := by
  have h := seA0 hw g0 g1 g2 g3
  have hv : b0 % 2 ^ (w + 1) < 2 ^ (w + 1) := Nat.mod_lt _ (Nat.two_pow_pos _)
  have hP : 2 ^ (w + 1) ≤ 2 ^ 64 := Nat.pow_le_pow_right (by omega) (by omega)
  rw [if_pos (by rw [h.2]; exact hs), h.1, seP0]
  generalize b0 % 2 ^ (w + 1) = V at *
  generalize 2 ^ (w + 1) = P at *
  exact WV_eq (by omega) (by omega) (by omega) (by omega) (by omega)
theorem seP1 (w : Nat) : (2 : Nat) ^ (64 * 1 + w) = 18446744073709551616 * 2 ^ w := by rw [Nat.pow_add]
theorem seA1 {b0 b1 b2 b3 w : Nat} (hw : w < 64) (g0 : b0 < 18446744073709551616) (g1 : b1 < 18446744073709551616) (g2 : b2 < 18446744073709551616) (g3 : b3 < 18446744073709551616) :
    (b0 + 18446744073709551616 * b1 + 340282366920938463463374607431768211456 * b2 + 6277101735386680763835789423207666416102355444464034512896 * b3) % 2 ^ (64 * 1 + (w + 1)) = b0 + 18446744073709551616 * (b1 % 2 ^ (w + 1)) ∧ (2 ^ (64 * 1 + w) ≤ (b0 + 18446744073709551616 * b1 + 340282366920938463463374607431768211456 * b2 + 6277101735386680763835789423207666416102355444464034512896 * b3) % 2 ^ (64 * 1 + (w + 1)) ↔ 2 ^ w ≤ b1 % 2 ^ (w + 1)) := by
  have h : (b0 + 18446744073709551616 * b1 + 340282366920938463463374607431768211456 * b2 + 6277101735386680763835789423207666416102355444464034512896 * b3) % 2 ^ (64 * 1 + (w + 1)) = b0 + 18446744073709551616 * (b1 % 2 ^ (w + 1)) := by
    rw [seP1, show b0 + 18446744073709551616 * b1 + 340282366920938463463374607431768211456 * b2 + 6277101735386680763835789423207666416102355444464034512896 * b3 = b0 + 18446744073709551616 * (b1 + 18446744073709551616 * (b2 + 18446744073709551616 * b3)) by omega, se_mod hw (by omega)]
  exact ⟨h, by rw [h, seP1]; exact se_cmp (by omega)⟩
theorem se01 {b0 b1 b2 b3 w : Nat} (hw : w < 64) (g0 : b0 < 18446744073709551616) (g1 : b1 < 18446744073709551616) (g2 : b2 < 18446744073709551616) (g3 : b3 < 18446744073709551616) (hs : ¬ 2 ^ w ≤ b1 % 2 ^ (w + 1)) :
    WV (b0) (b1 % 2 ^ (w + 1)) (0) (0) = wordV (if 2 ^ (64 * 1 + w) ≤ (b0 + 18446744073709551616 * b1 + 340282366920938463463374607431768211456 * b2 + 6277101735386680763835789423207666416102355444464034512896 * b3) % 2 ^ (64 * 1 + (w + 1)) then (b0 + 18446744073709551616 * b1 + 340282366920938463463374607431768211456 * b2 + 6277101735386680763835789423207666416102355444464034512896 * b3) % 2 ^ (64 * 1 + (w + 1)) + 115792089237316195423570985008687907853269984665640564039457584007913129639936 - 2 ^ (64 * 1 + (w + 1)) else (b0 + 18446744073709551616 * b1 + 340282366920938463463374607431768211456 * b2 + 6277101735386680763835789423207666416102355444464034512896 * b3) % 2 ^ (64 * 1 + (w + 1))) := by
  have h := seA1 hw g0 g1 g2 g3
  have hv : b1 % 2 ^ (w + 1) ≤ b1 := Nat.mod_le _ _
  rw [if_neg (by rw [h.2]; exact hs), h.1]
  exact WV_eq (by omega) (by omega) (by omega) (by omega) (by omega)
theorem se11 {b0 b1 b2 b3 w : Nat} (hw : w < 64) (g0 : b0 < 18446744073709551616) (g1 : b1 < 18446744073709551616) (g2 : b2 < 18446744073709551616) (g3 : b3 < 18446744073709551616) (hs : 2 ^ w ≤ b1 % 2 ^ (w + 1)) :
    WV (b0) ((18446744073709551616 + b1 % 2 ^ (w + 1) - 2 ^ (w + 1))) (18446744073709551615) (18446744073709551615) = wordV (if 2 ^ (64 * 1 + w) ≤ (b0 + 18446744073709551616 * b1 + 340282366920938463463374607431768211456 * b2 + 6277101735386680763835789423207666416102355444464034512896 * b3) % 2 ^ (64 * 1 + (w + 1)) then (b0 + 18446744073709551616 * b1 + 340282366920938463463374607431768211456 * b2 + 6277101735386680763835789423207666416102355444464034512896 * b3) % 2 ^ (64 * 1 + (w + 1)) + 115792089237316195423570985008687907853269984665640564039457584007913129639936 - 2 ^ (64 * 1 + (w + 1)) else (b0 + 18446744073709551616 * b1 + 340282366920938463463374607431768211456 * b2 + 6277101735386680763835789423207666416102355444464034512896 * b3) % 2 ^ (64 * 1 + (w + 1))) := by
  have h := seA1 hw g0 g1 g2 g3
  have hv : b1 % 2 ^ (w + 1) < 2 ^ (w + 1) := Nat.mod_lt _ (Nat.two_pow_pos _)
  have hP : 2 ^ (w + 1) ≤ 2 ^ 64 := Nat.pow_le_pow_right (by omega) (by omega)
  rw [if_pos (by rw [h.2]; exact hs), h.1, seP1]
  generalize b1 % 2 ^ (w + 1) = V at *
  generalize 2 ^ (w + 1) = P at *
  exact WV_eq (by omega) (by omega) (by omega) (by omega) (by omega)
theorem seP2 (w : Nat) : (2 : Nat) ^ (64 * 2 + w) = 340282366920938463463374607431768211456 * 2 ^ w := by rw [Nat.pow_add]
theorem seA2 {b0 b1 b2 b3 w : Nat} (hw : w < 64) (g0 : b0 < 18446744073709551616) (g1 : b1 < 18446744073709551616) (g2 : b2 < 18446744073709551616) (g3 : b3 < 18446744073709551616) :
    (b0 + 18446744073709551616 * b1 + 340282366920938463463374607431768211456 * b2 + 6277101735386680763835789423207666416102355444464034512896 * b3) % 2 ^ (64 * 2 + (w + 1)) = b0 + 18446744073709551616 * b1 + 340282366920938463463374607431768211456 * (b2 % 2 ^ (w + 1)) ∧ (2 ^ (64 * 2 + w) ≤ (b0 + 18446744073709551616 * b1 + 340282366920938463463374607431768211456 * b2 + 6277101735386680763835789423207666416102355444464034512896 * b3) % 2 ^ (64 * 2 + (w + 1)) ↔ 2 ^ w ≤ b2 % 2 ^ (w + 1)) := by
  have h : (b0 + 18446744073709551616 * b1 + 340282366920938463463374607431768211456 * b2 + 6277101735386680763835789423207666416102355444464034512896 * b3) % 2 ^ (64 * 2 + (w + 1)) = b0 + 18446744073709551616 * b1 + 340282366920938463463374607431768211456 * (b2 % 2 ^ (w + 1)) := by
    rw [seP2, show b0 + 18446744073709551616 * b1 + 340282366920938463463374607431768211456 * b2 + 6277101735386680763835789423207666416102355444464034512896 * b3 = b0 + 18446744073709551616 * b1 + 340282366920938463463374607431768211456 * (b2 + 18446744073709551616 * (b3)) by omega, se_mod hw (by omega)]
  exact ⟨h, by rw [h, seP2]; exact se_cmp (by omega)⟩
theorem se02 {b0 b1 b2 b3 w : Nat} (hw : w < 64) (g0 : b0 < 18446744073709551616) (g1 : b1 < 18446744073709551616) (g2 : b2 < 18446744073709551616) (g3 : b3 < 18446744073709551616) (hs : ¬ 2 ^ w ≤ b2 % 2 ^ (w + 1)) :
    WV (b0) (b1) (b2 % 2 ^ (w + 1)) (0) = wordV (if 2 ^ (64 * 2 + w) ≤ (b0 + 18446744073709551616 * b1 + 340282366920938463463374607431768211456 * b2 + 6277101735386680763835789423207666416102355444464034512896 * b3) % 2 ^ (64 * 2 + (w + 1)) then (b0 + 18446744073709551616 * b1 + 340282366920938463463374607431768211456 * b2 + 6277101735386680763835789423207666416102355444464034512896 * b3) % 2 ^ (64 * 2 + (w + 1)) + 115792089237316195423570985008687907853269984665640564039457584007913129639936 - 2 ^ (64 * 2 + (w + 1)) else (b0 + 18446744073709551616 * b1 + 340282366920938463463374607431768211456 * b2 + 6277101735386680763835789423207666416102355444464034512896 * b3) % 2 ^ (64 * 2 + (w + 1))) := by
  have h := seA2 hw g0 g1 g2 g3
  have hv : b2 % 2 ^ (w + 1) ≤ b2 := Nat.mod_le _ _
  rw [if_neg (by rw [h.2]; exact hs), h.1]
  exact WV_eq (by omega) (by omega) (by omega) (by omega) (by omega)
theorem se12 {b0 b1 b2 b3 w : Nat} (hw : w < 64) (g0 : b0 < 18446744073709551616) (g1 : b1 < 18446744073709551616) (g2 : b2 < 18446744073709551616) (g3 : b3 < 18446744073709551616) (hs : 2 ^ w ≤ b2 % 2 ^ (w + 1)) :
    WV (b0) (b1) ((18446744073709551616 + b2 % 2 ^ (w + 1) - 2 ^ (w + 1))) (18446744073709551615) = wordV (if 2 ^ (64 * 2 + w) ≤ (b0 + 18446744073709551616 * b1 + 340282366920938463463374607431768211456 * b2 + 6277101735386680763835789423207666416102355444464034512896 * b3) % 2 ^ (64 * 2 + (w + 1)) then (b0 + 18446744073709551616 * b1 + 340282366920938463463374607431768211456 * b2 + 6277101735386680763835789423207666416102355444464034512896 * b3) % 2 ^ (64 * 2 + (w + 1)) + 115792089237316195423570985008687907853269984665640564039457584007913129639936 - 2 ^ (64 * 2 + (w + 1)) else (b0 + 18446744073709551616 * b1 + 340282366920938463463374607431768211456 * b2 + 6277101735386680763835789423207666416102355444464034512896 * b3) % 2 ^ (64 * 2 + (w + 1))) := by
  have h := seA2 hw g0 g1 g2 g3
  have hv : b2 % 2 ^ (w + 1) < 2 ^ (w + 1) := Nat.mod_lt _ (Nat.two_pow_pos _)
  have hP : 2 ^ (w + 1) ≤ 2 ^ 64 := Nat.pow_le_pow_right (by omega) (by omega)
  rw [if_pos (by rw [h.2]; exact hs), h.1, seP2]
  generalize b2 % 2 ^ (w + 1) = V at *
  generalize 2 ^ (w + 1) = P at *
  exact WV_eq (by omega) (by omega) (by omega) (by omega) (by omega)
theorem seP3 (w : Nat) : (2 : Nat) ^ (64 * 3 + w) = 6277101735386680763835789423207666416102355444464034512896 * 2 ^ w := by rw [Nat.pow_add]
theorem seA3 {b0 b1 b2 b3 w : Nat} (hw : w < 64) (g0 : b0 < 18446744073709551616) (g1 : b1 < 18446744073709551616) (g2 : b2 < 18446744073709551616) (g3 : b3 < 18446744073709551616) :
    (b0 + 18446744073709551616 * b1 + 340282366920938463463374607431768211456 * b2 + 6277101735386680763835789423207666416102355444464034512896 * b3) % 2 ^ (64 * 3 + (w + 1)) = b0 + 18446744073709551616 * b1 + 340282366920938463463374607431768211456 * b2 + 6277101735386680763835789423207666416102355444464034512896 * (b3 % 2 ^ (w + 1)) ∧ (2 ^ (64 * 3 + w) ≤ (b0 + 18446744073709551616 * b1 + 340282366920938463463374607431768211456 * b2 + 6277101735386680763835789423207666416102355444464034512896 * b3) % 2 ^ (64 * 3 + (w + 1)) ↔ 2 ^ w ≤ b3 % 2 ^ (w + 1)) := by
  have h : (b0 + 18446744073709551616 * b1 + 340282366920938463463374607431768211456 * b2 + 6277101735386680763835789423207666416102355444464034512896 * b3) % 2 ^ (64 * 3 + (w + 1)) = b0 + 18446744073709551616 * b1 + 340282366920938463463374607431768211456 * b2 + 6277101735386680763835789423207666416102355444464034512896 * (b3 % 2 ^ (w + 1)) := by
    rw [seP3, show b0 + 18446744073709551616 * b1 + 340282366920938463463374607431768211456 * b2 + 6277101735386680763835789423207666416102355444464034512896 * b3 = b0 + 18446744073709551616 * b1 + 340282366920938463463374607431768211456 * b2 + 6277101735386680763835789423207666416102355444464034512896 * (b3 + 18446744073709551616 * (0)) by omega, se_mod hw (by omega)]
  exact ⟨h, by rw [h, seP3]; exact se_cmp (by omega)⟩
theorem se03 {b0 b1 b2 b3 w : Nat} (hw : w < 64) (g0 : b0 < 18446744073709551616) (g1 : b1 < 18446744073709551616) (g2 : b2 < 18446744073709551616) (g3 : b3 < 18446744073709551616) (hs : ¬ 2 ^ w ≤ b3 % 2 ^ (w + 1)) :
    WV (b0) (b1) (b2) (b3 % 2 ^ (w + 1)) = wordV (if 2 ^ (64 * 3 + w) ≤ (b0 + 18446744073709551616 * b1 + 340282366920938463463374607431768211456 * b2 + 6277101735386680763835789423207666416102355444464034512896 * b3) % 2 ^ (64 * 3 + (w + 1)) then (b0 + 18446744073709551616 * b1 + 340282366920938463463374607431768211456 * b2 + 6277101735386680763835789423207666416102355444464034512896 * b3) % 2 ^ (64 * 3 + (w + 1)) + 115792089237316195423570985008687907853269984665640564039457584007913129639936 - 2 ^ (64 * 3 + (w + 1)) else (b0 + 18446744073709551616 * b1 + 340282366920938463463374607431768211456 * b2 + 6277101735386680763835789423207666416102355444464034512896 * b3) % 2 ^ (64 * 3 + (w + 1))) := by
  have h := seA3 hw g0 g1 g2 g3
  have hv : b3 % 2 ^ (w + 1) ≤ b3 := Nat.mod_le _ _
  rw [if_neg (by rw [h.2]; exact hs), h.1]
  exact WV_eq (by omega) (by omega) (by omega) (by omega) (by omega)
theorem se13 {b0 b1 b2 b3 w : Nat} (hw : w < 64) (g0 : b0 < 18446744073709551616) (g1 : b1 < 18446744073709551616) (g2 : b2 < 18446744073709551616) (g3 : b3 < 18446744073709551616) (hs : 2 ^ w ≤ b3 % 2 ^ (w + 1)) :
    WV (b0) (b1) (b2) ((18446744073709551616 + b3 % 2 ^ (w + 1) - 2 ^ (w + 1))) = wordV (if 2 ^ (64 * 3 + w) ≤ (b0 + 18446744073709551616 * b1 + 340282366920938463463374607431768211456 * b2 + 6277101735386680763835789423207666416102355444464034512896 * b3) % 2 ^ (64 * 3 + (w + 1)) then (b0 + 18446744073709551616 * b1 + 340282366920938463463374607431768211456 * b2 + 6277101735386680763835789423207666416102355444464034512896 * b3) % 2 ^ (64 * 3 + (w + 1)) + 115792089237316195423570985008687907853269984665640564039457584007913129639936 - 2 ^ (64 * 3 + (w + 1)) else (b0 + 18446744073709551616 * b1 + 340282366920938463463374607431768211456 * b2 + 6277101735386680763835789423207666416102355444464034512896 * b3) % 2 ^ (64 * 3 + (w + 1))) := by
  have h := seA3 hw g0 g1 g2 g3
  have hv : b3 % 2 ^ (w + 1) < 2 ^ (w + 1) := Nat.mod_lt _ (Nat.two_pow_pos _)
  have hP : 2 ^ (w + 1) ≤ 2 ^ 64 := Nat.pow_le_pow_right (by omega) (by omega)
  rw [if_pos (by rw [h.2]; exact hs), h.1, seP3]
  generalize b3 % 2 ^ (w + 1) = V at *
  generalize 2 ^ (w + 1) = P at *
  exact WV_eq (by omega) (by omega) (by omega) (by omega) (by omega)

/-- u256.SignExtend -/
theorem USignExtend_spec {S : St} {a b : Nat} (ha : a < 115792089237316195423570985008687907853269984665640564039457584007913129639936) (hb : b < 115792089237316195423570985008687907853269984665640564039457584007913129639936) :
    CallG Hvaf.prog 288 #[wordV a, wordV b] S fun r S' => S = S' ∧ r = wordV (if a < 31 then (if 2 ^ (8 * a + 7) ≤ b % 2 ^ (8 * a + 8) then b % 2 ^ (8 * a + 8) + 115792089237316195423570985008687907853269984665640564039457584007913129639936 - 2 ^ (8 * a + 8) else b % 2 ^ (8 * a + 8)) else b) := by
  obtain ⟨b0, b1, b2, b3, g0, g1, g2, g3, eb, vb⟩ := word_cases hb
  by_cases hs31 : a < 31
  · rw [if_pos hs31, vb]
    clear vb hb
    replace ha : Hid _ := ⟨ha⟩
    have hcs : (8 * a + 7) / 64 = 0 ∨ (8 * a + 7) / 64 = 1 ∨ (8 * a + 7) / 64 = 2 ∨ (8 * a + 7) / 64 = 3 := by omega
    rcases hcs with hk | hk | hk | hk
    · obtain ⟨w, hw1, hw⟩ : ∃ w, 8 * a + 7 = 64 * 0 + w ∧ w < 64 := ⟨8 * a + 7 - 64 * 0, by omega, by omega⟩
      rw [show 8 * a + 8 = 64 * 0 + (w + 1) by omega, hw1]
      have ex := se_x b0 hw
      have hP : (2 : Nat) ^ (w + 1) ≤ 2 ^ 64 := Nat.pow_le_pow_right (by omega) (by omega)
      have hv : b0 % 2 ^ (w + 1) < 2 ^ (w + 1) := Nat.mod_lt _ (Nat.two_pow_pos _)
      have hxM : b0 % 2 ^ (w + 1) * 2 ^ (63 - w) < 18446744073709551616 := by rw [← ex]; exact Nat.mod_lt _ (by decide)
      by_cases hs : 2 ^ w ≤ b0 % 2 ^ (w + 1)
      · have hx := (se_sign (b0 % 2 ^ (w + 1)) hw).2 hs
        have hp2 : 2 ^ (w + 1) = 2 ^ w * 2 := Nat.pow_succ _ _
        refine CallG.start (C := mkC Hvaf.prog) cok (args := [wordV a, WV b0 b1 b2 b3]) Hvaf.func288 rfl Hvaf.ntmps288 (by simp) (by kernel_rfl) ?_
        intro xa xb xr
        repeat (first | refine SeqS.go cok ?_ | (refine QuG.keep ?_; first | refine QuG.lN cok 2 rfl rfl rfl rfl rfl (by first | exact Nat.le_of_ble_eq_true rfl | omega | (dsimp only; omega) | (simp only [addS_eq, mulS_eq]; omega)) ?_))
        refine (Ubelow_spec (n := 31) ha.out (by omega)).mono ?_
        rintro r _ - ⟨rfl, x, rfl, hx0⟩
        have hxa := (hx0 hs31).symm
        subst hxa
        repeat (first | (refine ValS.keep ?_; first | with_reducible refine ValS.quoK 0 (by omega) (by omega) ?_ | with_reducible refine ValS.remK w (by omega) ?_) | refine SeqS.go cok ?_ | refine And.intro (by omega) ?_ | refine And.intro (by dsimp only; omega) ?_ | (refine NatS.keep ?_; first | with_reducible refine NatS.nat ?_) | (refine ValS.keep ?_; first | (with_reducible refine ValS.kU64 ?_; first | (with_reducible refine ValS.addU64_L ?_ ?_ ; omega) | (with_reducible refine ValS.subU64_M ?_ ?_ ?_ ; omega; omega) | (with_reducible refine ValS.mulU64_M ?_ ?_ ; omega))) | (refine QuG.keep ?_; first | refine QuG.l1 cok 1 rfl rfl rfl rfl rfl (by first | exact Nat.le_of_ble_eq_true rfl | omega | (dsimp only; omega) | (simp only [addS_eq, mulS_eq]; omega)) ?_) | (refine CondS.keep ?_; first | refine CondS.nd0 rfl (by omega) ?_))
        refine ValS.toN (b0 % 2 ^ (w + 1) * 2 ^ (63 - w)) (by rw [ishl_nat (k := .u64) b0 (63 - w) (by show _ ≤ 64; omega), wrapU64, ← ex]; omega) ?_
        skip
        refine ValS.to (u := .int .i64 (((b0 % 2 ^ (w + 1) * 2 ^ (63 - w) : Nat) : Int) - 18446744073709551616)) (by rw [wrapI64n _ (by omega) (by omega)]) ?_
        repeat (first | refine And.intro (by omega) ?_)
        refine ValS.to (u := .int .i64 (((b0 % 2 ^ (w + 1) : Nat) : Int) - ((2 ^ (w + 1) : Nat) : Int))) (by rw [se_fdiv _ hw]) ?_
        skip
        refine ValS.toN (18446744073709551616 + b0 % 2 ^ (w + 1) - 2 ^ (w + 1)) (by rw [wrapU64]; omega) ?_
        repeat (first | refine SeqS.go cok ?_ | refine And.intro (by dsimp only; omega) ?_ | (refine NatS.keep ?_; first | with_reducible refine NatS.nat ?_) | (refine QuG.keep ?_; first | refine QuG.l1 cok 1 rfl rfl rfl rfl rfl (by first | exact Nat.le_of_ble_eq_true rfl | omega | (dsimp only; omega) | (simp only [addS_eq, mulS_eq]; omega)) ?_) | (refine OpG.keep ?_; first | refine OpG.s1 cok 1 rfl rfl rfl rfl rfl (by first | exact Nat.le_of_ble_eq_true rfl | omega | (dsimp only; omega) | (simp only [addS_eq, mulS_eq]; omega)) rfl rfl ?_))
        refine ValS.to (u := .int .i64 (((18446744073709551616 + b0 % 2 ^ (w + 1) - 2 ^ (w + 1) : Nat) : Int) - 18446744073709551616)) (by rw [wrapI64n _ (by omega) (by omega)]) ?_
        repeat (first | refine And.intro (by omega) ?_)
        refine ValS.to (u := .int .i64 (-1)) (by rw [ishr_neg _ (by omega) (by omega)]) ?_
        skip
        refine ValS.toN 18446744073709551615 rfl ?_
        repeat (first | refine SeqS.go cok ?_ | (refine ValS.keep ?_; first | (with_reducible refine ValS.kU64 ?_; first | (with_reducible refine ValS.addU64_L ?_ ?_ ; omega))))
        refine W.rounds cok (by kernel_rfl) 5 ?_
        repeat (first | refine SeqS.go cok ?_ | refine CondS.t rfl ?_ | refine CondS.f rfl ?_ | refine And.intro (by dsimp only; omega) ?_ | (refine NatS.keep ?_; first | with_reducible refine NatS.nat ?_) | (refine ValS.keep ?_; first | (with_reducible refine ValS.kU64 ?_; first | (with_reducible refine ValS.addU64_L ?_ ?_ ; omega))) | (refine QuG.keep ?_; first | refine QuG.lN cok 1 rfl rfl rfl rfl rfl (by first | exact Nat.le_of_ble_eq_true rfl | omega | (dsimp only; omega) | (simp only [addS_eq, mulS_eq]; omega)) ?_) | (refine LdG.keep ?_; first | refine LdG.lN cok 0 rfl rfl rfl rfl rfl (by first | exact Nat.le_of_ble_eq_true rfl | omega | (dsimp only; omega) | (simp only [addS_eq, mulS_eq]; omega)) ?_) | (refine OpG.keep ?_; first | refine OpG.s1 cok 1 rfl rfl rfl rfl rfl (by first | exact Nat.le_of_ble_eq_true rfl | omega | (dsimp only; omega) | (simp only [addS_eq, mulS_eq]; omega)) rfl rfl ?_ | refine OpG.sL cok 0 rfl rfl rfl rfl rfl rfl rfl (by first | exact Nat.le_of_ble_eq_true rfl | omega | (dsimp only; omega) | (simp only [addS_eq, mulS_eq]; omega)) ?_))
        obtain ⟨rfl⟩ := eb
        exact Fin.drop S.G [_, _, _] ⟨rfl, tW rfl (se10 hw g0 g1 g2 g3 hs)⟩
      · have hx : b0 % 2 ^ (w + 1) * 2 ^ (63 - w) < 9223372036854775808 := Nat.lt_of_not_le fun h => hs ((se_sign (b0 % 2 ^ (w + 1)) hw).1 h)
        have hvd : b0 % 2 ^ (w + 1) * 2 ^ (63 - w) / 2 ^ (63 - w) = b0 % 2 ^ (w + 1) := Nat.mul_div_cancel _ (Nat.two_pow_pos _)
        have hvl : b0 % 2 ^ (w + 1) < 9223372036854775808 := by have := Nat.div_le_self (b0 % 2 ^ (w + 1) * 2 ^ (63 - w)) (2 ^ (63 - w)); omega
        refine CallG.start (C := mkC Hvaf.prog) cok (args := [wordV a, WV b0 b1 b2 b3]) Hvaf.func288 rfl Hvaf.ntmps288 (by simp) (by kernel_rfl) ?_
        intro xa xb xr
        repeat (first | refine SeqS.go cok ?_ | (refine QuG.keep ?_; first | refine QuG.lN cok 2 rfl rfl rfl rfl rfl (by first | exact Nat.le_of_ble_eq_true rfl | omega | (dsimp only; omega) | (simp only [addS_eq, mulS_eq]; omega)) ?_))
        refine (Ubelow_spec (n := 31) ha.out (by omega)).mono ?_
        rintro r _ - ⟨rfl, x, rfl, hx0⟩
        have hxa := (hx0 hs31).symm
        subst hxa
        repeat (first | (refine ValS.keep ?_; first | with_reducible refine ValS.quoK 0 (by omega) (by omega) ?_ | with_reducible refine ValS.remK w (by omega) ?_) | refine SeqS.go cok ?_ | refine And.intro (by omega) ?_ | refine And.intro (by dsimp only; omega) ?_ | (refine NatS.keep ?_; first | with_reducible refine NatS.nat ?_) | (refine ValS.keep ?_; first | (with_reducible refine ValS.kU64 ?_; first | (with_reducible refine ValS.addU64_L ?_ ?_ ; omega) | (with_reducible refine ValS.subU64_M ?_ ?_ ?_ ; omega; omega) | (with_reducible refine ValS.mulU64_M ?_ ?_ ; omega))) | (refine QuG.keep ?_; first | refine QuG.l1 cok 1 rfl rfl rfl rfl rfl (by first | exact Nat.le_of_ble_eq_true rfl | omega | (dsimp only; omega) | (simp only [addS_eq, mulS_eq]; omega)) ?_) | (refine CondS.keep ?_; first | refine CondS.nd0 rfl (by omega) ?_))
        refine ValS.toN (b0 % 2 ^ (w + 1) * 2 ^ (63 - w)) (by rw [ishl_nat (k := .u64) b0 (63 - w) (by show _ ≤ 64; omega), wrapU64, ← ex]; omega) ?_
        repeat (first | refine And.intro (by omega) ?_ | (refine ValS.keep ?_; first | (with_reducible refine ValS.kI64 ?_; first | (with_reducible refine ValS.convI64 ?_ ?_ ; omega))))
        refine ValS.toN (b0 % 2 ^ (w + 1)) (by rw [ishr_nat (k := .i64) _ (63 - w) (by show _ ≤ 64; omega), hvd]) ?_
        repeat (first | refine SeqS.go cok ?_ | refine And.intro (by omega) ?_ | refine And.intro (by dsimp only; omega) ?_ | (refine NatS.keep ?_; first | with_reducible refine NatS.nat ?_) | (refine ValS.keep ?_; first | (with_reducible refine ValS.kI64 ?_; first | (with_reducible refine ValS.convI64 ?_ ?_ ; omega)) | (with_reducible refine ValS.kU64 ?_; first | (with_reducible refine ValS.convU64 ?_ ?_ ; omega))) | (refine QuG.keep ?_; first | refine QuG.l1 cok 1 rfl rfl rfl rfl rfl (by first | exact Nat.le_of_ble_eq_true rfl | omega | (dsimp only; omega) | (simp only [addS_eq, mulS_eq]; omega)) ?_) | (refine OpG.keep ?_; first | refine OpG.s1 cok 1 rfl rfl rfl rfl rfl (by first | exact Nat.le_of_ble_eq_true rfl | omega | (dsimp only; omega) | (simp only [addS_eq, mulS_eq]; omega)) rfl rfl ?_))
        refine ValS.toN 0 (by rw [show (63 : Int) = ((63 : Nat) : Int) from rfl, ishr_nat (k := .i64) _ 63 (by decide)]; omega) ?_
        repeat (first | refine SeqS.go cok ?_ | (refine ValS.keep ?_; first | (with_reducible refine ValS.kU64 ?_; first | (with_reducible refine ValS.convU64 ?_ ?_ ; omega) | (with_reducible refine ValS.addU64_L ?_ ?_ ; omega))))
        refine W.rounds cok (by kernel_rfl) 5 ?_
        repeat (first | refine SeqS.go cok ?_ | refine CondS.t rfl ?_ | refine CondS.f rfl ?_ | refine And.intro (by dsimp only; omega) ?_ | (refine NatS.keep ?_; first | with_reducible refine NatS.nat ?_) | (refine ValS.keep ?_; first | (with_reducible refine ValS.kU64 ?_; first | (with_reducible refine ValS.addU64_L ?_ ?_ ; omega))) | (refine QuG.keep ?_; first | refine QuG.lN cok 1 rfl rfl rfl rfl rfl (by first | exact Nat.le_of_ble_eq_true rfl | omega | (dsimp only; omega) | (simp only [addS_eq, mulS_eq]; omega)) ?_) | (refine LdG.keep ?_; first | refine LdG.lN cok 0 rfl rfl rfl rfl rfl (by first | exact Nat.le_of_ble_eq_true rfl | omega | (dsimp only; omega) | (simp only [addS_eq, mulS_eq]; omega)) ?_) | (refine OpG.keep ?_; first | refine OpG.s1 cok 1 rfl rfl rfl rfl rfl (by first | exact Nat.le_of_ble_eq_true rfl | omega | (dsimp only; omega) | (simp only [addS_eq, mulS_eq]; omega)) rfl rfl ?_ | refine OpG.sL cok 0 rfl rfl rfl rfl rfl rfl rfl (by first | exact Nat.le_of_ble_eq_true rfl | omega | (dsimp only; omega) | (simp only [addS_eq, mulS_eq]; omega)) ?_))
        obtain ⟨rfl⟩ := eb
        exact Fin.drop S.G [_, _, _] ⟨rfl, tW rfl (se00 hw g0 g1 g2 g3 hs)⟩
    · obtain ⟨w, hw1, hw⟩ : ∃ w, 8 * a + 7 = 64 * 1 + w ∧ w < 64 := ⟨8 * a + 7 - 64 * 1, by omega, by omega⟩
      rw [show 8 * a + 8 = 64 * 1 + (w + 1) by omega, hw1]
      have ex := se_x b1 hw
      have hP : (2 : Nat) ^ (w + 1) ≤ 2 ^ 64 := Nat.pow_le_pow_right (by omega) (by omega)
      have hv : b1 % 2 ^ (w + 1) < 2 ^ (w + 1) := Nat.mod_lt _ (Nat.two_pow_pos _)
      have hxM : b1 % 2 ^ (w + 1) * 2 ^ (63 - w) < 18446744073709551616 := by rw [← ex]; exact Nat.mod_lt _ (by decide)
      by_cases hs : 2 ^ w ≤ b1 % 2 ^ (w + 1)
      · have hx := (se_sign (b1 % 2 ^ (w + 1)) hw).2 hs
        have hp2 : 2 ^ (w + 1) = 2 ^ w * 2 := Nat.pow_succ _ _
        refine CallG.start (C := mkC Hvaf.prog) cok (args := [wordV a, WV b0 b1 b2 b3]) Hvaf.func288 rfl Hvaf.ntmps288 (by simp) (by kernel_rfl) ?_
        intro xa xb xr
        repeat (first | refine SeqS.go cok ?_ | (refine QuG.keep ?_; first | refine QuG.lN cok 2 rfl rfl rfl rfl rfl (by first | exact Nat.le_of_ble_eq_true rfl | omega | (dsimp only; omega) | (simp only [addS_eq, mulS_eq]; omega)) ?_))
        refine (Ubelow_spec (n := 31) ha.out (by omega)).mono ?_
        rintro r _ - ⟨rfl, x, rfl, hx0⟩
        have hxa := (hx0 hs31).symm
        subst hxa
        repeat (first | (refine ValS.keep ?_; first | with_reducible refine ValS.quoK 1 (by omega) (by omega) ?_ | with_reducible refine ValS.remK w (by omega) ?_) | refine SeqS.go cok ?_ | refine And.intro (by omega) ?_ | refine And.intro (by dsimp only; omega) ?_ | (refine NatS.keep ?_; first | with_reducible refine NatS.nat ?_) | (refine ValS.keep ?_; first | (with_reducible refine ValS.kU64 ?_; first | (with_reducible refine ValS.addU64_L ?_ ?_ ; omega) | (with_reducible refine ValS.subU64_M ?_ ?_ ?_ ; omega; omega) | (with_reducible refine ValS.mulU64_M ?_ ?_ ; omega))) | (refine QuG.keep ?_; first | refine QuG.l1 cok 1 rfl rfl rfl rfl rfl (by first | exact Nat.le_of_ble_eq_true rfl | omega | (dsimp only; omega) | (simp only [addS_eq, mulS_eq]; omega)) ?_) | (refine CondS.keep ?_; first | refine CondS.nd0 rfl (by omega) ?_))
        refine ValS.toN (b1 % 2 ^ (w + 1) * 2 ^ (63 - w)) (by rw [ishl_nat (k := .u64) b1 (63 - w) (by show _ ≤ 64; omega), wrapU64, ← ex]; omega) ?_
        skip
        refine ValS.to (u := .int .i64 (((b1 % 2 ^ (w + 1) * 2 ^ (63 - w) : Nat) : Int) - 18446744073709551616)) (by rw [wrapI64n _ (by omega) (by omega)]) ?_
        repeat (first | refine And.intro (by omega) ?_)
        refine ValS.to (u := .int .i64 (((b1 % 2 ^ (w + 1) : Nat) : Int) - ((2 ^ (w + 1) : Nat) : Int))) (by rw [se_fdiv _ hw]) ?_
        skip
        refine ValS.toN (18446744073709551616 + b1 % 2 ^ (w + 1) - 2 ^ (w + 1)) (by rw [wrapU64]; omega) ?_
        repeat (first | refine SeqS.go cok ?_ | refine And.intro (by dsimp only; omega) ?_ | (refine NatS.keep ?_; first | with_reducible refine NatS.nat ?_) | (refine QuG.keep ?_; first | refine QuG.l1 cok 1 rfl rfl rfl rfl rfl (by first | exact Nat.le_of_ble_eq_true rfl | omega | (dsimp only; omega) | (simp only [addS_eq, mulS_eq]; omega)) ?_) | (refine OpG.keep ?_; first | refine OpG.s1 cok 1 rfl rfl rfl rfl rfl (by first | exact Nat.le_of_ble_eq_true rfl | omega | (dsimp only; omega) | (simp only [addS_eq, mulS_eq]; omega)) rfl rfl ?_))
        refine ValS.to (u := .int .i64 (((18446744073709551616 + b1 % 2 ^ (w + 1) - 2 ^ (w + 1) : Nat) : Int) - 18446744073709551616)) (by rw [wrapI64n _ (by omega) (by omega)]) ?_
        repeat (first | refine And.intro (by omega) ?_)
        refine ValS.to (u := .int .i64 (-1)) (by rw [ishr_neg _ (by omega) (by omega)]) ?_
        skip
        refine ValS.toN 18446744073709551615 rfl ?_
        repeat (first | refine SeqS.go cok ?_ | (refine ValS.keep ?_; first | (with_reducible refine ValS.kU64 ?_; first | (with_reducible refine ValS.addU64_L ?_ ?_ ; omega))))
        refine W.rounds cok (by kernel_rfl) 5 ?_
        repeat (first | refine SeqS.go cok ?_ | refine CondS.t rfl ?_ | refine CondS.f rfl ?_ | refine And.intro (by dsimp only; omega) ?_ | (refine NatS.keep ?_; first | with_reducible refine NatS.nat ?_) | (refine ValS.keep ?_; first | (with_reducible refine ValS.kU64 ?_; first | (with_reducible refine ValS.addU64_L ?_ ?_ ; omega))) | (refine QuG.keep ?_; first | refine QuG.lN cok 1 rfl rfl rfl rfl rfl (by first | exact Nat.le_of_ble_eq_true rfl | omega | (dsimp only; omega) | (simp only [addS_eq, mulS_eq]; omega)) ?_) | (refine LdG.keep ?_; first | refine LdG.lN cok 0 rfl rfl rfl rfl rfl (by first | exact Nat.le_of_ble_eq_true rfl | omega | (dsimp only; omega) | (simp only [addS_eq, mulS_eq]; omega)) ?_) | (refine OpG.keep ?_; first | refine OpG.s1 cok 1 rfl rfl rfl rfl rfl (by first | exact Nat.le_of_ble_eq_true rfl | omega | (dsimp only; omega) | (simp only [addS_eq, mulS_eq]; omega)) rfl rfl ?_ | refine OpG.sL cok 0 rfl rfl rfl rfl rfl rfl rfl (by first | exact Nat.le_of_ble_eq_true rfl | omega | (dsimp only; omega) | (simp only [addS_eq, mulS_eq]; omega)) ?_))
        obtain ⟨rfl⟩ := eb
        exact Fin.drop S.G [_, _, _] ⟨rfl, tW rfl (se11 hw g0 g1 g2 g3 hs)⟩
      · have hx : b1 % 2 ^ (w + 1) * 2 ^ (63 - w) < 9223372036854775808 := Nat.lt_of_not_le fun h => hs ((se_sign (b1 % 2 ^ (w + 1)) hw).1 h)
        have hvd : b1 % 2 ^ (w + 1) * 2 ^ (63 - w) / 2 ^ (63 - w) = b1 % 2 ^ (w + 1) := Nat.mul_div_cancel _ (Nat.two_pow_pos _)
        have hvl : b1 % 2 ^ (w + 1) < 9223372036854775808 := by have := Nat.div_le_self (b1 % 2 ^ (w + 1) * 2 ^ (63 - w)) (2 ^ (63 - w)); omega
        refine CallG.start (C := mkC Hvaf.prog) cok (args := [wordV a, WV b0 b1 b2 b3]) Hvaf.func288 rfl Hvaf.ntmps288 (by simp) (by kernel_rfl) ?_
        intro xa xb xr
        repeat (first | refine SeqS.go cok ?_ | (refine QuG.keep ?_; first | refine QuG.lN cok 2 rfl rfl rfl rfl rfl (by first | exact Nat.le_of_ble_eq_true rfl | omega | (dsimp only; omega) | (simp only [addS_eq, mulS_eq]; omega)) ?_))
        refine (Ubelow_spec (n := 31) ha.out (by omega)).mono ?_
        rintro r _ - ⟨rfl, x, rfl, hx0⟩
        have hxa := (hx0 hs31).symm
        subst hxa
        repeat (first | (refine ValS.keep ?_; first | with_reducible refine ValS.quoK 1 (by omega) (by omega) ?_ | with_reducible refine ValS.remK w (by omega) ?_) | refine SeqS.go cok ?_ | refine And.intro (by omega) ?_ | refine And.intro (by dsimp only; omega) ?_ | (refine NatS.keep ?_; first | with_reducible refine NatS.nat ?_) | (refine ValS.keep ?_; first | (with_reducible refine ValS.kU64 ?_; first | (with_reducible refine ValS.addU64_L ?_ ?_ ; omega) | (with_reducible refine ValS.subU64_M ?_ ?_ ?_ ; omega; omega) | (with_reducible refine ValS.mulU64_M ?_ ?_ ; omega))) | (refine QuG.keep ?_; first | refine QuG.l1 cok 1 rfl rfl rfl rfl rfl (by first | exact Nat.le_of_ble_eq_true rfl | omega | (dsimp only; omega) | (simp only [addS_eq, mulS_eq]; omega)) ?_) | (refine CondS.keep ?_; first | refine CondS.nd0 rfl (by omega) ?_))
        refine ValS.toN (b1 % 2 ^ (w + 1) * 2 ^ (63 - w)) (by rw [ishl_nat (k := .u64) b1 (63 - w) (by show _ ≤ 64; omega), wrapU64, ← ex]; omega) ?_
        repeat (first | refine And.intro (by omega) ?_ | (refine ValS.keep ?_; first | (with_reducible refine ValS.kI64 ?_; first | (with_reducible refine ValS.convI64 ?_ ?_ ; omega))))
        refine ValS.toN (b1 % 2 ^ (w + 1)) (by rw [ishr_nat (k := .i64) _ (63 - w) (by show _ ≤ 64; omega), hvd]) ?_
        repeat (first | refine SeqS.go cok ?_ | refine And.intro (by omega) ?_ | refine And.intro (by dsimp only; omega) ?_ | (refine NatS.keep ?_; first | with_reducible refine NatS.nat ?_) | (refine ValS.keep ?_; first | (with_reducible refine ValS.kI64 ?_; first | (with_reducible refine ValS.convI64 ?_ ?_ ; omega)) | (with_reducible refine ValS.kU64 ?_; first | (with_reducible refine ValS.convU64 ?_ ?_ ; omega))) | (refine QuG.keep ?_; first | refine QuG.l1 cok 1 rfl rfl rfl rfl rfl (by first | exact Nat.le_of_ble_eq_true rfl | omega | (dsimp only; omega) | (simp only [addS_eq, mulS_eq]; omega)) ?_) | (refine OpG.keep ?_; first | refine OpG.s1 cok 1 rfl rfl rfl rfl rfl (by first | exact Nat.le_of_ble_eq_true rfl | omega | (dsimp only; omega) | (simp only [addS_eq, mulS_eq]; omega)) rfl rfl ?_))
        refine ValS.toN 0 (by rw [show (63 : Int) = ((63 : Nat) : Int) from rfl, ishr_nat (k := .i64) _ 63 (by decide)]; omega) ?_
        repeat (first | refine SeqS.go cok ?_ | (refine ValS.keep ?_; first | (with_reducible refine ValS.kU64 ?_; first | (with_reducible refine ValS.convU64 ?_ ?_ ; omega) | (with_reducible refine ValS.addU64_L ?_ ?_ ; omega))))
        refine W.rounds cok (by kernel_rfl) 5 ?_
        repeat (first | refine SeqS.go cok ?_ | refine CondS.t rfl ?_ | refine CondS.f rfl ?_ | refine And.intro (by dsimp only; omega) ?_ | (refine NatS.keep ?_; first | with_reducible refine NatS.nat ?_) | (refine ValS.keep ?_; first | (with_reducible refine ValS.kU64 ?_; first | (with_reducible refine ValS.addU64_L ?_ ?_ ; omega))) | (refine QuG.keep ?_; first | refine QuG.lN cok 1 rfl rfl rfl rfl rfl (by first | exact Nat.le_of_ble_eq_true rfl | omega | (dsimp only; omega) | (simp only [addS_eq, mulS_eq]; omega)) ?_) | (refine LdG.keep ?_; first | refine LdG.lN cok 0 rfl rfl rfl rfl rfl (by first | exact Nat.le_of_ble_eq_true rfl | omega | (dsimp only; omega) | (simp only [addS_eq, mulS_eq]; omega)) ?_) | (refine OpG.keep ?_; first | refine OpG.s1 cok 1 rfl rfl rfl rfl rfl (by first | exact Nat.le_of_ble_eq_true rfl | omega | (dsimp only; omega) | (simp only [addS_eq, mulS_eq]; omega)) rfl rfl ?_ | refine OpG.sL cok 0 rfl rfl rfl rfl rfl rfl rfl (by first | exact Nat.le_of_ble_eq_true rfl | omega | (dsimp only; omega) | (simp only [addS_eq, mulS_eq]; omega)) ?_))
        obtain ⟨rfl⟩ := eb
        exact Fin.drop S.G [_, _, _] ⟨rfl, tW rfl (se01 hw g0 g1 g2 g3 hs)⟩
    · obtain ⟨w, hw1, hw⟩ : ∃ w, 8 * a + 7 = 64 * 2 + w ∧ w < 64 := ⟨8 * a + 7 - 64 * 2, by omega, by omega⟩
      rw [show 8 * a + 8 = 64 * 2 + (w + 1) by omega, hw1]
      have ex := se_x b2 hw
      have hP : (2 : Nat) ^ (w + 1) ≤ 2 ^ 64 := Nat.pow_le_pow_right (by omega) (by omega)
      have hv : b2 % 2 ^ (w + 1) < 2 ^ (w + 1) := Nat.mod_lt _ (Nat.two_pow_pos _)
      have hxM : b2 % 2 ^ (w + 1) * 2 ^ (63 - w) < 18446744073709551616 := by rw [← ex]; exact Nat.mod_lt _ (by decide)
      by_cases hs : 2 ^ w ≤ b2 % 2 ^ (w + 1)
      · have hx := (se_sign (b2 % 2 ^ (w + 1)) hw).2 hs
        have hp2 : 2 ^ (w + 1) = 2 ^ w * 2 := Nat.pow_succ _ _
        refine CallG.start (C := mkC Hvaf.prog) cok (args := [wordV a, WV b0 b1 b2 b3]) Hvaf.func288 rfl Hvaf.ntmps288 (by simp) (by kernel_rfl) ?_
        intro xa xb xr
        repeat (first | refine SeqS.go cok ?_ | (refine QuG.keep ?_; first | refine QuG.lN cok 2 rfl rfl rfl rfl rfl (by first | exact Nat.le_of_ble_eq_true rfl | omega | (dsimp only; omega) | (simp only [addS_eq, mulS_eq]; omega)) ?_))
        refine (Ubelow_spec (n := 31) ha.out (by omega)).mono ?_
        rintro r _ - ⟨rfl, x, rfl, hx0⟩
        have hxa := (hx0 hs31).symm
        subst hxa
        repeat (first | (refine ValS.keep ?_; first | with_reducible refine ValS.quoK 2 (by omega) (by omega) ?_ | with_reducible refine ValS.remK w (by omega) ?_) | refine SeqS.go cok ?_ | refine And.intro (by omega) ?_ | refine And.intro (by dsimp only; omega) ?_ | (refine NatS.keep ?_; first | with_reducible refine NatS.nat ?_) | (refine ValS.keep ?_; first | (with_reducible refine ValS.kU64 ?_; first | (with_reducible refine ValS.addU64_L ?_ ?_ ; omega) | (with_reducible refine ValS.subU64_M ?_ ?_ ?_ ; omega; omega) | (with_reducible refine ValS.mulU64_M ?_ ?_ ; omega))) | (refine QuG.keep ?_; first | refine QuG.l1 cok 1 rfl rfl rfl rfl rfl (by first | exact Nat.le_of_ble_eq_true rfl | omega | (dsimp only; omega) | (simp only [addS_eq, mulS_eq]; omega)) ?_) | (refine CondS.keep ?_; first | refine CondS.nd0 rfl (by omega) ?_))
        refine ValS.toN (b2 % 2 ^ (w + 1) * 2 ^ (63 - w)) (by rw [ishl_nat (k := .u64) b2 (63 - w) (by show _ ≤ 64; omega), wrapU64, ← ex]; omega) ?_
        skip
        refine ValS.to (u := .int .i64 (((b2 % 2 ^ (w + 1) * 2 ^ (63 - w) : Nat) : Int) - 18446744073709551616)) (by rw [wrapI64n _ (by omega) (by omega)]) ?_
        repeat (first | refine And.intro (by omega) ?_)
        refine ValS.to (u := .int .i64 (((b2 % 2 ^ (w + 1) : Nat) : Int) - ((2 ^ (w + 1) : Nat) : Int))) (by rw [se_fdiv _ hw]) ?_
        skip
        refine ValS.toN (18446744073709551616 + b2 % 2 ^ (w + 1) - 2 ^ (w + 1)) (by rw [wrapU64]; omega) ?_
        repeat (first | refine SeqS.go cok ?_ | refine And.intro (by dsimp only; omega) ?_ | (refine NatS.keep ?_; first | with_reducible refine NatS.nat ?_) | (refine QuG.keep ?_; first | refine QuG.l1 cok 1 rfl rfl rfl rfl rfl (by first | exact Nat.le_of_ble_eq_true rfl | omega | (dsimp only; omega) | (simp only [addS_eq, mulS_eq]; omega)) ?_) | (refine OpG.keep ?_; first | refine OpG.s1 cok 1 rfl rfl rfl rfl rfl (by first | exact Nat.le_of_ble_eq_true rfl | omega | (dsimp only; omega) | (simp only [addS_eq, mulS_eq]; omega)) rfl rfl ?_))
        refine ValS.to (u := .int .i64 (((18446744073709551616 + b2 % 2 ^ (w + 1) - 2 ^ (w + 1) : Nat) : Int) - 18446744073709551616)) (by rw [wrapI64n _ (by omega) (by omega)]) ?_
        repeat (first | refine And.intro (by omega) ?_)
        refine ValS.to (u := .int .i64 (-1)) (by rw [ishr_neg _ (by omega) (by omega)]) ?_
        skip
        refine ValS.toN 18446744073709551615 rfl ?_
        repeat (first | refine SeqS.go cok ?_ | (refine ValS.keep ?_; first | (with_reducible refine ValS.kU64 ?_; first | (with_reducible refine ValS.addU64_L ?_ ?_ ; omega))))
        refine W.rounds cok (by kernel_rfl) 5 ?_
        repeat (first | refine SeqS.go cok ?_ | refine CondS.t rfl ?_ | refine CondS.f rfl ?_ | refine And.intro (by dsimp only; omega) ?_ | (refine NatS.keep ?_; first | with_reducible refine NatS.nat ?_) | (refine ValS.keep ?_; first | (with_reducible refine ValS.kU64 ?_; first | (with_reducible refine ValS.addU64_L ?_ ?_ ; omega))) | (refine QuG.keep ?_; first | refine QuG.lN cok 1 rfl rfl rfl rfl rfl (by first | exact Nat.le_of_ble_eq_true rfl | omega | (dsimp only; omega) | (simp only [addS_eq, mulS_eq]; omega)) ?_) | (refine LdG.keep ?_; first | refine LdG.lN cok 0 rfl rfl rfl rfl rfl (by first | exact Nat.le_of_ble_eq_true rfl | omega | (dsimp only; omega) | (simp only [addS_eq, mulS_eq]; omega)) ?_) | (refine OpG.keep ?_; first | refine OpG.s1 cok 1 rfl rfl rfl rfl rfl (by first | exact Nat.le_of_ble_eq_true rfl | omega | (dsimp only; omega) | (simp only [addS_eq, mulS_eq]; omega)) rfl rfl ?_ | refine OpG.sL cok 0 rfl rfl rfl rfl rfl rfl rfl (by first | exact Nat.le_of_ble_eq_true rfl | omega | (dsimp only; omega) | (simp only [addS_eq, mulS_eq]; omega)) ?_))
        obtain ⟨rfl⟩ := eb
        exact Fin.drop S.G [_, _, _] ⟨rfl, tW rfl (se12 hw g0 g1 g2 g3 hs)⟩
      · have hx : b2 % 2 ^ (w + 1) * 2 ^ (63 - w) < 9223372036854775808 := Nat.lt_of_not_le fun h => hs ((se_sign (b2 % 2 ^ (w + 1)) hw).1 h)
        have hvd : b2 % 2 ^ (w + 1) * 2 ^ (63 - w) / 2 ^ (63 - w) = b2 % 2 ^ (w + 1) := Nat.mul_div_cancel _ (Nat.two_pow_pos _)
        have hvl : b2 % 2 ^ (w + 1) < 9223372036854775808 := by have := Nat.div_le_self (b2 % 2 ^ (w + 1) * 2 ^ (63 - w)) (2 ^ (63 - w)); omega
        refine CallG.start (C := mkC Hvaf.prog) cok (args := [wordV a, WV b0 b1 b2 b3]) Hvaf.func288 rfl Hvaf.ntmps288 (by simp) (by kernel_rfl) ?_
        intro xa xb xr
        repeat (first | refine SeqS.go cok ?_ | (refine QuG.keep ?_; first | refine QuG.lN cok 2 rfl rfl rfl rfl rfl (by first | exact Nat.le_of_ble_eq_true rfl | omega | (dsimp only; omega) | (simp only [addS_eq, mulS_eq]; omega)) ?_))
        refine (Ubelow_spec (n := 31) ha.out (by omega)).mono ?_
        rintro r _ - ⟨rfl, x, rfl, hx0⟩
        have hxa := (hx0 hs31).symm
        subst hxa
        repeat (first | (refine ValS.keep ?_; first | with_reducible refine ValS.quoK 2 (by omega) (by omega) ?_ | with_reducible refine ValS.remK w (by omega) ?_) | refine SeqS.go cok ?_ | refine And.intro (by omega) ?_ | refine And.intro (by dsimp only; omega) ?_ | (refine NatS.keep ?_; first | with_reducible refine NatS.nat ?_) | (refine ValS.keep ?_; first | (with_reducible refine ValS.kU64 ?_; first | (with_reducible refine ValS.addU64_L ?_ ?_ ; omega) | (with_reducible refine ValS.subU64_M ?_ ?_ ?_ ; omega; omega) | (with_reducible refine ValS.mulU64_M ?_ ?_ ; omega))) | (refine QuG.keep ?_; first | refine QuG.l1 cok 1 rfl rfl rfl rfl rfl (by first | exact Nat.le_of_ble_eq_true rfl | omega | (dsimp only; omega) | (simp only [addS_eq, mulS_eq]; omega)) ?_) | (refine CondS.keep ?_; first | refine CondS.nd0 rfl (by omega) ?_))
        refine ValS.toN (b2 % 2 ^ (w + 1) * 2 ^ (63 - w)) (by rw [ishl_nat (k := .u64) b2 (63 - w) (by show _ ≤ 64; omega), wrapU64, ← ex]; omega) ?_
        repeat (first | refine And.intro (by omega) ?_ | (refine ValS.keep ?_; first | (with_reducible refine ValS.kI64 ?_; first | (with_reducible refine ValS.convI64 ?_ ?_ ; omega))))
        refine ValS.toN (b2 % 2 ^ (w + 1)) (by rw [ishr_nat (k := .i64) _ (63 - w) (by show _ ≤ 64; omega), hvd]) ?_
        repeat (first | refine SeqS.go cok ?_ | refine And.intro (by omega) ?_ | refine And.intro (by dsimp only; omega) ?_ | (refine NatS.keep ?_; first | with_reducible refine NatS.nat ?_) | (refine ValS.keep ?_; first | (with_reducible refine ValS.kI64 ?_; first | (with_reducible refine ValS.convI64 ?_ ?_ ; omega)) | (with_reducible refine ValS.kU64 ?_; first | (with_reducible refine ValS.convU64 ?_ ?_ ; omega))) | (refine QuG.keep ?_; first | refine QuG.l1 cok 1 rfl rfl rfl rfl rfl (by first | exact Nat.le_of_ble_eq_true rfl | omega | (dsimp only; omega) | (simp only [addS_eq, mulS_eq]; omega)) ?_) | (refine OpG.keep ?_; first | refine OpG.s1 cok 1 rfl rfl rfl rfl rfl (by first | exact Nat.le_of_ble_eq_true rfl | omega | (dsimp only; omega) | (simp only [addS_eq, mulS_eq]; omega)) rfl rfl ?_))
        refine ValS.toN 0 (by rw [show (63 : Int) = ((63 : Nat) : Int) from rfl, ishr_nat (k := .i64) _ 63 (by decide)]; omega) ?_
        repeat (first | refine SeqS.go cok ?_ | (refine ValS.keep ?_; first | (with_reducible refine ValS.kU64 ?_; first | (with_reducible refine ValS.convU64 ?_ ?_ ; omega) | (with_reducible refine ValS.addU64_L ?_ ?_ ; omega))))
        refine W.rounds cok (by kernel_rfl) 5 ?_
        repeat (first | refine SeqS.go cok ?_ | refine CondS.t rfl ?_ | refine CondS.f rfl ?_ | refine And.intro (by dsimp only; omega) ?_ | (refine NatS.keep ?_; first | with_reducible refine NatS.nat ?_) | (refine ValS.keep ?_; first | (with_reducible refine ValS.kU64 ?_; first | (with_reducible refine ValS.addU64_L ?_ ?_ ; omega))) | (refine QuG.keep ?_; first | refine QuG.lN cok 1 rfl rfl rfl rfl rfl (by first | exact Nat.le_of_ble_eq_true rfl | omega | (dsimp only; omega) | (simp only [addS_eq, mulS_eq]; omega)) ?_) | (refine LdG.keep ?_; first | refine LdG.lN cok 0 rfl rfl rfl rfl rfl (by first | exact Nat.le_of_ble_eq_true rfl | omega | (dsimp only; omega) | (simp only [addS_eq, mulS_eq]; omega)) ?_) | (refine OpG.keep ?_; first | refine OpG.s1 cok 1 rfl rfl rfl rfl rfl (by first | exact Nat.le_of_ble_eq_true rfl | omega | (dsimp only; omega) | (simp only [addS_eq, mulS_eq]; omega)) rfl rfl ?_ | refine OpG.sL cok 0 rfl rfl rfl rfl rfl rfl rfl (by first | exact Nat.le_of_ble_eq_true rfl | omega | (dsimp only; omega) | (simp only [addS_eq, mulS_eq]; omega)) ?_))
        obtain ⟨rfl⟩ := eb
        exact Fin.drop S.G [_, _, _] ⟨rfl, tW rfl (se02 hw g0 g1 g2 g3 hs)⟩
    · obtain ⟨w, hw1, hw⟩ : ∃ w, 8 * a + 7 = 64 * 3 + w ∧ w < 64 := ⟨8 * a + 7 - 64 * 3, by omega, by omega⟩
      rw [show 8 * a + 8 = 64 * 3 + (w + 1) by omega, hw1]
      have ex := se_x b3 hw
      have hP : (2 : Nat) ^ (w + 1) ≤ 2 ^ 64 := Nat.pow_le_pow_right (by omega) (by omega)
      have hv : b3 % 2 ^ (w + 1) < 2 ^ (w + 1) := Nat.mod_lt _ (Nat.two_pow_pos _)
      have hxM : b3 % 2 ^ (w + 1) * 2 ^ (63 - w) < 18446744073709551616 := by rw [← ex]; exact Nat.mod_lt _ (by decide)
      by_cases hs : 2 ^ w ≤ b3 % 2 ^ (w + 1)
      · have hx := (se_sign (b3 % 2 ^ (w + 1)) hw).2 hs
        have hp2 : 2 ^ (w + 1) = 2 ^ w * 2 := Nat.pow_succ _ _
        refine CallG.start (C := mkC Hvaf.prog) cok (args := [wordV a, WV b0 b1 b2 b3]) Hvaf.func288 rfl Hvaf.ntmps288 (by simp) (by kernel_rfl) ?_
        intro xa xb xr
        repeat (first | refine SeqS.go cok ?_ | (refine QuG.keep ?_; first | refine QuG.lN cok 2 rfl rfl rfl rfl rfl (by first | exact Nat.le_of_ble_eq_true rfl | omega | (dsimp only; omega) | (simp only [addS_eq, mulS_eq]; omega)) ?_))
        refine (Ubelow_spec (n := 31) ha.out (by omega)).mono ?_
        rintro r _ - ⟨rfl, x, rfl, hx0⟩
        have hxa := (hx0 hs31).symm
        subst hxa
        repeat (first | (refine ValS.keep ?_; first | with_reducible refine ValS.quoK 3 (by omega) (by omega) ?_ | with_reducible refine ValS.remK w (by omega) ?_) | refine SeqS.go cok ?_ | refine And.intro (by omega) ?_ | refine And.intro (by dsimp only; omega) ?_ | (refine NatS.keep ?_; first | with_reducible refine NatS.nat ?_) | (refine ValS.keep ?_; first | (with_reducible refine ValS.kU64 ?_; first | (with_reducible refine ValS.addU64_L ?_ ?_ ; omega) | (with_reducible refine ValS.subU64_M ?_ ?_ ?_ ; omega; omega) | (with_reducible refine ValS.mulU64_M ?_ ?_ ; omega))) | (refine QuG.keep ?_; first | refine QuG.l1 cok 1 rfl rfl rfl rfl rfl (by first | exact Nat.le_of_ble_eq_true rfl | omega | (dsimp only; omega) | (simp only [addS_eq, mulS_eq]; omega)) ?_) | (refine CondS.keep ?_; first | refine CondS.nd0 rfl (by omega) ?_))
        refine ValS.toN (b3 % 2 ^ (w + 1) * 2 ^ (63 - w)) (by rw [ishl_nat (k := .u64) b3 (63 - w) (by show _ ≤ 64; omega), wrapU64, ← ex]; omega) ?_
        skip
        refine ValS.to (u := .int .i64 (((b3 % 2 ^ (w + 1) * 2 ^ (63 - w) : Nat) : Int) - 18446744073709551616)) (by rw [wrapI64n _ (by omega) (by omega)]) ?_
        repeat (first | refine And.intro (by omega) ?_)
        refine ValS.to (u := .int .i64 (((b3 % 2 ^ (w + 1) : Nat) : Int) - ((2 ^ (w + 1) : Nat) : Int))) (by rw [se_fdiv _ hw]) ?_
        skip
        refine ValS.toN (18446744073709551616 + b3 % 2 ^ (w + 1) - 2 ^ (w + 1)) (by rw [wrapU64]; omega) ?_
        repeat (first | refine SeqS.go cok ?_ | refine And.intro (by dsimp only; omega) ?_ | (refine NatS.keep ?_; first | with_reducible refine NatS.nat ?_) | (refine QuG.keep ?_; first | refine QuG.l1 cok 1 rfl rfl rfl rfl rfl (by first | exact Nat.le_of_ble_eq_true rfl | omega | (dsimp only; omega) | (simp only [addS_eq, mulS_eq]; omega)) ?_) | (refine OpG.keep ?_; first | refine OpG.s1 cok 1 rfl rfl rfl rfl rfl (by first | exact Nat.le_of_ble_eq_true rfl | omega | (dsimp only; omega) | (simp only [addS_eq, mulS_eq]; omega)) rfl rfl ?_))
        refine ValS.to (u := .int .i64 (((18446744073709551616 + b3 % 2 ^ (w + 1) - 2 ^ (w + 1) : Nat) : Int) - 18446744073709551616)) (by rw [wrapI64n _ (by omega) (by omega)]) ?_
        repeat (first | refine And.intro (by omega) ?_)
        refine ValS.to (u := .int .i64 (-1)) (by rw [ishr_neg _ (by omega) (by omega)]) ?_
        skip
        refine ValS.toN 18446744073709551615 rfl ?_
        repeat (first | refine SeqS.go cok ?_ | (refine ValS.keep ?_; first | (with_reducible refine ValS.kU64 ?_; first | (with_reducible refine ValS.addU64_L ?_ ?_ ; omega))))
        refine W.rounds cok (by kernel_rfl) 5 ?_
        repeat (first | refine SeqS.go cok ?_ | refine CondS.f rfl ?_ | (refine QuG.keep ?_; first | refine QuG.lN cok 1 rfl rfl rfl rfl rfl (by first | exact Nat.le_of_ble_eq_true rfl | omega | (dsimp only; omega) | (simp only [addS_eq, mulS_eq]; omega)) ?_) | (refine LdG.keep ?_; first | refine LdG.lN cok 0 rfl rfl rfl rfl rfl (by first | exact Nat.le_of_ble_eq_true rfl | omega | (dsimp only; omega) | (simp only [addS_eq, mulS_eq]; omega)) ?_) | (refine OpG.keep ?_; first | refine OpG.sL cok 0 rfl rfl rfl rfl rfl rfl rfl (by first | exact Nat.le_of_ble_eq_true rfl | omega | (dsimp only; omega) | (simp only [addS_eq, mulS_eq]; omega)) ?_))
        obtain ⟨rfl⟩ := eb
        exact Fin.drop S.G [_, _, _] ⟨rfl, tW rfl (se13 hw g0 g1 g2 g3 hs)⟩
      · have hx : b3 % 2 ^ (w + 1) * 2 ^ (63 - w) < 9223372036854775808 := Nat.lt_of_not_le fun h => hs ((se_sign (b3 % 2 ^ (w + 1)) hw).1 h)
        have hvd : b3 % 2 ^ (w + 1) * 2 ^ (63 - w) / 2 ^ (63 - w) = b3 % 2 ^ (w + 1) := Nat.mul_div_cancel _ (Nat.two_pow_pos _)
        have hvl : b3 % 2 ^ (w + 1) < 9223372036854775808 := by have := Nat.div_le_self (b3 % 2 ^ (w + 1) * 2 ^ (63 - w)) (2 ^ (63 - w)); omega
        refine CallG.start (C := mkC Hvaf.prog) cok (args := [wordV a, WV b0 b1 b2 b3]) Hvaf.func288 rfl Hvaf.ntmps288 (by simp) (by kernel_rfl) ?_
        intro xa xb xr
        repeat (first | refine SeqS.go cok ?_ | (refine QuG.keep ?_; first | refine QuG.lN cok 2 rfl rfl rfl rfl rfl (by first | exact Nat.le_of_ble_eq_true rfl | omega | (dsimp only; omega) | (simp only [addS_eq, mulS_eq]; omega)) ?_))
        refine (Ubelow_spec (n := 31) ha.out (by omega)).mono ?_
        rintro r _ - ⟨rfl, x, rfl, hx0⟩
        have hxa := (hx0 hs31).symm
        subst hxa
        repeat (first | (refine ValS.keep ?_; first | with_reducible refine ValS.quoK 3 (by omega) (by omega) ?_ | with_reducible refine ValS.remK w (by omega) ?_) | refine SeqS.go cok ?_ | refine And.intro (by omega) ?_ | refine And.intro (by dsimp only; omega) ?_ | (refine NatS.keep ?_; first | with_reducible refine NatS.nat ?_) | (refine ValS.keep ?_; first | (with_reducible refine ValS.kU64 ?_; first | (with_reducible refine ValS.addU64_L ?_ ?_ ; omega) | (with_reducible refine ValS.subU64_M ?_ ?_ ?_ ; omega; omega) | (with_reducible refine ValS.mulU64_M ?_ ?_ ; omega))) | (refine QuG.keep ?_; first | refine QuG.l1 cok 1 rfl rfl rfl rfl rfl (by first | exact Nat.le_of_ble_eq_true rfl | omega | (dsimp only; omega) | (simp only [addS_eq, mulS_eq]; omega)) ?_) | (refine CondS.keep ?_; first | refine CondS.nd0 rfl (by omega) ?_))
        refine ValS.toN (b3 % 2 ^ (w + 1) * 2 ^ (63 - w)) (by rw [ishl_nat (k := .u64) b3 (63 - w) (by show _ ≤ 64; omega), wrapU64, ← ex]; omega) ?_
        repeat (first | refine And.intro (by omega) ?_ | (refine ValS.keep ?_; first | (with_reducible refine ValS.kI64 ?_; first | (with_reducible refine ValS.convI64 ?_ ?_ ; omega))))
        refine ValS.toN (b3 % 2 ^ (w + 1)) (by rw [ishr_nat (k := .i64) _ (63 - w) (by show _ ≤ 64; omega), hvd]) ?_
        repeat (first | refine SeqS.go cok ?_ | refine And.intro (by omega) ?_ | refine And.intro (by dsimp only; omega) ?_ | (refine NatS.keep ?_; first | with_reducible refine NatS.nat ?_) | (refine ValS.keep ?_; first | (with_reducible refine ValS.kI64 ?_; first | (with_reducible refine ValS.convI64 ?_ ?_ ; omega)) | (with_reducible refine ValS.kU64 ?_; first | (with_reducible refine ValS.convU64 ?_ ?_ ; omega))) | (refine QuG.keep ?_; first | refine QuG.l1 cok 1 rfl rfl rfl rfl rfl (by first | exact Nat.le_of_ble_eq_true rfl | omega | (dsimp only; omega) | (simp only [addS_eq, mulS_eq]; omega)) ?_) | (refine OpG.keep ?_; first | refine OpG.s1 cok 1 rfl rfl rfl rfl rfl (by first | exact Nat.le_of_ble_eq_true rfl | omega | (dsimp only; omega) | (simp only [addS_eq, mulS_eq]; omega)) rfl rfl ?_))
        refine ValS.toN 0 (by rw [show (63 : Int) = ((63 : Nat) : Int) from rfl, ishr_nat (k := .i64) _ 63 (by decide)]; omega) ?_
        repeat (first | refine SeqS.go cok ?_ | (refine ValS.keep ?_; first | (with_reducible refine ValS.kU64 ?_; first | (with_reducible refine ValS.convU64 ?_ ?_ ; omega) | (with_reducible refine ValS.addU64_L ?_ ?_ ; omega))))
        refine W.rounds cok (by kernel_rfl) 5 ?_
        repeat (first | refine SeqS.go cok ?_ | refine CondS.f rfl ?_ | (refine QuG.keep ?_; first | refine QuG.lN cok 1 rfl rfl rfl rfl rfl (by first | exact Nat.le_of_ble_eq_true rfl | omega | (dsimp only; omega) | (simp only [addS_eq, mulS_eq]; omega)) ?_) | (refine LdG.keep ?_; first | refine LdG.lN cok 0 rfl rfl rfl rfl rfl (by first | exact Nat.le_of_ble_eq_true rfl | omega | (dsimp only; omega) | (simp only [addS_eq, mulS_eq]; omega)) ?_) | (refine OpG.keep ?_; first | refine OpG.sL cok 0 rfl rfl rfl rfl rfl rfl rfl (by first | exact Nat.le_of_ble_eq_true rfl | omega | (dsimp only; omega) | (simp only [addS_eq, mulS_eq]; omega)) ?_))
        obtain ⟨rfl⟩ := eb
        exact Fin.drop S.G [_, _, _] ⟨rfl, tW rfl (se03 hw g0 g1 g2 g3 hs)⟩
  · rw [if_neg hs31]
    replace ha : Hid _ := ⟨ha⟩
    replace hb : Hid _ := ⟨hb⟩
    clear vb
    refine CallG.start (C := mkC Hvaf.prog) cok (args := [wordV a, wordV b]) Hvaf.func288 rfl Hvaf.ntmps288 (by simp) (by kernel_rfl) ?_
    intro xa xb xr
    repeat (first | refine SeqS.go cok ?_ | (refine QuG.keep ?_; first | refine QuG.lN cok 2 rfl rfl rfl rfl rfl (by first | exact Nat.le_of_ble_eq_true rfl | omega | (dsimp only; omega) | (simp only [addS_eq, mulS_eq]; omega)) ?_))
    refine (Ubelow_spec (n := 31) ha.out (by omega)).mono ?_
    rintro r _ - ⟨rfl, x, rfl, hx0⟩
    repeat (first | refine SeqS.go cok ?_ | (refine QuG.keep ?_; first | refine QuG.lN cok 1 rfl rfl rfl rfl rfl (by first | exact Nat.le_of_ble_eq_true rfl | omega | (dsimp only; omega) | (simp only [addS_eq, mulS_eq]; omega)) ?_) | (refine LdG.keep ?_; first | refine LdG.lN cok 0 rfl rfl rfl rfl rfl (by first | exact Nat.le_of_ble_eq_true rfl | omega | (dsimp only; omega) | (simp only [addS_eq, mulS_eq]; omega)) ?_) | (refine OpG.keep ?_; first | refine OpG.sL cok 0 rfl rfl rfl rfl rfl rfl rfl (by first | exact Nat.le_of_ble_eq_true rfl | omega | (dsimp only; omega) | (simp only [addS_eq, mulS_eq]; omega)) ?_) | (refine CondS.keep ?_; first | refine CondS.nd1 rfl (by omega) ?_))
    exact Fin.drop S.G [_, _, _] ⟨rfl, rfl⟩
end Go.Proofs.YgvafwGreat
