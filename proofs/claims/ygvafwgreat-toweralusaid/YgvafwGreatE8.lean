import Derived.Test.YgvafwGreatE7
import Derived.Test.YgvafwGreatY42
import Derived.Test.YgvafwGreatU8
import Derived.Test.YgvafwGreatU11
import Derived.Test.YgvafwGreatU14
import Derived.Test.YgvafwGreatU16
import Derived.Test.YgvafwGreatD14
set_option exponentiation.threshold 1000
set_option maxRecDepth 100000
set_option maxHeartbeats 4000000
set_option linter.unusedVariables false
set_option linter.unusedSimpArgs false
-- v2
-- v4
-- v5
-- v6
-- v7
namespace Go.Proofs.YgvafwGreat
open Go.HL Go.Proofs
theorem testTop {a : Nat} (ha : a < 115792089237316195423570985008687907853269984665640564039457584007913129639936) : a.testBit 255 = decide (57896044618658097711785492504343953926634992332820282019728792003956564819968 ≤ a) := by
  rw [Nat.testBit_eq_decide_div_mod_eq]
  congr 1
  rw [show (2 : Nat) ^ 255 = 57896044618658097711785492504343953926634992332820282019728792003956564819968 from rfl]
  apply propext
  omega
theorem aluE1 {a b c : Nat} : aluN 1 a b c = (a + b) % 115792089237316195423570985008687907853269984665640564039457584007913129639936 := rfl
theorem aluE2 {a b c : Nat} : aluN 2 a b c = a * b % 115792089237316195423570985008687907853269984665640564039457584007913129639936 := rfl
theorem subLaw {a b W : Nat} (hb : b < W) : (a + (W - b) % W) % W = (a + W - b) % W := by
  rw [Nat.add_mod_mod, Nat.add_sub_assoc (Nat.le_of_lt hb)]
theorem aluE3 {a b c : Nat} (hb : b < 115792089237316195423570985008687907853269984665640564039457584007913129639936) : aluN 3 a b c = (a + 115792089237316195423570985008687907853269984665640564039457584007913129639936 - b) % 115792089237316195423570985008687907853269984665640564039457584007913129639936 := subLaw hb
theorem aluE4 {a b c : Nat} : aluN 4 a b c = a / b := rfl
theorem aluE5 {a b c : Nat} : aluN 5 a b c = sgn (mag a / mag b) (a.testBit 255 != b.testBit 255) := rfl
theorem aluE6 {a b c : Nat} : aluN 6 a b c = modZ a b := rfl
theorem aluE7 {a b c : Nat} : aluN 7 a b c = sgn (modZ (mag a) (mag b)) (a.testBit 255) := rfl
theorem aluE8 {a b c : Nat} : aluN 8 a b c = modZ (a + b) c := rfl
theorem aluE9 {a b c : Nat} : aluN 9 a b c = modZ (a * b) c := rfl
theorem aluE10 {a b c : Nat} : aluN 10 a b c = a ^ b % 115792089237316195423570985008687907853269984665640564039457584007913129639936 := rfl
theorem aluE11 {a b c : Nat} : aluN 11 a b c = (if a < 31 then (if 2 ^ (8 * a + 7) ≤ b % 2 ^ (8 * a + 8) then b % 2 ^ (8 * a + 8) + 115792089237316195423570985008687907853269984665640564039457584007913129639936 - 2 ^ (8 * a + 8) else b % 2 ^ (8 * a + 8)) else b) := rfl
theorem aluE16 {a b c : Nat} : aluN 16 a b c = if decide (a < b) = true then 1 else 0 := by
  show (if a < b then 1 else 0) = _
  simp only [decide_eq_true_eq]
theorem aluE17 {a b c : Nat} : aluN 17 a b c = if decide (b < a) = true then 1 else 0 := by
  show (if b < a then 1 else 0) = _
  simp only [decide_eq_true_eq]
theorem sbelowE {a b : Nat} (ha : a < 115792089237316195423570985008687907853269984665640564039457584007913129639936) (hb : b < 115792089237316195423570985008687907853269984665640564039457584007913129639936) : sbelow a b = (if decide (57896044618658097711785492504343953926634992332820282019728792003956564819968 ≤ a) != decide (57896044618658097711785492504343953926634992332820282019728792003956564819968 ≤ b) then decide (57896044618658097711785492504343953926634992332820282019728792003956564819968 ≤ a) else decide (a < b)) := by
  unfold sbelow
  rw [testTop ha, testTop hb]
  generalize decide (57896044618658097711785492504343953926634992332820282019728792003956564819968 ≤ a) = p
  generalize decide (57896044618658097711785492504343953926634992332820282019728792003956564819968 ≤ b) = q
  cases p <;> cases q <;> rfl
theorem aluE18 {a b c : Nat} (ha : a < 115792089237316195423570985008687907853269984665640564039457584007913129639936) (hb : b < 115792089237316195423570985008687907853269984665640564039457584007913129639936) : aluN 18 a b c = if (if decide (57896044618658097711785492504343953926634992332820282019728792003956564819968 ≤ a) != decide (57896044618658097711785492504343953926634992332820282019728792003956564819968 ≤ b) then decide (57896044618658097711785492504343953926634992332820282019728792003956564819968 ≤ a) else decide (a < b)) = true then 1 else 0 := by
  rw [← sbelowE ha hb]; rfl
theorem aluE19 {a b c : Nat} (ha : a < 115792089237316195423570985008687907853269984665640564039457584007913129639936) (hb : b < 115792089237316195423570985008687907853269984665640564039457584007913129639936) : aluN 19 a b c = if (if decide (57896044618658097711785492504343953926634992332820282019728792003956564819968 ≤ b) != decide (57896044618658097711785492504343953926634992332820282019728792003956564819968 ≤ a) then decide (57896044618658097711785492504343953926634992332820282019728792003956564819968 ≤ b) else decide (b < a)) = true then 1 else 0 := by
  rw [← sbelowE hb ha]; rfl
theorem aluE20 {a b c : Nat} : aluN 20 a b c = if decide (a = b) = true then 1 else 0 := by
  show (if a = b then 1 else 0) = _
  simp only [decide_eq_true_eq]
theorem aluE21 {a b c : Nat} : aluN 21 a b c = if decide (a = 0) = true then 1 else 0 := by
  show (if a = 0 then 1 else 0) = _
  simp only [decide_eq_true_eq]
theorem aluE22 {a b c : Nat} : aluN 22 a b c = a &&& b := rfl
theorem aluE23 {a b c : Nat} : aluN 23 a b c = a ||| b := rfl
theorem aluE24 {a b c : Nat} : aluN 24 a b c = a ^^^ b := rfl
theorem aluE25 {a b c : Nat} : aluN 25 a b c = 115792089237316195423570985008687907853269984665640564039457584007913129639936 - 1 - a := rfl
theorem aluE26 {a b c : Nat} : aluN 26 a b c = if a < 32 then b / 2 ^ (8 * (31 - a)) % 256 else 0 := rfl
theorem shlLaw {a b : Nat} : b * 2 ^ (min a 256) % 2 ^ 256 = if a < 256 then b * 2 ^ a % 2 ^ 256 else 0 := by
  split
  · rw [Nat.min_eq_left (by omega)]
  · rw [Nat.min_eq_right (by omega), Nat.mul_mod_left]
theorem aluE27 {a b c : Nat} : aluN 27 a b c = if a < 256 then b * 2 ^ a % 115792089237316195423570985008687907853269984665640564039457584007913129639936 else 0 := shlLaw
theorem aluE28 {a b c : Nat} : aluN 28 a b c = b / 2 ^ (min a 256) := rfl
theorem aluE29 {a b c : Nat} (hb : b < 115792089237316195423570985008687907853269984665640564039457584007913129639936) : aluN 29 a b c = if 57896044618658097711785492504343953926634992332820282019728792003956564819968 ≤ b then 115792089237316195423570985008687907853269984665640564039457584007913129639936 - 1 - (115792089237316195423570985008687907853269984665640564039457584007913129639936 - 1 - b) / 2 ^ (min a 256) else b / 2 ^ (min a 256) := by
  show (if b.testBit 255 = true then 115792089237316195423570985008687907853269984665640564039457584007913129639936 - 1 - (115792089237316195423570985008687907853269984665640564039457584007913129639936 - 1 - b) / 2 ^ (min a 256) else b / 2 ^ (min a 256)) = _
  rw [testTop hb]
  simp only [decide_eq_true_eq]
theorem signX_lt {a b : Nat} (hb : b < 115792089237316195423570985008687907853269984665640564039457584007913129639936) : signX a b < 115792089237316195423570985008687907853269984665640564039457584007913129639936 := by
  unfold signX
  split
  · have h1 : b % 2 ^ (8 * a + 8) < 2 ^ (8 * a + 8) := Nat.mod_lt _ (Nat.two_pow_pos _)
    have h2 : b % 2 ^ (8 * a + 8) ≤ b := Nat.mod_le _ _
    generalize 2 ^ (8 * a + 8) = P at *
    generalize b % P = x at *
    split
    · omega
    · omega
  · exact hb
theorem one_lt : (1 : Nat) < 115792089237316195423570985008687907853269984665640564039457584007913129639936 := by decide
theorem zero_lt : (0 : Nat) < 115792089237316195423570985008687907853269984665640564039457584007913129639936 := by decide
theorem and_lt' {a b : Nat} (ha : a < 2 ^ 256) (hb : b < 2 ^ 256) : a &&& b < 2 ^ 256 := Nat.and_lt_two_pow _ hb
theorem or_lt' {a b : Nat} (ha : a < 2 ^ 256) (hb : b < 2 ^ 256) : a ||| b < 2 ^ 256 := Nat.or_lt_two_pow ha hb
theorem xor_lt' {a b : Nat} (ha : a < 2 ^ 256) (hb : b < 2 ^ 256) : a ^^^ b < 2 ^ 256 := Nat.xor_lt_two_pow ha hb
theorem boolW {p : Prop} [Decidable p] : (if p then 1 else 0) < 115792089237316195423570985008687907853269984665640564039457584007913129639936 := by split <;> decide
theorem mod256 {x : Nat} : x % 256 < 115792089237316195423570985008687907853269984665640564039457584007913129639936 := Nat.lt_trans (Nat.mod_lt _ (by decide)) (by decide)
theorem notW {x : Nat} : 115792089237316195423570985008687907853269984665640564039457584007913129639936 - 1 - x < 115792089237316195423570985008687907853269984665640564039457584007913129639936 := by omega
theorem iteW {p : Prop} [Decidable p] {x y : Nat} (hx : x < 115792089237316195423570985008687907853269984665640564039457584007913129639936) (hy : y < 115792089237316195423570985008687907853269984665640564039457584007913129639936) : (if p then x else y) < 115792089237316195423570985008687907853269984665640564039457584007913129639936 := by split <;> assumption
theorem modWW {x : Nat} : x % 115792089237316195423570985008687907853269984665640564039457584007913129639936 < 115792089237316195423570985008687907853269984665640564039457584007913129639936 := Nat.mod_lt _ (by decide)
theorem modW' {x : Nat} : x % 2 ^ 256 < 115792089237316195423570985008687907853269984665640564039457584007913129639936 := Nat.mod_lt _ (by decide)
theorem divW {x y : Nat} (hx : x < 115792089237316195423570985008687907853269984665640564039457584007913129639936) : x / y < 115792089237316195423570985008687907853269984665640564039457584007913129639936 := Nat.lt_of_le_of_lt (Nat.div_le_self _ _) hx
theorem aluN_lt {o a b c : Nat} (ha : a < 115792089237316195423570985008687907853269984665640564039457584007913129639936) (hb : b < 115792089237316195423570985008687907853269984665640564039457584007913129639936) (hc : c < 115792089237316195423570985008687907853269984665640564039457584007913129639936) : aluN o a b c < 115792089237316195423570985008687907853269984665640564039457584007913129639936 := by
  unfold aluN
  refine iteW modW' ?_
  refine iteW modW' ?_
  refine iteW modW' ?_
  refine iteW (divW ha) ?_
  refine iteW (sgn_lt (divW (mag_lt ha)) _) ?_
  refine iteW (modZ_lt hb zero_lt) ?_
  refine iteW (sgn_lt (modZ_lt (mag_lt hb) zero_lt) _) ?_
  refine iteW (modZ_lt hc zero_lt) ?_
  refine iteW (modZ_lt hc zero_lt) ?_
  refine iteW modWW ?_
  refine iteW (signX_lt hb) ?_
  refine iteW boolW ?_
  refine iteW boolW ?_
  refine iteW boolW ?_
  refine iteW boolW ?_
  refine iteW boolW ?_
  refine iteW boolW ?_
  refine iteW (and_lt' ha hb) ?_
  refine iteW (or_lt' ha hb) ?_
  refine iteW (xor_lt' ha hb) ?_
  refine iteW notW ?_
  refine iteW (iteW mod256 zero_lt) ?_
  refine iteW modWW ?_
  refine iteW (divW hb) ?_
  refine iteW (iteW notW (divW hb)) ?_
  exact zero_lt
end Go.Proofs.YgvafwGreat
