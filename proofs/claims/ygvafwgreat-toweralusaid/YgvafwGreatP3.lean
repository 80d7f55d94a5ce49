import Derived.Test.YgvafwGreatK5
import Derived.Test.YgvafwGreatK7
import Derived.Test.YgvafwGreatK10
set_option exponentiation.threshold 1000
set_option maxRecDepth 100000
set_option maxHeartbeats 4000000
set_option linter.unusedVariables false
set_option linter.unusedSimpArgs false
namespace Go.Proofs.YgvafwGreat
open Go.HL Go.Proofs

/-! ### The two permutations are one, with no Go in sight -/
def rotN (x k : Nat) : Nat := x * 2 ^ k % 2 ^ 64 ||| x / 2 ^ (64 - k)
theorem rotN_lt {x k : Nat} (hx : x < 2 ^ 64) (hk : k < 64) : rotN x k < 2 ^ 64 := by
  unfold rotN
  refine Nat.or_lt_two_pow (Nat.mod_lt _ (Nat.two_pow_pos 64)) (Nat.lt_of_le_of_lt (Nat.div_le_self _ _) hx)
theorem rot_bit {x k z : Nat} (hx : x < 2 ^ 64) (hk : k < 64) (hz : z < 64) : (rotN x k).testBit z = x.testBit ((z + 64 - k) % 64) := by
  unfold rotN
  rw [Nat.testBit_or, Nat.testBit_mod_two_pow, Nat.testBit_mul_two_pow, Nat.testBit_div_two_pow]
  have h64 : ∀ j, 64 ≤ j → x.testBit j = false := fun j hj => Nat.testBit_lt_two_pow (Nat.lt_of_lt_of_le hx (Nat.pow_le_pow_right (by decide) hj))
  by_cases h : z < k
  · have e : (z + 64 - k) % 64 = 64 - k + z := by omega
    rw [e, decide_eq_false (by omega : ¬ z ≥ k)]
    simp [hz, Nat.add_comm]
  · have e : (z + 64 - k) % 64 = z - k := by omega
    rw [e, h64 (z + (64 - k)) (by omega), decide_eq_true (by omega : z ≥ k)]
    simp [hz]
def kC (a : Nat → Nat) (x : Nat) : Nat := a x ^^^ a (x + 5) ^^^ a (x + 10) ^^^ a (x + 15) ^^^ a (x + 20)
def kD (a : Nat → Nat) (x : Nat) : Nat := kC a ((x + 4) % 5) ^^^ rotN (kC a ((x + 1) % 5)) 1
def kT (a : Nat → Nat) (i x k : Nat) : Nat := rotN (a i ^^^ kD a x) k
def kX (p q r : Nat) : Nat := p ^^^ ((18446744073709551615 - q) &&& r)
/-- The round without its constant. -/
def kRound (a : Nat → Nat) : List Nat := [
  kX (a 0 ^^^ kD a 0) (kT a 6 1 44) (kT a 12 2 43),
  kX (kT a 6 1 44) (kT a 12 2 43) (kT a 18 3 21),
  kX (kT a 12 2 43) (kT a 18 3 21) (kT a 24 4 14),
  kX (kT a 18 3 21) (kT a 24 4 14) (a 0 ^^^ kD a 0),
  kX (kT a 24 4 14) (a 0 ^^^ kD a 0) (kT a 6 1 44),
  kX (kT a 3 3 28) (kT a 9 4 20) (kT a 10 0 3),
  kX (kT a 9 4 20) (kT a 10 0 3) (kT a 16 1 45),
  kX (kT a 10 0 3) (kT a 16 1 45) (kT a 22 2 61),
  kX (kT a 16 1 45) (kT a 22 2 61) (kT a 3 3 28),
  kX (kT a 22 2 61) (kT a 3 3 28) (kT a 9 4 20),
  kX (kT a 1 1 1) (kT a 7 2 6) (kT a 13 3 25),
  kX (kT a 7 2 6) (kT a 13 3 25) (kT a 19 4 8),
  kX (kT a 13 3 25) (kT a 19 4 8) (kT a 20 0 18),
  kX (kT a 19 4 8) (kT a 20 0 18) (kT a 1 1 1),
  kX (kT a 20 0 18) (kT a 1 1 1) (kT a 7 2 6),
  kX (kT a 4 4 27) (kT a 5 0 36) (kT a 11 1 10),
  kX (kT a 5 0 36) (kT a 11 1 10) (kT a 17 2 15),
  kX (kT a 11 1 10) (kT a 17 2 15) (kT a 23 3 56),
  kX (kT a 17 2 15) (kT a 23 3 56) (kT a 4 4 27),
  kX (kT a 23 3 56) (kT a 4 4 27) (kT a 5 0 36),
  kX (kT a 2 2 62) (kT a 8 3 55) (kT a 14 4 39),
  kX (kT a 8 3 55) (kT a 14 4 39) (kT a 15 0 41),
  kX (kT a 14 4 39) (kT a 15 0 41) (kT a 21 1 2),
  kX (kT a 15 0 41) (kT a 21 1 2) (kT a 2 2 62),
  kX (kT a 21 1 2) (kT a 2 2 62) (kT a 8 3 55)]
def Lim25 (a : Nat → Nat) : Prop := ∀ i, a i < 2 ^ 64
theorem kC_lt {a : Nat → Nat} (ha : Lim25 a) (x : Nat) : kC a x < 2 ^ 64 := Nat.xor_lt_two_pow (Nat.xor_lt_two_pow (Nat.xor_lt_two_pow (Nat.xor_lt_two_pow (ha _) (ha _)) (ha _)) (ha _)) (ha _)
theorem kD_lt {a : Nat → Nat} (ha : Lim25 a) (x : Nat) : kD a x < 2 ^ 64 := Nat.xor_lt_two_pow (kC_lt ha _) (rotN_lt (kC_lt ha _) (by decide))
theorem kX_lt {p q r : Nat} (hp : p < 2 ^ 64) (hr : r < 2 ^ 64) : kX p q r < 2 ^ 64 := Nat.xor_lt_two_pow hp (Nat.and_lt_two_pow _ hr)
/-- Bits and lanes. -/
def Cor (A : Nat → Bool) (a : Nat → Nat) : Prop := ∀ x y z, x < 5 → y < 5 → z < 64 → A (x * 320 + y * 64 + z) = (a (5 * y + x)).testBit z
def thL (a : Nat → Nat) (i : Nat) : Nat := a i ^^^ kD a (i % 5)
def rhL (a : Nat → Nat) (i : Nat) : Nat := rotN (a i) (offN (i % 5) (i / 5 % 5))
def piL (a : Nat → Nat) (i : Nat) : Nat := a (5 * (i % 5) + (i % 5 + 3 * (i / 5)) % 5)
def chL (a : Nat → Nat) (i : Nat) : Nat := kX (a (5 * (i / 5) + i % 5)) (a (5 * (i / 5) + (i % 5 + 1) % 5)) (a (5 * (i / 5) + (i % 5 + 2) % 5))
theorem ix {x y z : Nat} (hx : x < 5) (hy : y < 5) (hz : z < 64) : (x * 320 + y * 64 + z) / 320 = x ∧ (x * 320 + y * 64 + z) % 320 = y * 64 + z ∧ (x * 320 + y * 64 + z) % 320 / 64 = y ∧ (x * 320 + y * 64 + z) % 64 = z := by omega
theorem iy {x y : Nat} (hx : x < 5) : (5 * y + x) % 5 = x ∧ (5 * y + x) / 5 = y := by omega
theorem par_bit {A : Nat → Bool} {a : Nat → Nat} (h : Cor A a) {x z : Nat} (hx : x < 5) (hz : z < 64) : par A x z 5 = (kC a x).testBit z := by
  have e := fun y (hy : y < 5) => h x y z hx hy hz
  have e0 := e 0 (by decide)
  have e1 := e 1 (by decide)
  have e2 := e 2 (by decide)
  have e3 := e 3 (by decide)
  have e4 := e 4 (by decide)
  simp only [par, kC, Nat.testBit_xor, e0, e1, e2, e3, e4]
  rw [show 5 * 0 + x = x by omega, show 5 * 1 + x = x + 5 by omega, show 5 * 2 + x = x + 10 by omega, show 5 * 3 + x = x + 15 by omega, show 5 * 4 + x = x + 20 by omega]
  cases (a x).testBit z <;> rfl
theorem cor_th {A : Nat → Bool} {a : Nat → Nat} (ha : Lim25 a) (h : Cor A a) : Cor (thN A) (thL a) := by
  intro x y z hx hy hz
  obtain ⟨i1, i2, i3, i4⟩ := ix hx hy hz
  obtain ⟨j1, j2⟩ := iy (y := y) hx
  unfold thN thL thD kD
  rw [i1, i4, j1, par_bit h (by omega) hz, par_bit h (by omega) (by omega), h x y z hx hy hz, Nat.testBit_xor, Nat.testBit_xor, rot_bit (kC_lt ha _) (by decide) hz]
  rw [show (z + 64 - 1) % 64 = (z + 63) % 64 by omega]
theorem lim_th {a : Nat → Nat} (ha : Lim25 a) : Lim25 (thL a) := fun i => Nat.xor_lt_two_pow (ha i) (kD_lt ha _)
theorem lim_rh {a : Nat → Nat} (ha : Lim25 a) : Lim25 (rhL a) := fun i => rotN_lt (ha i) (offN_lt _ (Nat.mod_lt _ (by decide)) _ (Nat.mod_lt _ (by decide)))
theorem lim_pi {a : Nat → Nat} (ha : Lim25 a) : Lim25 (piL a) := fun i => ha _
theorem lim_ch {a : Nat → Nat} (ha : Lim25 a) : Lim25 (chL a) := fun i => kX_lt (ha _) (ha _)
theorem cor_rh {A : Nat → Bool} {a : Nat → Nat} (ha : Lim25 a) (h : Cor A a) : Cor (rhN A) (rhL a) := by
  intro x y z hx hy hz
  obtain ⟨i1, i2, i3, i4⟩ := ix hx hy hz
  obtain ⟨j1, j2⟩ := iy (y := y) hx
  have ho := offN_lt x hx y hy
  unfold rhN rhL
  rw [i1, i3, i4, j1, j2, Nat.mod_eq_of_lt hy, rot_bit (ha _) ho hz]
  exact h x y _ hx hy (Nat.mod_lt _ (by decide))
theorem cor_pi {A : Nat → Bool} {a : Nat → Nat} (h : Cor A a) : Cor (piN A) (piL a) := by
  intro x y z hx hy hz
  obtain ⟨i1, i2, i3, i4⟩ := ix hx hy hz
  obtain ⟨j1, j2⟩ := iy (y := y) hx
  unfold piN piL
  rw [i1, i3, i4, j1, j2]
  exact h _ x z (Nat.mod_lt _ (by decide)) hx hz
theorem not_bit {q z : Nat} (hq : q < 2 ^ 64) (hz : z < 64) : (18446744073709551615 - q).testBit z = !q.testBit z := by
  have := Nat.testBit_two_pow_sub_succ (n := 64) hq z
  rw [show (2 : Nat) ^ 64 - (q + 1) = 18446744073709551615 - q by omega] at this
  rw [this]; simp [hz]
theorem cor_ch {A : Nat → Bool} {a : Nat → Nat} (ha : Lim25 a) (h : Cor A a) : Cor (chN A) (chL a) := by
  intro x y z hx hy hz
  obtain ⟨i1, i2, i3, i4⟩ := ix hx hy hz
  obtain ⟨j1, j2⟩ := iy (y := y) hx
  unfold chN chL kX
  rw [i1, i2, j1, j2, ← Nat.add_assoc, ← Nat.add_assoc, h x y z hx hy hz, h _ y z (Nat.mod_lt _ (by decide)) hy hz, h _ y z (Nat.mod_lt _ (by decide)) hy hz, Nat.testBit_xor, Nat.testBit_and, not_bit (ha _) hz]
  generalize (a (5 * y + x)).testBit z = p
  generalize (a (5 * y + (x + 1) % 5)).testBit z = q
  generalize (a (5 * y + (x + 2) % 5)).testBit z = r
  cases p <;> cases q <;> cases r <;> rfl
theorem rot0 {x : Nat} (hx : x < 2 ^ 64) : rotN x 0 = x := by
  unfold rotN
  rw [Nat.pow_zero, Nat.mul_one, Nat.mod_eq_of_lt hx, Nat.div_eq_of_lt hx, Nat.or_zero]
theorem off_lit : ∀ i, i < 25 → offN (i % 5) (i / 5 % 5) = [0, 1, 62, 28, 27, 36, 44, 6, 55, 20, 3, 10, 43, 25, 39, 41, 45, 15, 21, 8, 18, 2, 61, 56, 14].getD i 0 := by decide +kernel
/-- rho and theta of lane i -/
theorem rt_lit {a : Nat → Nat} (i : Nat) (hi : i < 25) : rhL (thL a) i = kT a i (i % 5) ([0, 1, 62, 28, 27, 36, 44, 6, 55, 20, 3, 10, 43, 25, 39, 41, 45, 15, 21, 8, 18, 2, 61, 56, 14].getD i 0) := by
  unfold rhL
  rw [off_lit i hi]; rfl
theorem kT_lit {a : Nat → Nat} {i x k x' k' : Nat} (hx : x = x') (hk : k = k') : kT a i x k = kT a i x' k' := by rw [hx, hk]
theorem rt_zero {a : Nat → Nat} (ha : Lim25 a) : rhL (thL a) 0 = a 0 ^^^ kD a 0 := by
  rw [rt_lit 0 (by decide), kT_lit (x' := 0) (k' := 0) (by decide) (by decide)]
  exact rot0 (lim_th ha 0)
theorem get25_0 (x0 x1 x2 x3 x4 x5 x6 x7 x8 x9 x10 x11 x12 x13 x14 x15 x16 x17 x18 x19 x20 x21 x22 x23 x24 : Nat) : [x0, x1, x2, x3, x4, x5, x6, x7, x8, x9, x10, x11, x12, x13, x14, x15, x16, x17, x18, x19, x20, x21, x22, x23, x24].getD 0 0 = x0 := rfl
theorem cp_0 (b : Nat → Nat) : chL (piL b) 0 = kX (b 0) (b 6) (b 12) := rfl
theorem get25_1 (x0 x1 x2 x3 x4 x5 x6 x7 x8 x9 x10 x11 x12 x13 x14 x15 x16 x17 x18 x19 x20 x21 x22 x23 x24 : Nat) : [x0, x1, x2, x3, x4, x5, x6, x7, x8, x9, x10, x11, x12, x13, x14, x15, x16, x17, x18, x19, x20, x21, x22, x23, x24].getD 1 0 = x1 := rfl
theorem cp_1 (b : Nat → Nat) : chL (piL b) 1 = kX (b 6) (b 12) (b 18) := rfl
theorem get25_2 (x0 x1 x2 x3 x4 x5 x6 x7 x8 x9 x10 x11 x12 x13 x14 x15 x16 x17 x18 x19 x20 x21 x22 x23 x24 : Nat) : [x0, x1, x2, x3, x4, x5, x6, x7, x8, x9, x10, x11, x12, x13, x14, x15, x16, x17, x18, x19, x20, x21, x22, x23, x24].getD 2 0 = x2 := rfl
theorem cp_2 (b : Nat → Nat) : chL (piL b) 2 = kX (b 12) (b 18) (b 24) := rfl
theorem get25_3 (x0 x1 x2 x3 x4 x5 x6 x7 x8 x9 x10 x11 x12 x13 x14 x15 x16 x17 x18 x19 x20 x21 x22 x23 x24 : Nat) : [x0, x1, x2, x3, x4, x5, x6, x7, x8, x9, x10, x11, x12, x13, x14, x15, x16, x17, x18, x19, x20, x21, x22, x23, x24].getD 3 0 = x3 := rfl
theorem cp_3 (b : Nat → Nat) : chL (piL b) 3 = kX (b 18) (b 24) (b 0) := rfl
theorem get25_4 (x0 x1 x2 x3 x4 x5 x6 x7 x8 x9 x10 x11 x12 x13 x14 x15 x16 x17 x18 x19 x20 x21 x22 x23 x24 : Nat) : [x0, x1, x2, x3, x4, x5, x6, x7, x8, x9, x10, x11, x12, x13, x14, x15, x16, x17, x18, x19, x20, x21, x22, x23, x24].getD 4 0 = x4 := rfl
theorem cp_4 (b : Nat → Nat) : chL (piL b) 4 = kX (b 24) (b 0) (b 6) := rfl
theorem get25_5 (x0 x1 x2 x3 x4 x5 x6 x7 x8 x9 x10 x11 x12 x13 x14 x15 x16 x17 x18 x19 x20 x21 x22 x23 x24 : Nat) : [x0, x1, x2, x3, x4, x5, x6, x7, x8, x9, x10, x11, x12, x13, x14, x15, x16, x17, x18, x19, x20, x21, x22, x23, x24].getD 5 0 = x5 := rfl
theorem cp_5 (b : Nat → Nat) : chL (piL b) 5 = kX (b 3) (b 9) (b 10) := rfl
theorem get25_6 (x0 x1 x2 x3 x4 x5 x6 x7 x8 x9 x10 x11 x12 x13 x14 x15 x16 x17 x18 x19 x20 x21 x22 x23 x24 : Nat) : [x0, x1, x2, x3, x4, x5, x6, x7, x8, x9, x10, x11, x12, x13, x14, x15, x16, x17, x18, x19, x20, x21, x22, x23, x24].getD 6 0 = x6 := rfl
theorem cp_6 (b : Nat → Nat) : chL (piL b) 6 = kX (b 9) (b 10) (b 16) := rfl
theorem get25_7 (x0 x1 x2 x3 x4 x5 x6 x7 x8 x9 x10 x11 x12 x13 x14 x15 x16 x17 x18 x19 x20 x21 x22 x23 x24 : Nat) : [x0, x1, x2, x3, x4, x5, x6, x7, x8, x9, x10, x11, x12, x13, x14, x15, x16, x17, x18, x19, x20, x21, x22, x23, x24].getD 7 0 = x7 := rfl
theorem cp_7 (b : Nat → Nat) : chL (piL b) 7 = kX (b 10) (b 16) (b 22) := rfl
theorem get25_8 (x0 x1 x2 x3 x4 x5 x6 x7 x8 x9 x10 x11 x12 x13 x14 x15 x16 x17 x18 x19 x20 x21 x22 x23 x24 : Nat) : [x0, x1, x2, x3, x4, x5, x6, x7, x8, x9, x10, x11, x12, x13, x14, x15, x16, x17, x18, x19, x20, x21, x22, x23, x24].getD 8 0 = x8 := rfl
theorem cp_8 (b : Nat → Nat) : chL (piL b) 8 = kX (b 16) (b 22) (b 3) := rfl
theorem get25_9 (x0 x1 x2 x3 x4 x5 x6 x7 x8 x9 x10 x11 x12 x13 x14 x15 x16 x17 x18 x19 x20 x21 x22 x23 x24 : Nat) : [x0, x1, x2, x3, x4, x5, x6, x7, x8, x9, x10, x11, x12, x13, x14, x15, x16, x17, x18, x19, x20, x21, x22, x23, x24].getD 9 0 = x9 := rfl
theorem cp_9 (b : Nat → Nat) : chL (piL b) 9 = kX (b 22) (b 3) (b 9) := rfl
theorem get25_10 (x0 x1 x2 x3 x4 x5 x6 x7 x8 x9 x10 x11 x12 x13 x14 x15 x16 x17 x18 x19 x20 x21 x22 x23 x24 : Nat) : [x0, x1, x2, x3, x4, x5, x6, x7, x8, x9, x10, x11, x12, x13, x14, x15, x16, x17, x18, x19, x20, x21, x22, x23, x24].getD 10 0 = x10 := rfl
theorem cp_10 (b : Nat → Nat) : chL (piL b) 10 = kX (b 1) (b 7) (b 13) := rfl
theorem get25_11 (x0 x1 x2 x3 x4 x5 x6 x7 x8 x9 x10 x11 x12 x13 x14 x15 x16 x17 x18 x19 x20 x21 x22 x23 x24 : Nat) : [x0, x1, x2, x3, x4, x5, x6, x7, x8, x9, x10, x11, x12, x13, x14, x15, x16, x17, x18, x19, x20, x21, x22, x23, x24].getD 11 0 = x11 := rfl
theorem cp_11 (b : Nat → Nat) : chL (piL b) 11 = kX (b 7) (b 13) (b 19) := rfl
theorem get25_12 (x0 x1 x2 x3 x4 x5 x6 x7 x8 x9 x10 x11 x12 x13 x14 x15 x16 x17 x18 x19 x20 x21 x22 x23 x24 : Nat) : [x0, x1, x2, x3, x4, x5, x6, x7, x8, x9, x10, x11, x12, x13, x14, x15, x16, x17, x18, x19, x20, x21, x22, x23, x24].getD 12 0 = x12 := rfl
theorem cp_12 (b : Nat → Nat) : chL (piL b) 12 = kX (b 13) (b 19) (b 20) := rfl
theorem get25_13 (x0 x1 x2 x3 x4 x5 x6 x7 x8 x9 x10 x11 x12 x13 x14 x15 x16 x17 x18 x19 x20 x21 x22 x23 x24 : Nat) : [x0, x1, x2, x3, x4, x5, x6, x7, x8, x9, x10, x11, x12, x13, x14, x15, x16, x17, x18, x19, x20, x21, x22, x23, x24].getD 13 0 = x13 := rfl
theorem cp_13 (b : Nat → Nat) : chL (piL b) 13 = kX (b 19) (b 20) (b 1) := rfl
theorem get25_14 (x0 x1 x2 x3 x4 x5 x6 x7 x8 x9 x10 x11 x12 x13 x14 x15 x16 x17 x18 x19 x20 x21 x22 x23 x24 : Nat) : [x0, x1, x2, x3, x4, x5, x6, x7, x8, x9, x10, x11, x12, x13, x14, x15, x16, x17, x18, x19, x20, x21, x22, x23, x24].getD 14 0 = x14 := rfl
theorem cp_14 (b : Nat → Nat) : chL (piL b) 14 = kX (b 20) (b 1) (b 7) := rfl
theorem get25_15 (x0 x1 x2 x3 x4 x5 x6 x7 x8 x9 x10 x11 x12 x13 x14 x15 x16 x17 x18 x19 x20 x21 x22 x23 x24 : Nat) : [x0, x1, x2, x3, x4, x5, x6, x7, x8, x9, x10, x11, x12, x13, x14, x15, x16, x17, x18, x19, x20, x21, x22, x23, x24].getD 15 0 = x15 := rfl
theorem cp_15 (b : Nat → Nat) : chL (piL b) 15 = kX (b 4) (b 5) (b 11) := rfl
theorem get25_16 (x0 x1 x2 x3 x4 x5 x6 x7 x8 x9 x10 x11 x12 x13 x14 x15 x16 x17 x18 x19 x20 x21 x22 x23 x24 : Nat) : [x0, x1, x2, x3, x4, x5, x6, x7, x8, x9, x10, x11, x12, x13, x14, x15, x16, x17, x18, x19, x20, x21, x22, x23, x24].getD 16 0 = x16 := rfl
theorem cp_16 (b : Nat → Nat) : chL (piL b) 16 = kX (b 5) (b 11) (b 17) := rfl
theorem get25_17 (x0 x1 x2 x3 x4 x5 x6 x7 x8 x9 x10 x11 x12 x13 x14 x15 x16 x17 x18 x19 x20 x21 x22 x23 x24 : Nat) : [x0, x1, x2, x3, x4, x5, x6, x7, x8, x9, x10, x11, x12, x13, x14, x15, x16, x17, x18, x19, x20, x21, x22, x23, x24].getD 17 0 = x17 := rfl
theorem cp_17 (b : Nat → Nat) : chL (piL b) 17 = kX (b 11) (b 17) (b 23) := rfl
theorem get25_18 (x0 x1 x2 x3 x4 x5 x6 x7 x8 x9 x10 x11 x12 x13 x14 x15 x16 x17 x18 x19 x20 x21 x22 x23 x24 : Nat) : [x0, x1, x2, x3, x4, x5, x6, x7, x8, x9, x10, x11, x12, x13, x14, x15, x16, x17, x18, x19, x20, x21, x22, x23, x24].getD 18 0 = x18 := rfl
theorem cp_18 (b : Nat → Nat) : chL (piL b) 18 = kX (b 17) (b 23) (b 4) := rfl
theorem get25_19 (x0 x1 x2 x3 x4 x5 x6 x7 x8 x9 x10 x11 x12 x13 x14 x15 x16 x17 x18 x19 x20 x21 x22 x23 x24 : Nat) : [x0, x1, x2, x3, x4, x5, x6, x7, x8, x9, x10, x11, x12, x13, x14, x15, x16, x17, x18, x19, x20, x21, x22, x23, x24].getD 19 0 = x19 := rfl
theorem cp_19 (b : Nat → Nat) : chL (piL b) 19 = kX (b 23) (b 4) (b 5) := rfl
theorem get25_20 (x0 x1 x2 x3 x4 x5 x6 x7 x8 x9 x10 x11 x12 x13 x14 x15 x16 x17 x18 x19 x20 x21 x22 x23 x24 : Nat) : [x0, x1, x2, x3, x4, x5, x6, x7, x8, x9, x10, x11, x12, x13, x14, x15, x16, x17, x18, x19, x20, x21, x22, x23, x24].getD 20 0 = x20 := rfl
theorem cp_20 (b : Nat → Nat) : chL (piL b) 20 = kX (b 2) (b 8) (b 14) := rfl
theorem get25_21 (x0 x1 x2 x3 x4 x5 x6 x7 x8 x9 x10 x11 x12 x13 x14 x15 x16 x17 x18 x19 x20 x21 x22 x23 x24 : Nat) : [x0, x1, x2, x3, x4, x5, x6, x7, x8, x9, x10, x11, x12, x13, x14, x15, x16, x17, x18, x19, x20, x21, x22, x23, x24].getD 21 0 = x21 := rfl
theorem cp_21 (b : Nat → Nat) : chL (piL b) 21 = kX (b 8) (b 14) (b 15) := rfl
theorem get25_22 (x0 x1 x2 x3 x4 x5 x6 x7 x8 x9 x10 x11 x12 x13 x14 x15 x16 x17 x18 x19 x20 x21 x22 x23 x24 : Nat) : [x0, x1, x2, x3, x4, x5, x6, x7, x8, x9, x10, x11, x12, x13, x14, x15, x16, x17, x18, x19, x20, x21, x22, x23, x24].getD 22 0 = x22 := rfl
theorem cp_22 (b : Nat → Nat) : chL (piL b) 22 = kX (b 14) (b 15) (b 21) := rfl
theorem get25_23 (x0 x1 x2 x3 x4 x5 x6 x7 x8 x9 x10 x11 x12 x13 x14 x15 x16 x17 x18 x19 x20 x21 x22 x23 x24 : Nat) : [x0, x1, x2, x3, x4, x5, x6, x7, x8, x9, x10, x11, x12, x13, x14, x15, x16, x17, x18, x19, x20, x21, x22, x23, x24].getD 23 0 = x23 := rfl
theorem cp_23 (b : Nat → Nat) : chL (piL b) 23 = kX (b 15) (b 21) (b 2) := rfl
theorem get25_24 (x0 x1 x2 x3 x4 x5 x6 x7 x8 x9 x10 x11 x12 x13 x14 x15 x16 x17 x18 x19 x20 x21 x22 x23 x24 : Nat) : [x0, x1, x2, x3, x4, x5, x6, x7, x8, x9, x10, x11, x12, x13, x14, x15, x16, x17, x18, x19, x20, x21, x22, x23, x24].getD 24 0 = x24 := rfl
theorem cp_24 (b : Nat → Nat) : chL (piL b) 24 = kX (b 21) (b 2) (b 8) := rfl
theorem round_lit {a : Nat → Nat} (ha : Lim25 a) : ∀ i, i < 25 → (kRound a).getD i 0 = chL (piL (rhL (thL a))) i := by
  intro i hi
  have e0 : rhL (thL a) 0 = a 0 ^^^ kD a 0 := rt_zero ha
  have e1 : rhL (thL a) 1 = kT a 1 1 1 := (rt_lit 1 (by decide)).trans (kT_lit (by decide) (by decide))
  have e2 : rhL (thL a) 2 = kT a 2 2 62 := (rt_lit 2 (by decide)).trans (kT_lit (by decide) (by decide))
  have e3 : rhL (thL a) 3 = kT a 3 3 28 := (rt_lit 3 (by decide)).trans (kT_lit (by decide) (by decide))
  have e4 : rhL (thL a) 4 = kT a 4 4 27 := (rt_lit 4 (by decide)).trans (kT_lit (by decide) (by decide))
  have e5 : rhL (thL a) 5 = kT a 5 0 36 := (rt_lit 5 (by decide)).trans (kT_lit (by decide) (by decide))
  have e6 : rhL (thL a) 6 = kT a 6 1 44 := (rt_lit 6 (by decide)).trans (kT_lit (by decide) (by decide))
  have e7 : rhL (thL a) 7 = kT a 7 2 6 := (rt_lit 7 (by decide)).trans (kT_lit (by decide) (by decide))
  have e8 : rhL (thL a) 8 = kT a 8 3 55 := (rt_lit 8 (by decide)).trans (kT_lit (by decide) (by decide))
  have e9 : rhL (thL a) 9 = kT a 9 4 20 := (rt_lit 9 (by decide)).trans (kT_lit (by decide) (by decide))
  have e10 : rhL (thL a) 10 = kT a 10 0 3 := (rt_lit 10 (by decide)).trans (kT_lit (by decide) (by decide))
  have e11 : rhL (thL a) 11 = kT a 11 1 10 := (rt_lit 11 (by decide)).trans (kT_lit (by decide) (by decide))
  have e12 : rhL (thL a) 12 = kT a 12 2 43 := (rt_lit 12 (by decide)).trans (kT_lit (by decide) (by decide))
  have e13 : rhL (thL a) 13 = kT a 13 3 25 := (rt_lit 13 (by decide)).trans (kT_lit (by decide) (by decide))
  have e14 : rhL (thL a) 14 = kT a 14 4 39 := (rt_lit 14 (by decide)).trans (kT_lit (by decide) (by decide))
  have e15 : rhL (thL a) 15 = kT a 15 0 41 := (rt_lit 15 (by decide)).trans (kT_lit (by decide) (by decide))
  have e16 : rhL (thL a) 16 = kT a 16 1 45 := (rt_lit 16 (by decide)).trans (kT_lit (by decide) (by decide))
  have e17 : rhL (thL a) 17 = kT a 17 2 15 := (rt_lit 17 (by decide)).trans (kT_lit (by decide) (by decide))
  have e18 : rhL (thL a) 18 = kT a 18 3 21 := (rt_lit 18 (by decide)).trans (kT_lit (by decide) (by decide))
  have e19 : rhL (thL a) 19 = kT a 19 4 8 := (rt_lit 19 (by decide)).trans (kT_lit (by decide) (by decide))
  have e20 : rhL (thL a) 20 = kT a 20 0 18 := (rt_lit 20 (by decide)).trans (kT_lit (by decide) (by decide))
  have e21 : rhL (thL a) 21 = kT a 21 1 2 := (rt_lit 21 (by decide)).trans (kT_lit (by decide) (by decide))
  have e22 : rhL (thL a) 22 = kT a 22 2 61 := (rt_lit 22 (by decide)).trans (kT_lit (by decide) (by decide))
  have e23 : rhL (thL a) 23 = kT a 23 3 56 := (rt_lit 23 (by decide)).trans (kT_lit (by decide) (by decide))
  have e24 : rhL (thL a) 24 = kT a 24 4 14 := (rt_lit 24 (by decide)).trans (kT_lit (by decide) (by decide))
  generalize rhL (thL a) = b at *
  unfold kRound
  have c : i = 0 ∨ i = 1 ∨ i = 2 ∨ i = 3 ∨ i = 4 ∨ i = 5 ∨ i = 6 ∨ i = 7 ∨ i = 8 ∨ i = 9 ∨ i = 10 ∨ i = 11 ∨ i = 12 ∨ i = 13 ∨ i = 14 ∨ i = 15 ∨ i = 16 ∨ i = 17 ∨ i = 18 ∨ i = 19 ∨ i = 20 ∨ i = 21 ∨ i = 22 ∨ i = 23 ∨ i = 24 := by omega
  rcases c with rfl | rfl | rfl | rfl | rfl | rfl | rfl | rfl | rfl | rfl | rfl | rfl | rfl | rfl | rfl | rfl | rfl | rfl | rfl | rfl | rfl | rfl | rfl | rfl | rfl
  · rw [get25_0, cp_0, e0, e6, e12]
  · rw [get25_1, cp_1, e6, e12, e18]
  · rw [get25_2, cp_2, e12, e18, e24]
  · rw [get25_3, cp_3, e18, e24, e0]
  · rw [get25_4, cp_4, e24, e0, e6]
  · rw [get25_5, cp_5, e3, e9, e10]
  · rw [get25_6, cp_6, e9, e10, e16]
  · rw [get25_7, cp_7, e10, e16, e22]
  · rw [get25_8, cp_8, e16, e22, e3]
  · rw [get25_9, cp_9, e22, e3, e9]
  · rw [get25_10, cp_10, e1, e7, e13]
  · rw [get25_11, cp_11, e7, e13, e19]
  · rw [get25_12, cp_12, e13, e19, e20]
  · rw [get25_13, cp_13, e19, e20, e1]
  · rw [get25_14, cp_14, e20, e1, e7]
  · rw [get25_15, cp_15, e4, e5, e11]
  · rw [get25_16, cp_16, e5, e11, e17]
  · rw [get25_17, cp_17, e11, e17, e23]
  · rw [get25_18, cp_18, e17, e23, e4]
  · rw [get25_19, cp_19, e23, e4, e5]
  · rw [get25_20, cp_20, e2, e8, e14]
  · rw [get25_21, cp_21, e8, e14, e15]
  · rw [get25_22, cp_22, e14, e15, e21]
  · rw [get25_23, cp_23, e15, e21, e2]
  · rw [get25_24, cp_24, e21, e2, e8]
theorem cor_round {A : Nat → Bool} {a : Nat → Nat} (ha : Lim25 a) (h : Cor A a) : Cor (chN (piN (rhN (thN A)))) (fun i => (kRound a).getD i 0) := by
  intro x y z hx hy hz
  rw [cor_ch (lim_pi (lim_rh (lim_th ha))) (cor_pi (cor_rh (lim_th ha) (cor_th ha h))) x y z hx hy hz, ← round_lit ha _ (by omega)]
theorem lim_round {a : Nat → Nat} (ha : Lim25 a) : Lim25 (fun i => (kRound a).getD i 0) := by
  intro i
  by_cases hi : i < 25
  · show (kRound a).getD i 0 < 2 ^ 64
    rw [round_lit ha i hi]; exact lim_ch (lim_pi (lim_rh (lim_th ha))) i
  · show (kRound a).getD i 0 < 2 ^ 64
    rw [List.getD_eq_getElem?_getD, List.getElem?_eq_none (by show 25 ≤ i; omega)]; decide
def rcL : List Nat := [0x0000000000000001, 0x0000000000008082, 0x800000000000808a, 0x8000000080008000, 0x000000000000808b, 0x0000000080000001, 0x8000000080008081, 0x8000000000008009, 0x000000000000008a, 0x0000000000000088, 0x0000000080008009, 0x000000008000000a, 0x000000008000808b, 0x800000000000008b, 0x8000000000008089, 0x8000000000008003, 0x8000000000008002, 0x8000000000000080, 0x000000000000800a, 0x800000008000000a, 0x8000000080008081, 0x8000000000008080, 0x0000000080000001, 0x8000000080008008]
theorem rc_same : ∀ i, i < 24 → cstN (7 * i) 7 0 = rcL.getD i 0 := by decide +kernel
theorem rc_lt : ∀ i, i < 24 → rcL.getD i 0 < 2 ^ 64 := by decide +kernel
/-- A whole round of lanes. -/
def rndL (a : Nat → Nat) (i : Nat) : Nat → Nat := fun j => if j = 0 then (kRound a).getD 0 0 ^^^ rcL.getD i 0 else (kRound a).getD j 0
/-- A whole round of bits. -/
def rndB (A : Nat → Bool) (i : Nat) : Nat → Bool := ioN (chN (piN (rhN (thN A)))) (cstN (7 * i) 7 0)
theorem lim_rnd {a : Nat → Nat} (ha : Lim25 a) {i : Nat} (hi : i < 24) : Lim25 (rndL a i) := by
  intro j
  unfold rndL
  split
  · exact Nat.xor_lt_two_pow (lim_round ha 0) (rc_lt i hi)
  · exact lim_round ha j
theorem cor_rnd {A : Nat → Bool} {a : Nat → Nat} (ha : Lim25 a) (h : Cor A a) {i : Nat} (hi : i < 24) : Cor (rndB A i) (rndL a i) := by
  intro x y z hx hy hz
  have hr := cor_round ha h x y z hx hy hz
  unfold rndB rndL ioN
  rw [rc_same i hi]
  by_cases h0 : 5 * y + x = 0
  · have hx0 : x = 0 := by omega
    have hy0 : y = 0 := by omega
    subst hx0 hy0
    rw [if_pos (by omega), if_pos rfl, hr, Nat.testBit_xor]
    have e : decide (rcL.getD i 0 / 2 ^ (0 * 320 + 0 * 64 + z) % 2 = 1) = (rcL.getD i 0).testBit z := by
      rw [show 0 * 320 + 0 * 64 + z = z by omega, Nat.testBit_eq_decide_div_mod_eq]
    rw [e]
  · rw [if_neg (by omega), if_neg h0, hr]
/-- n rounds from round i on -/
def perL (a : Nat → Nat) : Nat → Nat → Nat
  | 0 => a
  | n + 1 => rndL (perL a n) n
def perB (A : Nat → Bool) : Nat → Nat → Bool
  | 0 => A
  | n + 1 => rndB (perB A n) n
theorem cor_per {A : Nat → Bool} {a : Nat → Nat} (ha : Lim25 a) (h : Cor A a) : ∀ n, n ≤ 24 → Cor (perB A n) (perL a n) ∧ Lim25 (perL a n)
  | 0, _ => ⟨h, ha⟩
  | n + 1, hn => by
    obtain ⟨h1, h2⟩ := cor_per ha h n (by omega)
    exact ⟨cor_rnd h2 h1 (by omega), lim_rnd h2 (by omega)⟩
end Go.Proofs.YgvafwGreat
