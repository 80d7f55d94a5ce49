import Derived.Test.YgvafwGreatU5
set_option maxRecDepth 100000
set_option maxHeartbeats 4000000
set_option linter.unusedVariables false
set_option linter.unusedSimpArgs false
-- v2
namespace Go.Proofs.YgvafwGreat
open Go.HL Go.Proofs

/-- A limb of a word shifted down. -/
def sr1 (b a t : Nat) : Nat := b / 2 ^ t + a * 2 ^ (64 - t) % 18446744073709551616
theorem sr_hi {t : Nat} (a : Nat) (ht : t ≤ 64) : a * 2 ^ (64 - t) % 18446744073709551616 = (a % 2 ^ t) * 2 ^ (64 - t) := by
  have e : 2 ^ t * 2 ^ (64 - t) = 18446744073709551616 := by rw [Nat.mul_comm, pow64 ht]
  rw [← e, Nat.mul_mod_mul_right]
theorem sr_lo {t b : Nat} (ht : t ≤ 64) (hb : b < 18446744073709551616) : b / 2 ^ t < 2 ^ (64 - t) := by
  rw [Nat.div_lt_iff_lt_mul (Nat.two_pow_pos _), pow64 ht]; exact hb
theorem sr_or {t b : Nat} (a : Nat) (ht : t ≤ 64) (hb : b < 18446744073709551616) : (b / 2 ^ t) ||| (a * 2 ^ (64 - t) % 18446744073709551616) = sr1 b a t := by
  rw [sr1, sr_hi a ht, or_shift _ (sr_lo ht hb)]
theorem sr1_lt {t a b : Nat} (ht : t ≤ 64) (hb : b < 18446744073709551616) : sr1 b a t < 18446744073709551616 := by
  have h1 := sr_lo ht hb
  have h2 := Nat.mod_lt a (Nat.two_pow_pos t)
  have e : 2 ^ t * 2 ^ (64 - t) = 18446744073709551616 := by rw [Nat.mul_comm, pow64 ht]
  have h3 : (a % 2 ^ t + 1) * 2 ^ (64 - t) ≤ 2 ^ t * 2 ^ (64 - t) := Nat.mul_le_mul_right _ h2
  rw [e, Nat.add_mul, Nat.one_mul] at h3
  rw [sr1, sr_hi a ht]; omega
theorem sr1_mul {t b : Nat} (a : Nat) (ht : t ≤ 64) : 2 ^ t * sr1 b a t + b % 2 ^ t = b + 18446744073709551616 * (a % 2 ^ t) := by
  have e : 2 ^ t * 2 ^ (64 - t) = 18446744073709551616 := by rw [Nat.mul_comm, pow64 ht]
  rw [sr1, sr_hi a ht, Nat.mul_add, Nat.mul_left_comm, e, Nat.mul_comm (a % 2 ^ t)]
  have := Nat.div_add_mod b (2 ^ t)
  omega
theorem sr_sum {c0 c1 c2 c3 c4 w0 w1 w2 w3 T m0 m1 m2 m3 m4 p0 p1 p2 p3 : Nat} (e0 : p0 + m0 = c0 + 18446744073709551616 * m1) (e1 : p1 + m1 = c1 + 18446744073709551616 * m2) (e2 : p2 + m2 = c2 + 18446744073709551616 * m3) (e3 : p3 + m3 = c3 + 18446744073709551616 * m4) :
    (p0 + 18446744073709551616 * p1 + 340282366920938463463374607431768211456 * p2 + 6277101735386680763835789423207666416102355444464034512896 * p3) + m0 = (c0 + 18446744073709551616 * c1 + 340282366920938463463374607431768211456 * c2 + 6277101735386680763835789423207666416102355444464034512896 * c3) + 115792089237316195423570985008687907853269984665640564039457584007913129639936 * m4 := by omega
theorem sr_key {c0 c1 c2 c3 c4 D t : Nat} (ht : t ≤ 64) (g0 : c0 < 18446744073709551616) (g1 : c1 < 18446744073709551616) (g2 : c2 < 18446744073709551616) (g3 : c3 < 18446744073709551616) :
    (c0 + 18446744073709551616 * c1 + 340282366920938463463374607431768211456 * c2 + 6277101735386680763835789423207666416102355444464034512896 * c3 + 115792089237316195423570985008687907853269984665640564039457584007913129639936 * (c4 + 18446744073709551616 * D)) / 2 ^ t % 115792089237316195423570985008687907853269984665640564039457584007913129639936 = sr1 c0 c1 t + 18446744073709551616 * sr1 c1 c2 t + 340282366920938463463374607431768211456 * sr1 c2 c3 t + 6277101735386680763835789423207666416102355444464034512896 * sr1 c3 c4 t := by
  have e : 2 ^ t * 2 ^ (64 - t) = 18446744073709551616 := by rw [Nat.mul_comm, pow64 ht]
  have hp := Nat.two_pow_pos t
  have k := sr_sum (sr1_mul (b := c0) c1 ht) (sr1_mul (b := c1) c2 ht) (sr1_mul (b := c2) c3 ht) (sr1_mul (b := c3) c4 ht) (c4 := c4) (w0 := 0) (w1 := 0) (w2 := 0) (w3 := 0) (T := 0)
  have hR := lt4 (sr1_lt (a := c1) ht g0) (sr1_lt (a := c2) ht g1) (sr1_lt (a := c3) ht g2) (sr1_lt (a := c4) ht g3)
  have k1 : 2 ^ t * sr1 c0 c1 t + 18446744073709551616 * (2 ^ t * sr1 c1 c2 t) + 340282366920938463463374607431768211456 * (2 ^ t * sr1 c2 c3 t) + 6277101735386680763835789423207666416102355444464034512896 * (2 ^ t * sr1 c3 c4 t) = 2 ^ t * (sr1 c0 c1 t + 18446744073709551616 * sr1 c1 c2 t + 340282366920938463463374607431768211456 * sr1 c2 c3 t + 6277101735386680763835789423207666416102355444464034512896 * sr1 c3 c4 t) := by
    rw [Nat.mul_comm (2 ^ t) (_ + _), mul4, Nat.mul_comm (sr1 c0 c1 t), Nat.mul_comm (sr1 c1 c2 t), Nat.mul_comm (sr1 c2 c3 t), Nat.mul_comm (sr1 c3 c4 t)]
  rw [k1] at k
  generalize hRR : sr1 c0 c1 t + 18446744073709551616 * sr1 c1 c2 t + 340282366920938463463374607431768211456 * sr1 c2 c3 t + 6277101735386680763835789423207666416102355444464034512896 * sr1 c3 c4 t = R at *
  have d4 := Nat.div_add_mod c4 (2 ^ t)
  have key : c0 + 18446744073709551616 * c1 + 340282366920938463463374607431768211456 * c2 + 6277101735386680763835789423207666416102355444464034512896 * c3 + 115792089237316195423570985008687907853269984665640564039457584007913129639936 * (c4 + 18446744073709551616 * D) = 2 ^ t * (R + 115792089237316195423570985008687907853269984665640564039457584007913129639936 * (c4 / 2 ^ t + 2 ^ (64 - t) * D)) + c0 % 2 ^ t := by
    have f1 : 2 ^ t * (R + 115792089237316195423570985008687907853269984665640564039457584007913129639936 * (c4 / 2 ^ t + 2 ^ (64 - t) * D)) = 2 ^ t * R + 115792089237316195423570985008687907853269984665640564039457584007913129639936 * (2 ^ t * (c4 / 2 ^ t)) + 115792089237316195423570985008687907853269984665640564039457584007913129639936 * (18446744073709551616 * D) := by
      rw [Nat.mul_add, Nat.mul_left_comm, Nat.mul_add, ← Nat.mul_assoc (2 ^ t) (2 ^ (64 - t)) D, e, Nat.mul_add, Nat.add_assoc]
    rw [f1, Nat.mul_add]
    have f2 : 115792089237316195423570985008687907853269984665640564039457584007913129639936 * c4 = 115792089237316195423570985008687907853269984665640564039457584007913129639936 * (2 ^ t * (c4 / 2 ^ t)) + 115792089237316195423570985008687907853269984665640564039457584007913129639936 * (c4 % 2 ^ t) := by rw [← Nat.mul_add, d4]
    omega
  have hm := Nat.mod_lt c0 hp
  rw [key, Nat.mul_add_div hp, Nat.div_eq_of_lt hm, Nat.add_zero, Nat.add_mul_mod_self_left, Nat.mod_eq_of_lt hR]
theorem sr_fill {t f : Nat} (ht : t ≤ 64) (hf : f = 0 ∨ f = 18446744073709551615) : sr1 f f t = f := by
  rcases hf with rfl | rfl
  · simp [sr1]
  · have h := sr1_mul (b := 18446744073709551615) 18446744073709551615 ht
    have e : 2 ^ t * 2 ^ (64 - t) = 18446744073709551616 := by rw [Nat.mul_comm, pow64 ht]
    have hp := Nat.two_pow_pos t
    have hl := sr1_lt (t := t) (a := 18446744073709551615) (b := 18446744073709551615) ht (by omega)
    rw [sr1, sr_hi _ ht]
    have m1 : 18446744073709551615 % 2 ^ t = 2 ^ t - 1 := by
      have : 18446744073709551615 = 2 ^ t * (2 ^ (64 - t) - 1) + (2 ^ t - 1) := by
        have h64 := Nat.two_pow_pos (64 - t)
        rw [Nat.mul_sub, e, Nat.mul_one]
        have : 2 ^ t ≤ 18446744073709551616 := by rw [← e]; exact Nat.le_mul_of_pos_right _ h64
        omega
      rw [this, Nat.mul_add_mod, Nat.mod_eq_of_lt (by omega)]
    have m2 : 18446744073709551615 / 2 ^ t = 2 ^ (64 - t) - 1 := by
      have := Nat.div_add_mod 18446744073709551615 (2 ^ t)
      rw [m1] at this
      have h64 := Nat.two_pow_pos (64 - t)
      have h2 : 2 ^ t * (18446744073709551615 / 2 ^ t) = 2 ^ t * (2 ^ (64 - t) - 1) := by
        rw [Nat.mul_sub, e, Nat.mul_one]
        have : 2 ^ t ≤ 18446744073709551616 := by rw [← e]; exact Nat.le_mul_of_pos_right _ h64
        omega
      exact Nat.eq_of_mul_eq_mul_left hp h2
    rw [m1, m2, Nat.sub_mul, Nat.one_mul, e]
    have h64 := Nat.two_pow_pos (64 - t)
    have : 2 ^ (64 - t) ≤ 18446744073709551616 := by rw [← e]; exact Nat.le_mul_of_pos_left _ hp
    omega
theorem dnK0 {b0 b1 b2 b3 f t : Nat} (ht : t < 64) (hf : f = 0 ∨ f = 18446744073709551615) (g0 : b0 < 18446744073709551616) (g1 : b1 < 18446744073709551616) (g2 : b2 < 18446744073709551616) (g3 : b3 < 18446744073709551616) : WV (sr1 b0 b1 t) (sr1 b1 b2 t) (sr1 b2 b3 t) (sr1 b3 f t) = wordV ((b0 + 18446744073709551616 * b1 + 340282366920938463463374607431768211456 * b2 + 6277101735386680763835789423207666416102355444464034512896 * b3 + 115792089237316195423570985008687907853269984665640564039457584007913129639936 * (f + 18446744073709551616 * f + 340282366920938463463374607431768211456 * f + 6277101735386680763835789423207666416102355444464034512896 * f)) / 2 ^ (64 * 0 + t) % 115792089237316195423570985008687907853269984665640564039457584007913129639936) := by
  have hfl : f < 18446744073709551616 := by omega
  refine WV_eq (sr1_lt (by omega) g0) (sr1_lt (by omega) g1) (sr1_lt (by omega) g2) (sr1_lt (by omega) g3) ?_
  rw [Nat.mul_zero, Nat.zero_add]
  have hB : (b0 + 18446744073709551616 * b1 + 340282366920938463463374607431768211456 * b2 + 6277101735386680763835789423207666416102355444464034512896 * b3 + 115792089237316195423570985008687907853269984665640564039457584007913129639936 * (f + 18446744073709551616 * f + 340282366920938463463374607431768211456 * f + 6277101735386680763835789423207666416102355444464034512896 * f)) = b0 + 18446744073709551616 * b1 + 340282366920938463463374607431768211456 * b2 + 6277101735386680763835789423207666416102355444464034512896 * b3 + 115792089237316195423570985008687907853269984665640564039457584007913129639936 * (f + 18446744073709551616 * (f + 18446744073709551616 * f + 340282366920938463463374607431768211456 * f)) := by omega
  rw [hB, sr_key (by omega) g0 g1 g2 g3]
theorem dnK1 {b0 b1 b2 b3 f t : Nat} (ht : t < 64) (hf : f = 0 ∨ f = 18446744073709551615) (g0 : b0 < 18446744073709551616) (g1 : b1 < 18446744073709551616) (g2 : b2 < 18446744073709551616) (g3 : b3 < 18446744073709551616) : WV (sr1 b1 b2 t) (sr1 b2 b3 t) (sr1 b3 f t) (f) = wordV ((b0 + 18446744073709551616 * b1 + 340282366920938463463374607431768211456 * b2 + 6277101735386680763835789423207666416102355444464034512896 * b3 + 115792089237316195423570985008687907853269984665640564039457584007913129639936 * (f + 18446744073709551616 * f + 340282366920938463463374607431768211456 * f + 6277101735386680763835789423207666416102355444464034512896 * f)) / 2 ^ (64 * 1 + t) % 115792089237316195423570985008687907853269984665640564039457584007913129639936) := by
  have hfl : f < 18446744073709551616 := by omega
  refine WV_eq (sr1_lt (by omega) g1) (sr1_lt (by omega) g2) (sr1_lt (by omega) g3) hfl ?_
  rw [pw1, Nat.mul_comm (2 ^ t), ← Nat.div_div_eq_div_mul]
  have hB : (b0 + 18446744073709551616 * b1 + 340282366920938463463374607431768211456 * b2 + 6277101735386680763835789423207666416102355444464034512896 * b3 + 115792089237316195423570985008687907853269984665640564039457584007913129639936 * (f + 18446744073709551616 * f + 340282366920938463463374607431768211456 * f + 6277101735386680763835789423207666416102355444464034512896 * f)) / 18446744073709551616 = b1 + 18446744073709551616 * b2 + 340282366920938463463374607431768211456 * b3 + 6277101735386680763835789423207666416102355444464034512896 * f + 115792089237316195423570985008687907853269984665640564039457584007913129639936 * (f + 18446744073709551616 * (f + 18446744073709551616 * f)) := by omega
  rw [hB, sr_key (by omega) g1 g2 g3 hfl, sr_fill (by omega) hf]
theorem dnK2 {b0 b1 b2 b3 f t : Nat} (ht : t < 64) (hf : f = 0 ∨ f = 18446744073709551615) (g0 : b0 < 18446744073709551616) (g1 : b1 < 18446744073709551616) (g2 : b2 < 18446744073709551616) (g3 : b3 < 18446744073709551616) : WV (sr1 b2 b3 t) (sr1 b3 f t) (f) (f) = wordV ((b0 + 18446744073709551616 * b1 + 340282366920938463463374607431768211456 * b2 + 6277101735386680763835789423207666416102355444464034512896 * b3 + 115792089237316195423570985008687907853269984665640564039457584007913129639936 * (f + 18446744073709551616 * f + 340282366920938463463374607431768211456 * f + 6277101735386680763835789423207666416102355444464034512896 * f)) / 2 ^ (64 * 2 + t) % 115792089237316195423570985008687907853269984665640564039457584007913129639936) := by
  have hfl : f < 18446744073709551616 := by omega
  refine WV_eq (sr1_lt (by omega) g2) (sr1_lt (by omega) g3) hfl hfl ?_
  rw [pw2, Nat.mul_comm (2 ^ t), ← Nat.div_div_eq_div_mul]
  have hB : (b0 + 18446744073709551616 * b1 + 340282366920938463463374607431768211456 * b2 + 6277101735386680763835789423207666416102355444464034512896 * b3 + 115792089237316195423570985008687907853269984665640564039457584007913129639936 * (f + 18446744073709551616 * f + 340282366920938463463374607431768211456 * f + 6277101735386680763835789423207666416102355444464034512896 * f)) / 340282366920938463463374607431768211456 = b2 + 18446744073709551616 * b3 + 340282366920938463463374607431768211456 * f + 6277101735386680763835789423207666416102355444464034512896 * f + 115792089237316195423570985008687907853269984665640564039457584007913129639936 * (f + 18446744073709551616 * (f)) := by omega
  rw [hB, sr_key (by omega) g2 g3 hfl hfl, sr_fill (by omega) hf]
theorem dnK3 {b0 b1 b2 b3 f t : Nat} (ht : t < 64) (hf : f = 0 ∨ f = 18446744073709551615) (g0 : b0 < 18446744073709551616) (g1 : b1 < 18446744073709551616) (g2 : b2 < 18446744073709551616) (g3 : b3 < 18446744073709551616) : WV (sr1 b3 f t) (f) (f) (f) = wordV ((b0 + 18446744073709551616 * b1 + 340282366920938463463374607431768211456 * b2 + 6277101735386680763835789423207666416102355444464034512896 * b3 + 115792089237316195423570985008687907853269984665640564039457584007913129639936 * (f + 18446744073709551616 * f + 340282366920938463463374607431768211456 * f + 6277101735386680763835789423207666416102355444464034512896 * f)) / 2 ^ (64 * 3 + t) % 115792089237316195423570985008687907853269984665640564039457584007913129639936) := by
  have hfl : f < 18446744073709551616 := by omega
  refine WV_eq (sr1_lt (by omega) g3) hfl hfl hfl ?_
  rw [pw3, Nat.mul_comm (2 ^ t), ← Nat.div_div_eq_div_mul]
  have hB : (b0 + 18446744073709551616 * b1 + 340282366920938463463374607431768211456 * b2 + 6277101735386680763835789423207666416102355444464034512896 * b3 + 115792089237316195423570985008687907853269984665640564039457584007913129639936 * (f + 18446744073709551616 * f + 340282366920938463463374607431768211456 * f + 6277101735386680763835789423207666416102355444464034512896 * f)) / 6277101735386680763835789423207666416102355444464034512896 = b3 + 18446744073709551616 * f + 340282366920938463463374607431768211456 * f + 6277101735386680763835789423207666416102355444464034512896 * f + 115792089237316195423570985008687907853269984665640564039457584007913129639936 * (f + 18446744073709551616 * (0)) := by omega
  rw [hB, sr_key (by omega) g3 hfl hfl hfl, sr_fill (by omega) hf]

/-- u256.down -/
theorem Udown_spec {S : St} {a b f : Nat} (ha : a < 115792089237316195423570985008687907853269984665640564039457584007913129639936) (hb : b < 115792089237316195423570985008687907853269984665640564039457584007913129639936) (hf : f = 0 ∨ f = 18446744073709551615) :
    CallG Hvaf.prog 390 #[wordV a, wordV b, .int .u64 (f : Nat)] S fun r S' => S = S' ∧ r = wordV (if a < 256 then (b + 115792089237316195423570985008687907853269984665640564039457584007913129639936 * (f + 18446744073709551616 * f + 340282366920938463463374607431768211456 * f + 6277101735386680763835789423207666416102355444464034512896 * f)) / 2 ^ a % 115792089237316195423570985008687907853269984665640564039457584007913129639936 else f + 18446744073709551616 * f + 340282366920938463463374607431768211456 * f + 6277101735386680763835789423207666416102355444464034512896 * f) := by
  obtain ⟨b0, b1, b2, b3, g0, g1, g2, g3, eb, vb⟩ := word_cases hb
  rw [vb]
  clear vb hb
  replace ha : Hid _ := ⟨ha⟩
  have hfl : f < 18446744073709551616 := by omega
  refine CallG.start (C := mkC Hvaf.prog) cok (args := [wordV a, WV b0 b1 b2 b3, .int .u64 (f : Nat)]) Hvaf.func390 rfl Hvaf.ntmps390 (by simp) (by kernel_rfl) ?_
  intro xa xb xr
  repeat (first | refine SeqS.go cok ?_ | refine And.intro (fillOk_of (Eq.refl true)) ?_)
  intro xw
  repeat (first | refine SeqS.go cok ?_ | (refine QuG.keep ?_; first | refine QuG.lN cok 3 rfl rfl rfl rfl rfl (by first | exact Nat.le_of_ble_eq_true rfl | omega | (dsimp only; omega) | (simp only [addS_eq, mulS_eq]; omega)) ?_) | (refine OpG.keep ?_; first | refine OpG.sL cok 0 rfl rfl rfl rfl rfl rfl rfl (by first | exact Nat.le_of_ble_eq_true rfl | omega | (dsimp only; omega) | (simp only [addS_eq, mulS_eq]; omega)) ?_))
  refine (Ubelow_spec (n := 256) ha.out (by omega)).mono ?_
  rintro r _ - ⟨rfl, x, rfl, hx⟩
  by_cases hs : a < 256
  · rw [if_pos hs]
    have := (hx hs).symm
    subst this
    have hcs : a / 64 = 0 ∨ a / 64 = 1 ∨ a / 64 = 2 ∨ a / 64 = 3 := by omega
    rcases hcs with hk | hk | hk | hk
    · obtain ⟨t, rfl, ht⟩ : ∃ t, a = 64 * 0 + t ∧ t < 64 := ⟨a - 64 * 0, by omega, by omega⟩
      have hT : 2 ^ (64 - t) ≤ 2 ^ 64 := Nat.pow_le_pow_right (by omega) (by omega)
      have q0 := sr_lo (t := t) (by omega) g0
      have q1 := sr_lo (t := t) (by omega) g1
      have q2 := sr_lo (t := t) (by omega) g2
      have q3 := sr_lo (t := t) (by omega) g3
      repeat (first | (refine ValS.keep ?_; first | with_reducible refine ValS.quoK 0 (by omega) (by omega) ?_) | refine SeqS.go cok ?_ | refine And.intro (by omega) ?_ | (refine CondS.keep ?_; first | refine CondS.nd0 rfl (by omega) ?_))
      refine W.rounds cok (by kernel_rfl) 5 ?_
      repeat (first | (refine ValS.keep ?_; first | with_reducible refine ValS.quoK 0 (by omega) (by omega) ?_ | with_reducible refine ValS.remK t (by omega) ?_) | refine SeqS.go cok ?_ | refine CondS.t rfl ?_ | refine CondS.f rfl ?_ | refine And.intro (by omega) ?_ | refine And.intro (by dsimp only; omega) ?_ | (refine NatS.keep ?_; first | with_reducible refine NatS.nat ?_) | (refine ValS.keep ?_; first | (with_reducible refine ValS.kU64 ?_; first | (with_reducible refine ValS.orFU64 ?_ ?_ (fun _ => ?_); omega; omega) | (with_reducible refine ValS.addU64_L ?_ ?_ ; omega) | (with_reducible refine ValS.subU64 ?_ ?_ ?_ ; omega; omega) | (with_reducible refine ValS.subU64_M ?_ ?_ ?_ ; omega; omega) | (with_reducible refine ValS.shrU64 ?_ ?_ ; omega) | (with_reducible refine ValS.shlWU64 ?_ ?_ ; omega))) | (refine QuG.keep ?_; first | refine QuG.l1 cok 2 rfl rfl rfl rfl rfl (by first | exact Nat.le_of_ble_eq_true rfl | omega | (dsimp only; omega) | (simp only [addS_eq, mulS_eq]; omega)) ?_ | refine QuG.lN cok 0 rfl rfl rfl rfl rfl (by first | exact Nat.le_of_ble_eq_true rfl | omega | (dsimp only; omega) | (simp only [addS_eq, mulS_eq]; omega)) ?_) | (refine LdG.keep ?_; first | refine LdG.lN cok 1 rfl rfl rfl rfl rfl (by first | exact Nat.le_of_ble_eq_true rfl | omega | (dsimp only; omega) | (simp only [addS_eq, mulS_eq]; omega)) ?_) | (refine OpG.keep ?_; first | refine OpG.s1 cok 0 rfl rfl rfl rfl rfl (by first | exact Nat.le_of_ble_eq_true rfl | omega | (dsimp only; omega) | (simp only [addS_eq, mulS_eq]; omega)) rfl rfl ?_ | refine OpG.sL cok 1 rfl rfl rfl rfl rfl rfl rfl (by first | exact Nat.le_of_ble_eq_true rfl | omega | (dsimp only; omega) | (simp only [addS_eq, mulS_eq]; omega)) ?_))
      obtain ⟨rfl⟩ := eb
      refine Fin.drop S.G [_, _, _, _] ⟨rfl, tW rfl (Eq.trans ?_ (dnK0 ht hf g0 g1 g2 g3))⟩
      simp only [sr_or _ (Nat.le_of_lt ht) g0, sr_or _ (Nat.le_of_lt ht) g1, sr_or _ (Nat.le_of_lt ht) g2, sr_or _ (Nat.le_of_lt ht) g3]
    · obtain ⟨t, rfl, ht⟩ : ∃ t, a = 64 * 1 + t ∧ t < 64 := ⟨a - 64 * 1, by omega, by omega⟩
      have hT : 2 ^ (64 - t) ≤ 2 ^ 64 := Nat.pow_le_pow_right (by omega) (by omega)
      have q0 := sr_lo (t := t) (by omega) g0
      have q1 := sr_lo (t := t) (by omega) g1
      have q2 := sr_lo (t := t) (by omega) g2
      have q3 := sr_lo (t := t) (by omega) g3
      repeat (first | (refine ValS.keep ?_; first | with_reducible refine ValS.quoK 1 (by omega) (by omega) ?_) | refine SeqS.go cok ?_ | refine And.intro (by omega) ?_ | (refine CondS.keep ?_; first | refine CondS.nd0 rfl (by omega) ?_))
      refine W.rounds cok (by kernel_rfl) 5 ?_
      repeat (first | (refine ValS.keep ?_; first | with_reducible refine ValS.quoK 1 (by omega) (by omega) ?_ | with_reducible refine ValS.remK t (by omega) ?_) | refine SeqS.go cok ?_ | refine CondS.t rfl ?_ | refine CondS.f rfl ?_ | refine And.intro (by omega) ?_ | refine And.intro (by dsimp only; omega) ?_ | (refine NatS.keep ?_; first | with_reducible refine NatS.nat ?_) | (refine ValS.keep ?_; first | (with_reducible refine ValS.kU64 ?_; first | (with_reducible refine ValS.orFU64 ?_ ?_ (fun _ => ?_); omega; omega) | (with_reducible refine ValS.addU64_L ?_ ?_ ; omega) | (with_reducible refine ValS.subU64 ?_ ?_ ?_ ; omega; omega) | (with_reducible refine ValS.subU64_M ?_ ?_ ?_ ; omega; omega) | (with_reducible refine ValS.shrU64 ?_ ?_ ; omega) | (with_reducible refine ValS.shlWU64 ?_ ?_ ; omega))) | (refine QuG.keep ?_; first | refine QuG.l1 cok 2 rfl rfl rfl rfl rfl (by first | exact Nat.le_of_ble_eq_true rfl | omega | (dsimp only; omega) | (simp only [addS_eq, mulS_eq]; omega)) ?_ | refine QuG.lN cok 0 rfl rfl rfl rfl rfl (by first | exact Nat.le_of_ble_eq_true rfl | omega | (dsimp only; omega) | (simp only [addS_eq, mulS_eq]; omega)) ?_) | (refine LdG.keep ?_; first | refine LdG.lN cok 1 rfl rfl rfl rfl rfl (by first | exact Nat.le_of_ble_eq_true rfl | omega | (dsimp only; omega) | (simp only [addS_eq, mulS_eq]; omega)) ?_) | (refine OpG.keep ?_; first | refine OpG.s1 cok 0 rfl rfl rfl rfl rfl (by first | exact Nat.le_of_ble_eq_true rfl | omega | (dsimp only; omega) | (simp only [addS_eq, mulS_eq]; omega)) rfl rfl ?_ | refine OpG.sL cok 1 rfl rfl rfl rfl rfl rfl rfl (by first | exact Nat.le_of_ble_eq_true rfl | omega | (dsimp only; omega) | (simp only [addS_eq, mulS_eq]; omega)) ?_))
      obtain ⟨rfl⟩ := eb
      refine Fin.drop S.G [_, _, _, _] ⟨rfl, tW rfl (Eq.trans ?_ (dnK1 ht hf g0 g1 g2 g3))⟩
      simp only [sr_or _ (Nat.le_of_lt ht) g0, sr_or _ (Nat.le_of_lt ht) g1, sr_or _ (Nat.le_of_lt ht) g2, sr_or _ (Nat.le_of_lt ht) g3]
    · obtain ⟨t, rfl, ht⟩ : ∃ t, a = 64 * 2 + t ∧ t < 64 := ⟨a - 64 * 2, by omega, by omega⟩
      have hT : 2 ^ (64 - t) ≤ 2 ^ 64 := Nat.pow_le_pow_right (by omega) (by omega)
      have q0 := sr_lo (t := t) (by omega) g0
      have q1 := sr_lo (t := t) (by omega) g1
      have q2 := sr_lo (t := t) (by omega) g2
      have q3 := sr_lo (t := t) (by omega) g3
      repeat (first | (refine ValS.keep ?_; first | with_reducible refine ValS.quoK 2 (by omega) (by omega) ?_) | refine SeqS.go cok ?_ | refine And.intro (by omega) ?_ | (refine CondS.keep ?_; first | refine CondS.nd0 rfl (by omega) ?_))
      refine W.rounds cok (by kernel_rfl) 5 ?_
      repeat (first | (refine ValS.keep ?_; first | with_reducible refine ValS.quoK 2 (by omega) (by omega) ?_ | with_reducible refine ValS.remK t (by omega) ?_) | refine SeqS.go cok ?_ | refine CondS.t rfl ?_ | refine CondS.f rfl ?_ | refine And.intro (by omega) ?_ | refine And.intro (by dsimp only; omega) ?_ | (refine NatS.keep ?_; first | with_reducible refine NatS.nat ?_) | (refine ValS.keep ?_; first | (with_reducible refine ValS.kU64 ?_; first | (with_reducible refine ValS.orFU64 ?_ ?_ (fun _ => ?_); omega; omega) | (with_reducible refine ValS.addU64_L ?_ ?_ ; omega) | (with_reducible refine ValS.subU64 ?_ ?_ ?_ ; omega; omega) | (with_reducible refine ValS.subU64_M ?_ ?_ ?_ ; omega; omega) | (with_reducible refine ValS.shrU64 ?_ ?_ ; omega) | (with_reducible refine ValS.shlWU64 ?_ ?_ ; omega))) | (refine QuG.keep ?_; first | refine QuG.l1 cok 2 rfl rfl rfl rfl rfl (by first | exact Nat.le_of_ble_eq_true rfl | omega | (dsimp only; omega) | (simp only [addS_eq, mulS_eq]; omega)) ?_ | refine QuG.lN cok 0 rfl rfl rfl rfl rfl (by first | exact Nat.le_of_ble_eq_true rfl | omega | (dsimp only; omega) | (simp only [addS_eq, mulS_eq]; omega)) ?_) | (refine LdG.keep ?_; first | refine LdG.lN cok 1 rfl rfl rfl rfl rfl (by first | exact Nat.le_of_ble_eq_true rfl | omega | (dsimp only; omega) | (simp only [addS_eq, mulS_eq]; omega)) ?_) | (refine OpG.keep ?_; first | refine OpG.s1 cok 0 rfl rfl rfl rfl rfl (by first | exact Nat.le_of_ble_eq_true rfl | omega | (dsimp only; omega) | (simp only [addS_eq, mulS_eq]; omega)) rfl rfl ?_ | refine OpG.sL cok 1 rfl rfl rfl rfl rfl rfl rfl (by first | exact Nat.le_of_ble_eq_true rfl | omega | (dsimp only; omega) | (simp only [addS_eq, mulS_eq]; omega)) ?_))
      obtain ⟨rfl⟩ := eb
      refine Fin.drop S.G [_, _, _, _] ⟨rfl, tW rfl (Eq.trans ?_ (dnK2 ht hf g0 g1 g2 g3))⟩
      simp only [sr_or _ (Nat.le_of_lt ht) g0, sr_or _ (Nat.le_of_lt ht) g1, sr_or _ (Nat.le_of_lt ht) g2, sr_or _ (Nat.le_of_lt ht) g3]
    · obtain ⟨t, rfl, ht⟩ : ∃ t, a = 64 * 3 + t ∧ t < 64 := ⟨a - 64 * 3, by omega, by omega⟩
      have hT : 2 ^ (64 - t) ≤ 2 ^ 64 := Nat.pow_le_pow_right (by omega) (by omega)
      have q0 := sr_lo (t := t) (by omega) g0
      have q1 := sr_lo (t := t) (by omega) g1
      have q2 := sr_lo (t := t) (by omega) g2
      have q3 := sr_lo (t := t) (by omega) g3
      repeat (first | (refine ValS.keep ?_; first | with_reducible refine ValS.quoK 3 (by omega) (by omega) ?_) | refine SeqS.go cok ?_ | refine And.intro (by omega) ?_ | (refine CondS.keep ?_; first | refine CondS.nd0 rfl (by omega) ?_))
      refine W.rounds cok (by kernel_rfl) 5 ?_
      repeat (first | (refine ValS.keep ?_; first | with_reducible refine ValS.quoK 3 (by omega) (by omega) ?_ | with_reducible refine ValS.remK t (by omega) ?_) | refine SeqS.go cok ?_ | refine CondS.t rfl ?_ | refine CondS.f rfl ?_ | refine And.intro (by omega) ?_ | refine And.intro (by dsimp only; omega) ?_ | (refine NatS.keep ?_; first | with_reducible refine NatS.nat ?_) | (refine ValS.keep ?_; first | (with_reducible refine ValS.kU64 ?_; first | (with_reducible refine ValS.orFU64 ?_ ?_ (fun _ => ?_); omega; omega) | (with_reducible refine ValS.addU64_L ?_ ?_ ; omega) | (with_reducible refine ValS.subU64 ?_ ?_ ?_ ; omega; omega) | (with_reducible refine ValS.subU64_M ?_ ?_ ?_ ; omega; omega) | (with_reducible refine ValS.shrU64 ?_ ?_ ; omega) | (with_reducible refine ValS.shlWU64 ?_ ?_ ; omega))) | (refine QuG.keep ?_; first | refine QuG.l1 cok 2 rfl rfl rfl rfl rfl (by first | exact Nat.le_of_ble_eq_true rfl | omega | (dsimp only; omega) | (simp only [addS_eq, mulS_eq]; omega)) ?_ | refine QuG.lN cok 0 rfl rfl rfl rfl rfl (by first | exact Nat.le_of_ble_eq_true rfl | omega | (dsimp only; omega) | (simp only [addS_eq, mulS_eq]; omega)) ?_) | (refine LdG.keep ?_; first | refine LdG.lN cok 1 rfl rfl rfl rfl rfl (by first | exact Nat.le_of_ble_eq_true rfl | omega | (dsimp only; omega) | (simp only [addS_eq, mulS_eq]; omega)) ?_) | (refine OpG.keep ?_; first | refine OpG.s1 cok 0 rfl rfl rfl rfl rfl (by first | exact Nat.le_of_ble_eq_true rfl | omega | (dsimp only; omega) | (simp only [addS_eq, mulS_eq]; omega)) rfl rfl ?_ | refine OpG.sL cok 1 rfl rfl rfl rfl rfl rfl rfl (by first | exact Nat.le_of_ble_eq_true rfl | omega | (dsimp only; omega) | (simp only [addS_eq, mulS_eq]; omega)) ?_))
      obtain ⟨rfl⟩ := eb
      refine Fin.drop S.G [_, _, _, _] ⟨rfl, tW rfl (Eq.trans ?_ (dnK3 ht hf g0 g1 g2 g3))⟩
      simp only [sr_or _ (Nat.le_of_lt ht) g0, sr_or _ (Nat.le_of_lt ht) g1, sr_or _ (Nat.le_of_lt ht) g2, sr_or _ (Nat.le_of_lt ht) g3]
  · rw [if_neg hs]
    repeat (first | refine SeqS.go cok ?_ | (refine QuG.keep ?_; first | refine QuG.lN cok 0 rfl rfl rfl rfl rfl (by first | exact Nat.le_of_ble_eq_true rfl | omega | (dsimp only; omega) | (simp only [addS_eq, mulS_eq]; omega)) ?_) | (refine LdG.keep ?_; first | refine LdG.lN cok 1 rfl rfl rfl rfl rfl (by first | exact Nat.le_of_ble_eq_true rfl | omega | (dsimp only; omega) | (simp only [addS_eq, mulS_eq]; omega)) ?_) | (refine OpG.keep ?_; first | refine OpG.sL cok 1 rfl rfl rfl rfl rfl rfl rfl (by first | exact Nat.le_of_ble_eq_true rfl | omega | (dsimp only; omega) | (simp only [addS_eq, mulS_eq]; omega)) ?_) | (refine CondS.keep ?_; first | refine CondS.nd1 rfl (by omega) ?_))
    exact Fin.drop S.G [_, _, _, _] ⟨rfl, tW rfl (WV_eq hfl hfl hfl hfl rfl)⟩
end Go.Proofs.YgvafwGreat
