import Derived.Test.YgvafwGreatU4
set_option maxRecDepth 100000
set_option maxHeartbeats 4000000
set_option linter.unusedVariables false
set_option linter.unusedSimpArgs false
-- v2
namespace Go.Proofs.YgvafwGreat
open Go.HL Go.Proofs

theorem _root_.Go.HL.ValS.quoK {a n : Nat} {q : Value → Prop} (k : Nat) (h : a / (OfNat.ofNat n : Nat) = k) (ha : a < 18446744073709551616) (hq : q (.int .u64 (k : Nat))) : ValS (.int .u64 (IntKind.wrap .u64 ((a : Int).tdiv (OfNat.ofNat n : Int)))) q := ValS.quoU64_L ha (by rw [h]; exact hq)
theorem _root_.Go.HL.ValS.remK {a n : Nat} {q : Value → Prop} (k : Nat) (h : a % (OfNat.ofNat n : Nat) = k) (hq : q (.int .u64 (k : Nat))) : ValS (.int .u64 ((a : Int).tmod (OfNat.ofNat n : Int))) q := ValS.remN_L (by rw [h]; exact hq)

theorem pow64 {t : Nat} (ht : t ≤ 64) : (2 : Nat) ^ (64 - t) * 2 ^ t = 18446744073709551616 := by rw [← Nat.pow_add, show 64 - t + t = 64 by omega]
theorem shl_or {t x : Nat} (b : Nat) (ht : t ≤ 64) (hx : x < 2 ^ t) : (b * 2 ^ t % 18446744073709551616) ||| x = b * 2 ^ t % 18446744073709551616 + x := by
  have e := pow64 ht
  rw [← e, Nat.mul_mod_mul_right, shift_or _ hx]
theorem shl_rel {t : Nat} (b : Nat) (ht : t ≤ 64) : b * 2 ^ t % 18446744073709551616 + 18446744073709551616 * (b / 2 ^ (64 - t)) = b * 2 ^ t := by
  have e := pow64 ht
  have h : b * 2 ^ t / 18446744073709551616 = b / 2 ^ (64 - t) := by rw [← e, Nat.mul_div_mul_right _ _ (Nat.two_pow_pos t)]
  rw [← h, Nat.add_comm]; exact Nat.div_add_mod _ _
theorem shl_hi {t b : Nat} (ht : t ≤ 64) (hb : b < 18446744073709551616) : b / 2 ^ (64 - t) < 2 ^ t := by
  rw [Nat.div_lt_iff_lt_mul (Nat.two_pow_pos _), Nat.mul_comm, pow64 ht]; exact hb
theorem shl_lo {t : Nat} (b : Nat) (ht : t ≤ 64) : b * 2 ^ t % 18446744073709551616 + 2 ^ t ≤ 18446744073709551616 := by
  have e := pow64 ht
  have h : b * 2 ^ t % 18446744073709551616 = (b % 2 ^ (64 - t)) * 2 ^ t := by rw [← e, Nat.mul_mod_mul_right]
  have h2 := Nat.mod_lt b (Nat.two_pow_pos (64 - t))
  have h3 : (b % 2 ^ (64 - t) + 1) * 2 ^ t ≤ 2 ^ (64 - t) * 2 ^ t := Nat.mul_le_mul_right _ h2
  rw [e, Nat.add_mul, Nat.one_mul] at h3
  rw [h]; exact h3

/-- A limb of a word shifted up. -/
def sl1 (b a t : Nat) : Nat := b * 2 ^ t % 18446744073709551616 + a / 2 ^ (64 - t)
theorem sl1_lt {a b t : Nat} (ht : t ≤ 64) (ha : a < 18446744073709551616) : sl1 b a t < 18446744073709551616 := by
  have h1 := shl_lo b ht
  have h2 := shl_hi ht ha
  unfold sl1; omega
theorem shl4 {p0 p1 p2 p3 l0 l1 l2 l3 h0 h1 h2 h3 : Nat} (e0 : l0 + 18446744073709551616 * h0 = p0) (e1 : l1 + 18446744073709551616 * h1 = p1) (e2 : l2 + 18446744073709551616 * h2 = p2) (e3 : l3 + 18446744073709551616 * h3 = p3) :
    p0 + 18446744073709551616 * p1 + 340282366920938463463374607431768211456 * p2 + 6277101735386680763835789423207666416102355444464034512896 * p3 = (l0 + 18446744073709551616 * (l1 + h0) + 340282366920938463463374607431768211456 * (l2 + h1) + 6277101735386680763835789423207666416102355444464034512896 * (l3 + h2)) + 115792089237316195423570985008687907853269984665640564039457584007913129639936 * h3 := by omega
theorem shl4m {p0 p1 p2 p3 l0 l1 l2 l3 h0 h1 h2 h3 : Nat} (e0 : l0 + 18446744073709551616 * h0 = p0) (e1 : l1 + 18446744073709551616 * h1 = p1) (e2 : l2 + 18446744073709551616 * h2 = p2) (e3 : l3 + 18446744073709551616 * h3 = p3) :
    (p0 + 18446744073709551616 * p1 + 340282366920938463463374607431768211456 * p2 + 6277101735386680763835789423207666416102355444464034512896 * p3) * 18446744073709551616 = (0 + 18446744073709551616 * l0 + 340282366920938463463374607431768211456 * (l1 + h0) + 6277101735386680763835789423207666416102355444464034512896 * (l2 + h1)) + 115792089237316195423570985008687907853269984665640564039457584007913129639936 * (l3 + h2 + 18446744073709551616 * h3) := by omega
theorem shl4n {p0 p1 p2 p3 l0 l1 l2 l3 h0 h1 h2 h3 : Nat} (e0 : l0 + 18446744073709551616 * h0 = p0) (e1 : l1 + 18446744073709551616 * h1 = p1) (e2 : l2 + 18446744073709551616 * h2 = p2) (e3 : l3 + 18446744073709551616 * h3 = p3) :
    (p0 + 18446744073709551616 * p1 + 340282366920938463463374607431768211456 * p2 + 6277101735386680763835789423207666416102355444464034512896 * p3) * 340282366920938463463374607431768211456 = (0 + 18446744073709551616 * 0 + 340282366920938463463374607431768211456 * l0 + 6277101735386680763835789423207666416102355444464034512896 * (l1 + h0)) + 115792089237316195423570985008687907853269984665640564039457584007913129639936 * (l2 + h1 + 18446744073709551616 * (l3 + h2) + 340282366920938463463374607431768211456 * h3) := by omega
theorem shl4o {p0 p1 p2 p3 l0 l1 l2 l3 h0 h1 h2 h3 : Nat} (e0 : l0 + 18446744073709551616 * h0 = p0) (e1 : l1 + 18446744073709551616 * h1 = p1) (e2 : l2 + 18446744073709551616 * h2 = p2) (e3 : l3 + 18446744073709551616 * h3 = p3) :
    (p0 + 18446744073709551616 * p1 + 340282366920938463463374607431768211456 * p2 + 6277101735386680763835789423207666416102355444464034512896 * p3) * 6277101735386680763835789423207666416102355444464034512896 = (0 + 18446744073709551616 * 0 + 340282366920938463463374607431768211456 * 0 + 6277101735386680763835789423207666416102355444464034512896 * l0) + 115792089237316195423570985008687907853269984665640564039457584007913129639936 * (l1 + h0 + 18446744073709551616 * (l2 + h1) + 340282366920938463463374607431768211456 * (l3 + h2) + 6277101735386680763835789423207666416102355444464034512896 * h3) := by omega
theorem mul4 (a b c d x : Nat) : (a + 18446744073709551616 * b + 340282366920938463463374607431768211456 * c + 6277101735386680763835789423207666416102355444464034512896 * d) * x = a * x + 18446744073709551616 * (b * x) + 340282366920938463463374607431768211456 * (c * x) + 6277101735386680763835789423207666416102355444464034512896 * (d * x) := by
  simp only [Nat.add_mul, Nat.mul_assoc]
theorem modW {x y k : Nat} (h : x = y + 115792089237316195423570985008687907853269984665640564039457584007913129639936 * k) (hy : y < 115792089237316195423570985008687907853269984665640564039457584007913129639936) : y = x % 115792089237316195423570985008687907853269984665640564039457584007913129639936 := by
  rw [h, Nat.add_mul_mod_self_left, Nat.mod_eq_of_lt hy]
theorem shlK0 {b0 b1 b2 b3 t : Nat} (ht : t < 64) (g0 : b0 < 18446744073709551616) (g1 : b1 < 18446744073709551616) (g2 : b2 < 18446744073709551616) : WV (b0 * 2 ^ t % 18446744073709551616) (sl1 b1 b0 t) (sl1 b2 b1 t) (sl1 b3 b2 t) = wordV ((b0 + 18446744073709551616 * b1 + 340282366920938463463374607431768211456 * b2 + 6277101735386680763835789423207666416102355444464034512896 * b3) * 2 ^ (64 * 0 + t) % 115792089237316195423570985008687907853269984665640564039457584007913129639936) := by
  have u0 : b0 * 2 ^ t % 18446744073709551616 < 18446744073709551616 := Nat.mod_lt _ (by omega)
  have u1 := sl1_lt (b := b1) (t := t) (by omega) g0
  have u2 := sl1_lt (b := b2) (t := t) (by omega) g1
  have u3 := sl1_lt (b := b3) (t := t) (by omega) g2
  refine WV_eq u0 u1 u2 u3 (modW (k := b3 / 2 ^ (64 - t)) ?_ (lt4 u0 u1 u2 u3)).symm
  rw [Nat.mul_zero, Nat.zero_add, mul4]
  exact shl4 (shl_rel b0 (by omega)) (shl_rel b1 (by omega)) (shl_rel b2 (by omega)) (shl_rel b3 (by omega))
theorem pw1 (t : Nat) : (2 : Nat) ^ (64 * 1 + t) = 2 ^ t * 18446744073709551616 := by rw [Nat.add_comm, Nat.pow_add]
theorem shlK1 {b0 b1 b2 b3 t : Nat} (ht : t < 64) (g0 : b0 < 18446744073709551616) (g1 : b1 < 18446744073709551616) (g2 : b2 < 18446744073709551616) : WV (0) (b0 * 2 ^ t % 18446744073709551616) (sl1 b1 b0 t) (sl1 b2 b1 t) = wordV ((b0 + 18446744073709551616 * b1 + 340282366920938463463374607431768211456 * b2 + 6277101735386680763835789423207666416102355444464034512896 * b3) * 2 ^ (64 * 1 + t) % 115792089237316195423570985008687907853269984665640564039457584007913129639936) := by
  have u0 : 0 < 18446744073709551616 := (by omega)
  have u1 : b0 * 2 ^ t % 18446744073709551616 < 18446744073709551616 := (Nat.mod_lt _ (by omega))
  have u2 : sl1 b1 b0 t < 18446744073709551616 := (sl1_lt (by omega) (by assumption))
  have u3 : sl1 b2 b1 t < 18446744073709551616 := (sl1_lt (by omega) (by assumption))
  refine WV_eq u0 u1 u2 u3 (modW (k := b3 * 2 ^ t % 18446744073709551616 + b2 / 2 ^ (64 - t) + 18446744073709551616 * (b3 / 2 ^ (64 - t))) ?_ (lt4 u0 u1 u2 u3)).symm
  rw [pw1, ← Nat.mul_assoc, mul4]
  exact shl4m (shl_rel b0 (by omega)) (shl_rel b1 (by omega)) (shl_rel b2 (by omega)) (shl_rel b3 (by omega))
theorem pw2 (t : Nat) : (2 : Nat) ^ (64 * 2 + t) = 2 ^ t * 340282366920938463463374607431768211456 := by rw [Nat.add_comm, Nat.pow_add]
theorem shlK2 {b0 b1 b2 b3 t : Nat} (ht : t < 64) (g0 : b0 < 18446744073709551616) (g1 : b1 < 18446744073709551616) (g2 : b2 < 18446744073709551616) : WV (0) (0) (b0 * 2 ^ t % 18446744073709551616) (sl1 b1 b0 t) = wordV ((b0 + 18446744073709551616 * b1 + 340282366920938463463374607431768211456 * b2 + 6277101735386680763835789423207666416102355444464034512896 * b3) * 2 ^ (64 * 2 + t) % 115792089237316195423570985008687907853269984665640564039457584007913129639936) := by
  have u0 : 0 < 18446744073709551616 := (by omega)
  have u1 : 0 < 18446744073709551616 := (by omega)
  have u2 : b0 * 2 ^ t % 18446744073709551616 < 18446744073709551616 := (Nat.mod_lt _ (by omega))
  have u3 : sl1 b1 b0 t < 18446744073709551616 := (sl1_lt (by omega) (by assumption))
  refine WV_eq u0 u1 u2 u3 (modW (k := b2 * 2 ^ t % 18446744073709551616 + b1 / 2 ^ (64 - t) + 18446744073709551616 * (b3 * 2 ^ t % 18446744073709551616 + b2 / 2 ^ (64 - t)) + 340282366920938463463374607431768211456 * (b3 / 2 ^ (64 - t))) ?_ (lt4 u0 u1 u2 u3)).symm
  rw [pw2, ← Nat.mul_assoc, mul4]
  exact shl4n (shl_rel b0 (by omega)) (shl_rel b1 (by omega)) (shl_rel b2 (by omega)) (shl_rel b3 (by omega))
theorem pw3 (t : Nat) : (2 : Nat) ^ (64 * 3 + t) = 2 ^ t * 6277101735386680763835789423207666416102355444464034512896 := by rw [Nat.add_comm, Nat.pow_add]
theorem shlK3 {b0 b1 b2 b3 t : Nat} (ht : t < 64) (g0 : b0 < 18446744073709551616) (g1 : b1 < 18446744073709551616) (g2 : b2 < 18446744073709551616) : WV (0) (0) (0) (b0 * 2 ^ t % 18446744073709551616) = wordV ((b0 + 18446744073709551616 * b1 + 340282366920938463463374607431768211456 * b2 + 6277101735386680763835789423207666416102355444464034512896 * b3) * 2 ^ (64 * 3 + t) % 115792089237316195423570985008687907853269984665640564039457584007913129639936) := by
  have u0 : 0 < 18446744073709551616 := (by omega)
  have u1 : 0 < 18446744073709551616 := (by omega)
  have u2 : 0 < 18446744073709551616 := (by omega)
  have u3 : b0 * 2 ^ t % 18446744073709551616 < 18446744073709551616 := (Nat.mod_lt _ (by omega))
  refine WV_eq u0 u1 u2 u3 (modW (k := b1 * 2 ^ t % 18446744073709551616 + b0 / 2 ^ (64 - t) + 18446744073709551616 * (b2 * 2 ^ t % 18446744073709551616 + b1 / 2 ^ (64 - t)) + 340282366920938463463374607431768211456 * (b3 * 2 ^ t % 18446744073709551616 + b2 / 2 ^ (64 - t)) + 6277101735386680763835789423207666416102355444464034512896 * (b3 / 2 ^ (64 - t))) ?_ (lt4 u0 u1 u2 u3)).symm
  rw [pw3, ← Nat.mul_assoc, mul4]
  exact shl4o (shl_rel b0 (by omega)) (shl_rel b1 (by omega)) (shl_rel b2 (by omega)) (shl_rel b3 (by omega))

/-- u256.Shl -/
theorem UShl_spec {S : St} {a b : Nat} (ha : a < 115792089237316195423570985008687907853269984665640564039457584007913129639936) (hb : b < 115792089237316195423570985008687907853269984665640564039457584007913129639936) :
    CallG Hvaf.prog 299 #[wordV a, wordV b] S fun r S' => S = S' ∧ r = wordV (if a < 256 then b * 2 ^ a % 115792089237316195423570985008687907853269984665640564039457584007913129639936 else 0) := by
  obtain ⟨b0, b1, b2, b3, g0, g1, g2, g3, eb, vb⟩ := word_cases hb
  rw [vb]
  clear vb hb
  replace ha : Hid _ := ⟨ha⟩
  refine CallG.start (C := mkC Hvaf.prog) cok (args := [wordV a, WV b0 b1 b2 b3]) Hvaf.func299 rfl Hvaf.ntmps299 (by simp) (by kernel_rfl) ?_
  intro xa xb xr
  repeat (first | refine SeqS.go cok ?_ | (refine QuG.keep ?_; first | refine QuG.lN cok 2 rfl rfl rfl rfl rfl (by first | exact Nat.le_of_ble_eq_true rfl | omega | (dsimp only; omega) | (simp only [addS_eq, mulS_eq]; omega)) ?_))
  refine (Ubelow_spec (n := 256) ha.out (by omega)).mono ?_
  rintro r _ - ⟨rfl, x, rfl, hx⟩
  by_cases hs : a < 256
  · rw [if_pos hs]
    have := (hx hs).symm
    subst this
    repeat (first | refine SeqS.go cok ?_ | (refine CondS.keep ?_; first | refine CondS.nd0 rfl (by omega) ?_))
    intro xw
    have hcs : a / 64 = 0 ∨ a / 64 = 1 ∨ a / 64 = 2 ∨ a / 64 = 3 := by omega
    rcases hcs with hk | hk | hk | hk
    · obtain ⟨t, rfl, ht⟩ : ∃ t, a = 64 * 0 + t ∧ t < 64 := ⟨a - 64 * 0, by omega, by omega⟩
      have hT : 2 ^ t ≤ 2 ^ 63 := Nat.pow_le_pow_right (by omega) (by omega)
      have q0 := shl_hi (t := t) (by omega) g0
      have q1 := shl_hi (t := t) (by omega) g1
      have q2 := shl_hi (t := t) (by omega) g2
      repeat (first | (refine ValS.keep ?_; first | with_reducible refine ValS.quoK 0 (by omega) (by omega) ?_) | refine SeqS.go cok ?_ | refine And.intro (by omega) ?_)
      refine W.rounds cok (by kernel_rfl) 5 ?_
      repeat (first | (refine ValS.keep ?_; first | with_reducible refine ValS.quoK 0 (by omega) (by omega) ?_ | with_reducible refine ValS.remK t (by omega) ?_) | refine SeqS.go cok ?_ | refine CondS.t rfl ?_ | refine CondS.f rfl ?_ | refine And.intro (by omega) ?_ | refine And.intro (by dsimp only; omega) ?_ | (refine NatS.keep ?_; first | with_reducible refine NatS.nat ?_) | (refine ValS.keep ?_; first | (with_reducible refine ValS.kU64 ?_; first | (with_reducible refine ValS.orFU64 ?_ ?_ (fun _ => ?_); omega; omega) | (with_reducible refine ValS.addU64_L ?_ ?_ ; omega) | (with_reducible refine ValS.subU64_L ?_ ?_ ?_ ; omega; omega) | (with_reducible refine ValS.subU64 ?_ ?_ ?_ ; omega; omega) | (with_reducible refine ValS.subU64_M ?_ ?_ ?_ ; omega; omega) | (with_reducible refine ValS.shrU64 ?_ ?_ ; omega) | (with_reducible refine ValS.shlWU64 ?_ ?_ ; omega))) | (refine QuG.keep ?_; first | refine QuG.l1 cok 0 rfl rfl rfl rfl rfl (by first | exact Nat.le_of_ble_eq_true rfl | omega | (dsimp only; omega) | (simp only [addS_eq, mulS_eq]; omega)) ?_ | refine QuG.l1 cok 2 rfl rfl rfl rfl rfl (by first | exact Nat.le_of_ble_eq_true rfl | omega | (dsimp only; omega) | (simp only [addS_eq, mulS_eq]; omega)) ?_ | refine QuG.lN cok 0 rfl rfl rfl rfl rfl (by first | exact Nat.le_of_ble_eq_true rfl | omega | (dsimp only; omega) | (simp only [addS_eq, mulS_eq]; omega)) ?_) | (refine still_in ?_; first | refine still_drop (by decide) ?_) | (refine LdG.keep ?_; first | refine LdG.lN cok 1 rfl rfl rfl rfl rfl (by first | exact Nat.le_of_ble_eq_true rfl | omega | (dsimp only; omega) | (simp only [addS_eq, mulS_eq]; omega)) ?_) | (refine OpG.keep ?_; first | refine OpG.s1 cok 0 rfl rfl rfl rfl rfl (by first | exact Nat.le_of_ble_eq_true rfl | omega | (dsimp only; omega) | (simp only [addS_eq, mulS_eq]; omega)) rfl rfl ?_ | refine OpG.sL cok 1 rfl rfl rfl rfl rfl rfl rfl (by first | exact Nat.le_of_ble_eq_true rfl | omega | (dsimp only; omega) | (simp only [addS_eq, mulS_eq]; omega)) ?_) | refine W.drawI 10 cok [0, 1, 3, 0, 0, 16, 56, 120, 248, 504, 0, 1024, 3072, 8184, 16383, 32767, 65535] [0, 1, 2, 3, 4, 5, 6, 7, 8, 9, 10, 11, 12, 13, 14, 15, 16] [2, 9] (by kernel_rfl) (by kernel_rfl) ?_)
      obtain ⟨rfl⟩ := eb
      refine Fin.drop S.G [_, _, _, _] ⟨rfl, tW rfl (Eq.trans ?_ (shlK0 ht g0 g1 g2))⟩
      simp only [shl_or _ (Nat.le_of_lt ht) q0, shl_or _ (Nat.le_of_lt ht) q1, shl_or _ (Nat.le_of_lt ht) q2, sl1]
    · obtain ⟨t, rfl, ht⟩ : ∃ t, a = 64 * 1 + t ∧ t < 64 := ⟨a - 64 * 1, by omega, by omega⟩
      have hT : 2 ^ t ≤ 2 ^ 63 := Nat.pow_le_pow_right (by omega) (by omega)
      have q0 := shl_hi (t := t) (by omega) g0
      have q1 := shl_hi (t := t) (by omega) g1
      have q2 := shl_hi (t := t) (by omega) g2
      repeat (first | (refine ValS.keep ?_; first | with_reducible refine ValS.quoK 1 (by omega) (by omega) ?_) | refine SeqS.go cok ?_ | refine And.intro (by omega) ?_)
      refine W.rounds cok (by kernel_rfl) 5 ?_
      repeat (first | (refine ValS.keep ?_; first | with_reducible refine ValS.quoK 1 (by omega) (by omega) ?_ | with_reducible refine ValS.remK t (by omega) ?_) | refine SeqS.go cok ?_ | refine CondS.t rfl ?_ | refine CondS.f rfl ?_ | refine And.intro (by omega) ?_ | refine And.intro (by dsimp only; omega) ?_ | (refine NatS.keep ?_; first | with_reducible refine NatS.nat ?_) | (refine ValS.keep ?_; first | (with_reducible refine ValS.kU64 ?_; first | (with_reducible refine ValS.orFU64 ?_ ?_ (fun _ => ?_); omega; omega) | (with_reducible refine ValS.addU64_L ?_ ?_ ; omega) | (with_reducible refine ValS.subU64_L ?_ ?_ ?_ ; omega; omega) | (with_reducible refine ValS.subU64 ?_ ?_ ?_ ; omega; omega) | (with_reducible refine ValS.subU64_M ?_ ?_ ?_ ; omega; omega) | (with_reducible refine ValS.shrU64 ?_ ?_ ; omega) | (with_reducible refine ValS.shlWU64 ?_ ?_ ; omega))) | (refine QuG.keep ?_; first | refine QuG.l1 cok 0 rfl rfl rfl rfl rfl (by first | exact Nat.le_of_ble_eq_true rfl | omega | (dsimp only; omega) | (simp only [addS_eq, mulS_eq]; omega)) ?_ | refine QuG.l1 cok 2 rfl rfl rfl rfl rfl (by first | exact Nat.le_of_ble_eq_true rfl | omega | (dsimp only; omega) | (simp only [addS_eq, mulS_eq]; omega)) ?_ | refine QuG.lN cok 0 rfl rfl rfl rfl rfl (by first | exact Nat.le_of_ble_eq_true rfl | omega | (dsimp only; omega) | (simp only [addS_eq, mulS_eq]; omega)) ?_) | (refine still_in ?_; first | refine still_drop (by decide) ?_) | (refine LdG.keep ?_; first | refine LdG.lN cok 1 rfl rfl rfl rfl rfl (by first | exact Nat.le_of_ble_eq_true rfl | omega | (dsimp only; omega) | (simp only [addS_eq, mulS_eq]; omega)) ?_) | (refine OpG.keep ?_; first | refine OpG.s1 cok 0 rfl rfl rfl rfl rfl (by first | exact Nat.le_of_ble_eq_true rfl | omega | (dsimp only; omega) | (simp only [addS_eq, mulS_eq]; omega)) rfl rfl ?_ | refine OpG.sL cok 1 rfl rfl rfl rfl rfl rfl rfl (by first | exact Nat.le_of_ble_eq_true rfl | omega | (dsimp only; omega) | (simp only [addS_eq, mulS_eq]; omega)) ?_) | refine W.drawI 10 cok [0, 1, 3, 0, 0, 16, 56, 120, 248, 504, 0, 1024, 3072, 8184, 16383, 32767, 65535] [0, 1, 2, 3, 4, 5, 6, 7, 8, 9, 10, 11, 12, 13, 14, 15, 16] [2, 9] (by kernel_rfl) (by kernel_rfl) ?_)
      obtain ⟨rfl⟩ := eb
      refine Fin.drop S.G [_, _, _, _] ⟨rfl, tW rfl (Eq.trans ?_ (shlK1 ht g0 g1 g2))⟩
      simp only [shl_or _ (Nat.le_of_lt ht) q0, shl_or _ (Nat.le_of_lt ht) q1, shl_or _ (Nat.le_of_lt ht) q2, sl1]
    · obtain ⟨t, rfl, ht⟩ : ∃ t, a = 64 * 2 + t ∧ t < 64 := ⟨a - 64 * 2, by omega, by omega⟩
      have hT : 2 ^ t ≤ 2 ^ 63 := Nat.pow_le_pow_right (by omega) (by omega)
      have q0 := shl_hi (t := t) (by omega) g0
      have q1 := shl_hi (t := t) (by omega) g1
      have q2 := shl_hi (t := t) (by omega) g2
      repeat (first | (refine ValS.keep ?_; first | with_reducible refine ValS.quoK 2 (by omega) (by omega) ?_) | refine SeqS.go cok ?_ | refine And.intro (by omega) ?_)
      refine W.rounds cok (by kernel_rfl) 5 ?_
      repeat (first | (refine ValS.keep ?_; first | with_reducible refine ValS.quoK 2 (by omega) (by omega) ?_ | with_reducible refine ValS.remK t (by omega) ?_) | refine SeqS.go cok ?_ | refine CondS.t rfl ?_ | refine CondS.f rfl ?_ | refine And.intro (by omega) ?_ | refine And.intro (by dsimp only; omega) ?_ | (refine NatS.keep ?_; first | with_reducible refine NatS.nat ?_) | (refine ValS.keep ?_; first | (with_reducible refine ValS.kU64 ?_; first | (with_reducible refine ValS.orFU64 ?_ ?_ (fun _ => ?_); omega; omega) | (with_reducible refine ValS.addU64_L ?_ ?_ ; omega) | (with_reducible refine ValS.subU64_L ?_ ?_ ?_ ; omega; omega) | (with_reducible refine ValS.subU64 ?_ ?_ ?_ ; omega; omega) | (with_reducible refine ValS.subU64_M ?_ ?_ ?_ ; omega; omega) | (with_reducible refine ValS.shrU64 ?_ ?_ ; omega) | (with_reducible refine ValS.shlWU64 ?_ ?_ ; omega))) | (refine QuG.keep ?_; first | refine QuG.l1 cok 0 rfl rfl rfl rfl rfl (by first | exact Nat.le_of_ble_eq_true rfl | omega | (dsimp only; omega) | (simp only [addS_eq, mulS_eq]; omega)) ?_ | refine QuG.l1 cok 2 rfl rfl rfl rfl rfl (by first | exact Nat.le_of_ble_eq_true rfl | omega | (dsimp only; omega) | (simp only [addS_eq, mulS_eq]; omega)) ?_ | refine QuG.lN cok 0 rfl rfl rfl rfl rfl (by first | exact Nat.le_of_ble_eq_true rfl | omega | (dsimp only; omega) | (simp only [addS_eq, mulS_eq]; omega)) ?_) | (refine still_in ?_; first | refine still_drop (by decide) ?_) | (refine LdG.keep ?_; first | refine LdG.lN cok 1 rfl rfl rfl rfl rfl (by first | exact Nat.le_of_ble_eq_true rfl | omega | (dsimp only; omega) | (simp only [addS_eq, mulS_eq]; omega)) ?_) | (refine OpG.keep ?_; first | refine OpG.s1 cok 0 rfl rfl rfl rfl rfl (by first | exact Nat.le_of_ble_eq_true rfl | omega | (dsimp only; omega) | (simp only [addS_eq, mulS_eq]; omega)) rfl rfl ?_ | refine OpG.sL cok 1 rfl rfl rfl rfl rfl rfl rfl (by first | exact Nat.le_of_ble_eq_true rfl | omega | (dsimp only; omega) | (simp only [addS_eq, mulS_eq]; omega)) ?_) | refine W.drawI 10 cok [0, 1, 3, 0, 0, 16, 56, 120, 248, 504, 0, 1024, 3072, 8184, 16383, 32767, 65535] [0, 1, 2, 3, 4, 5, 6, 7, 8, 9, 10, 11, 12, 13, 14, 15, 16] [2, 9] (by kernel_rfl) (by kernel_rfl) ?_)
      obtain ⟨rfl⟩ := eb
      refine Fin.drop S.G [_, _, _, _] ⟨rfl, tW rfl (Eq.trans ?_ (shlK2 ht g0 g1 g2))⟩
      simp only [shl_or _ (Nat.le_of_lt ht) q0, shl_or _ (Nat.le_of_lt ht) q1, shl_or _ (Nat.le_of_lt ht) q2, sl1]
    · obtain ⟨t, rfl, ht⟩ : ∃ t, a = 64 * 3 + t ∧ t < 64 := ⟨a - 64 * 3, by omega, by omega⟩
      have hT : 2 ^ t ≤ 2 ^ 63 := Nat.pow_le_pow_right (by omega) (by omega)
      have q0 := shl_hi (t := t) (by omega) g0
      have q1 := shl_hi (t := t) (by omega) g1
      have q2 := shl_hi (t := t) (by omega) g2
      repeat (first | (refine ValS.keep ?_; first | with_reducible refine ValS.quoK 3 (by omega) (by omega) ?_) | refine SeqS.go cok ?_ | refine And.intro (by omega) ?_)
      refine W.rounds cok (by kernel_rfl) 5 ?_
      repeat (first | (refine ValS.keep ?_; first | with_reducible refine ValS.quoK 3 (by omega) (by omega) ?_ | with_reducible refine ValS.remK t (by omega) ?_) | refine SeqS.go cok ?_ | refine CondS.t rfl ?_ | refine CondS.f rfl ?_ | refine And.intro (by omega) ?_ | refine And.intro (by dsimp only; omega) ?_ | (refine NatS.keep ?_; first | with_reducible refine NatS.nat ?_) | (refine ValS.keep ?_; first | (with_reducible refine ValS.kU64 ?_; first | (with_reducible refine ValS.addU64_L ?_ ?_ ; omega) | (with_reducible refine ValS.subU64 ?_ ?_ ?_ ; omega; omega) | (with_reducible refine ValS.shlWU64 ?_ ?_ ; omega))) | (refine QuG.keep ?_; first | refine QuG.l1 cok 2 rfl rfl rfl rfl rfl (by first | exact Nat.le_of_ble_eq_true rfl | omega | (dsimp only; omega) | (simp only [addS_eq, mulS_eq]; omega)) ?_ | refine QuG.lN cok 0 rfl rfl rfl rfl rfl (by first | exact Nat.le_of_ble_eq_true rfl | omega | (dsimp only; omega) | (simp only [addS_eq, mulS_eq]; omega)) ?_) | (refine LdG.keep ?_; first | refine LdG.lN cok 1 rfl rfl rfl rfl rfl (by first | exact Nat.le_of_ble_eq_true rfl | omega | (dsimp only; omega) | (simp only [addS_eq, mulS_eq]; omega)) ?_) | (refine OpG.keep ?_; first | refine OpG.s1 cok 0 rfl rfl rfl rfl rfl (by first | exact Nat.le_of_ble_eq_true rfl | omega | (dsimp only; omega) | (simp only [addS_eq, mulS_eq]; omega)) rfl rfl ?_ | refine OpG.sL cok 1 rfl rfl rfl rfl rfl rfl rfl (by first | exact Nat.le_of_ble_eq_true rfl | omega | (dsimp only; omega) | (simp only [addS_eq, mulS_eq]; omega)) ?_))
      obtain ⟨rfl⟩ := eb
      refine Fin.drop S.G [_, _, _, _] ⟨rfl, tW rfl (Eq.trans ?_ (shlK3 ht g0 g1 g2))⟩
      simp only [shl_or _ (Nat.le_of_lt ht) q0, shl_or _ (Nat.le_of_lt ht) q1, shl_or _ (Nat.le_of_lt ht) q2, sl1]
  · rw [if_neg hs]
    repeat (first | refine SeqS.go cok ?_ | refine And.intro (fillOk_of (Eq.refl true)) ?_ | (refine LdG.keep ?_; first | refine LdG.lN cok 0 rfl rfl rfl rfl rfl (by first | exact Nat.le_of_ble_eq_true rfl | omega | (dsimp only; omega) | (simp only [addS_eq, mulS_eq]; omega)) ?_) | (refine OpG.keep ?_; first | refine OpG.sL cok 0 rfl rfl rfl rfl rfl rfl rfl (by first | exact Nat.le_of_ble_eq_true rfl | omega | (dsimp only; omega) | (simp only [addS_eq, mulS_eq]; omega)) ?_) | (refine CondS.keep ?_; first | refine CondS.nd1 rfl (by omega) ?_))
    exact Fin.drop S.G [_, _, _] ⟨rfl, rfl⟩
end Go.Proofs.YgvafwGreat
