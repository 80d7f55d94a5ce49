import Derived.Test.YgvafwGreatU2
set_option maxRecDepth 100000
set_option maxHeartbeats 4000000
set_option linter.unusedVariables false
set_option linter.unusedSimpArgs false
-- v2
namespace Go.Proofs.YgvafwGreat
open Go.HL Go.Proofs

theorem and2 {a b : Nat} (x y : Nat) (ha : a < 18446744073709551616) (hb : b < 18446744073709551616) : (a + 18446744073709551616 * x) &&& (b + 18446744073709551616 * y) = (a &&& b) + 18446744073709551616 * (x &&& y) := by
  apply Nat.eq_of_testBit_eq; intro i
  have h1 := Nat.testBit_two_pow_mul_add x (i := 64) ha i
  have h2 := Nat.testBit_two_pow_mul_add y (i := 64) hb i
  have h3 := Nat.testBit_two_pow_mul_add (x &&& y) (i := 64) (Nat.lt_of_le_of_lt (Nat.and_le_left (m := b)) ha) i
  rw [show (2 : Nat) ^ 64 = 18446744073709551616 from rfl] at h1 h2 h3
  rw [Nat.testBit_and, Nat.add_comm a, Nat.add_comm b, Nat.add_comm (a &&& b), h1, h2, h3]
  split <;> rw [Nat.testBit_and]
theorem or2 {a b : Nat} (x y : Nat) (ha : a < 18446744073709551616) (hb : b < 18446744073709551616) : (a + 18446744073709551616 * x) ||| (b + 18446744073709551616 * y) = (a ||| b) + 18446744073709551616 * (x ||| y) := by
  apply Nat.eq_of_testBit_eq; intro i
  have h1 := Nat.testBit_two_pow_mul_add x (i := 64) ha i
  have h2 := Nat.testBit_two_pow_mul_add y (i := 64) hb i
  have h3 := Nat.testBit_two_pow_mul_add (x ||| y) (i := 64) (Nat.or_lt_two_pow (n := 64) ha hb) i
  rw [show (2 : Nat) ^ 64 = 18446744073709551616 from rfl] at h1 h2 h3
  rw [Nat.testBit_or, Nat.add_comm a, Nat.add_comm b, Nat.add_comm (a ||| b), h1, h2, h3]
  split <;> rw [Nat.testBit_or]
theorem xor2 {a b : Nat} (x y : Nat) (ha : a < 18446744073709551616) (hb : b < 18446744073709551616) : (a + 18446744073709551616 * x) ^^^ (b + 18446744073709551616 * y) = (a ^^^ b) + 18446744073709551616 * (x ^^^ y) := by
  apply Nat.eq_of_testBit_eq; intro i
  have h1 := Nat.testBit_two_pow_mul_add x (i := 64) ha i
  have h2 := Nat.testBit_two_pow_mul_add y (i := 64) hb i
  have h3 := Nat.testBit_two_pow_mul_add (x ^^^ y) (i := 64) (Nat.xor_lt_two_pow (n := 64) ha hb) i
  rw [show (2 : Nat) ^ 64 = 18446744073709551616 from rfl] at h1 h2 h3
  rw [Nat.testBit_xor, Nat.add_comm a, Nat.add_comm b, Nat.add_comm (a ^^^ b), h1, h2, h3]
  split <;> rw [Nat.testBit_xor]
theorem nest4 (a b c d : Nat) : a + 18446744073709551616 * b + 340282366920938463463374607431768211456 * c + 6277101735386680763835789423207666416102355444464034512896 * d = a + 18446744073709551616 * (b + 18446744073709551616 * (c + 18446744073709551616 * d)) := by omega
theorem not4 {a b c d : Nat} (ha : a < 18446744073709551616) (hb : b < 18446744073709551616) (hc : c < 18446744073709551616) (hd : d < 18446744073709551616) : 115792089237316195423570985008687907853269984665640564039457584007913129639936 - 1 - (a + 18446744073709551616 * b + 340282366920938463463374607431768211456 * c + 6277101735386680763835789423207666416102355444464034512896 * d) = (18446744073709551615 - a) + 18446744073709551616 * (18446744073709551615 - b) + 340282366920938463463374607431768211456 * (18446744073709551615 - c) + 6277101735386680763835789423207666416102355444464034512896 * (18446744073709551615 - d) := by omega

theorem And4 {a0 a1 a2 a3 b0 b1 b2 b3 : Nat} (h0 : a0 < 18446744073709551616) (h1 : a1 < 18446744073709551616) (h2 : a2 < 18446744073709551616) (g0 : b0 < 18446744073709551616) (g1 : b1 < 18446744073709551616) (g2 : b2 < 18446744073709551616) :
    (a0 + 18446744073709551616 * a1 + 340282366920938463463374607431768211456 * a2 + 6277101735386680763835789423207666416102355444464034512896 * a3) &&& (b0 + 18446744073709551616 * b1 + 340282366920938463463374607431768211456 * b2 + 6277101735386680763835789423207666416102355444464034512896 * b3) = (a0 &&& b0) + 18446744073709551616 * (a1 &&& b1) + 340282366920938463463374607431768211456 * (a2 &&& b2) + 6277101735386680763835789423207666416102355444464034512896 * (a3 &&& b3) := by
  rw [nest4, nest4, nest4, and2 _ _ h0 g0, and2 _ _ h1 g1, and2 _ _ h2 g2]
/-- u256.And -/
theorem UAnd_spec {S : St} {a b : Nat} (ha : a < 115792089237316195423570985008687907853269984665640564039457584007913129639936) (hb : b < 115792089237316195423570985008687907853269984665640564039457584007913129639936) :
    CallG Hvaf.prog 294 #[wordV a, wordV b] S fun r S' => S = S' ∧ r = wordV (a &&& b) := by
  obtain ⟨a0, a1, a2, a3, h0, h1, h2, h3, ea, va⟩ := word_cases ha
  obtain ⟨b0, b1, b2, b3, g0, g1, g2, g3, eb, vb⟩ := word_cases hb
  rw [va, vb]
  clear va ha vb hb
  refine CallG.start (C := mkC Hvaf.prog) cok (args := [WV a0 a1 a2 a3, WV b0 b1 b2 b3]) Hvaf.func294 rfl Hvaf.ntmps294 (by simp) (by kernel_rfl) ?_
  intro xa xb xr
  repeat (first | refine SeqS.go cok ?_ | refine And.intro (fillOk_of (Eq.refl true)) ?_ | refine And.intro (by dsimp only; omega) ?_ | (refine NatS.keep ?_; first | with_reducible refine NatS.lit ?_) | (refine ValS.keep ?_; first | (with_reducible refine ValS.kU64 ?_; first | (with_reducible refine ValS.andFU64 ?_ ?_ (fun _ => ?_); omega; omega))) | (refine QuG.keep ?_; first | refine QuG.l1 cok 1 rfl rfl rfl rfl rfl (by first | exact Nat.le_of_ble_eq_true rfl | omega | (dsimp only; omega) | (simp only [addS_eq, mulS_eq]; omega)) ?_ | refine QuG.l1 cok 2 rfl rfl rfl rfl rfl (by first | exact Nat.le_of_ble_eq_true rfl | omega | (dsimp only; omega) | (simp only [addS_eq, mulS_eq]; omega)) ?_) | (refine LdG.keep ?_; first | refine LdG.lN cok 0 rfl rfl rfl rfl rfl (by first | exact Nat.le_of_ble_eq_true rfl | omega | (dsimp only; omega) | (simp only [addS_eq, mulS_eq]; omega)) ?_) | (refine OpG.keep ?_; first | refine OpG.sL cok 0 rfl rfl rfl rfl rfl rfl rfl (by first | exact Nat.le_of_ble_eq_true rfl | omega | (dsimp only; omega) | (simp only [addS_eq, mulS_eq]; omega)) ?_))
  obtain ⟨rfl⟩ := ea
  obtain ⟨rfl⟩ := eb
  exact Fin.drop S.G [_, _, _] ⟨rfl, tW rfl (WV_eq (by omega) (by omega) (by omega) (by omega) (And4 h0 h1 h2 g0 g1 g2))⟩

theorem Or4 {a0 a1 a2 a3 b0 b1 b2 b3 : Nat} (h0 : a0 < 18446744073709551616) (h1 : a1 < 18446744073709551616) (h2 : a2 < 18446744073709551616) (g0 : b0 < 18446744073709551616) (g1 : b1 < 18446744073709551616) (g2 : b2 < 18446744073709551616) :
    (a0 + 18446744073709551616 * a1 + 340282366920938463463374607431768211456 * a2 + 6277101735386680763835789423207666416102355444464034512896 * a3) ||| (b0 + 18446744073709551616 * b1 + 340282366920938463463374607431768211456 * b2 + 6277101735386680763835789423207666416102355444464034512896 * b3) = (a0 ||| b0) + 18446744073709551616 * (a1 ||| b1) + 340282366920938463463374607431768211456 * (a2 ||| b2) + 6277101735386680763835789423207666416102355444464034512896 * (a3 ||| b3) := by
  rw [nest4, nest4, nest4, or2 _ _ h0 g0, or2 _ _ h1 g1, or2 _ _ h2 g2]
/-- u256.Or -/
theorem UOr_spec {S : St} {a b : Nat} (ha : a < 115792089237316195423570985008687907853269984665640564039457584007913129639936) (hb : b < 115792089237316195423570985008687907853269984665640564039457584007913129639936) :
    CallG Hvaf.prog 295 #[wordV a, wordV b] S fun r S' => S = S' ∧ r = wordV (a ||| b) := by
  obtain ⟨a0, a1, a2, a3, h0, h1, h2, h3, ea, va⟩ := word_cases ha
  obtain ⟨b0, b1, b2, b3, g0, g1, g2, g3, eb, vb⟩ := word_cases hb
  rw [va, vb]
  clear va ha vb hb
  refine CallG.start (C := mkC Hvaf.prog) cok (args := [WV a0 a1 a2 a3, WV b0 b1 b2 b3]) Hvaf.func295 rfl Hvaf.ntmps295 (by simp) (by kernel_rfl) ?_
  intro xa xb xr
  repeat (first | refine SeqS.go cok ?_ | refine And.intro (fillOk_of (Eq.refl true)) ?_ | refine And.intro (by dsimp only; omega) ?_ | (refine NatS.keep ?_; first | with_reducible refine NatS.lit ?_) | (refine ValS.keep ?_; first | (with_reducible refine ValS.kU64 ?_; first | (with_reducible refine ValS.orFU64 ?_ ?_ (fun _ => ?_); omega; omega))) | (refine QuG.keep ?_; first | refine QuG.l1 cok 1 rfl rfl rfl rfl rfl (by first | exact Nat.le_of_ble_eq_true rfl | omega | (dsimp only; omega) | (simp only [addS_eq, mulS_eq]; omega)) ?_ | refine QuG.l1 cok 2 rfl rfl rfl rfl rfl (by first | exact Nat.le_of_ble_eq_true rfl | omega | (dsimp only; omega) | (simp only [addS_eq, mulS_eq]; omega)) ?_) | (refine LdG.keep ?_; first | refine LdG.lN cok 0 rfl rfl rfl rfl rfl (by first | exact Nat.le_of_ble_eq_true rfl | omega | (dsimp only; omega) | (simp only [addS_eq, mulS_eq]; omega)) ?_) | (refine OpG.keep ?_; first | refine OpG.sL cok 0 rfl rfl rfl rfl rfl rfl rfl (by first | exact Nat.le_of_ble_eq_true rfl | omega | (dsimp only; omega) | (simp only [addS_eq, mulS_eq]; omega)) ?_))
  obtain ⟨rfl⟩ := ea
  obtain ⟨rfl⟩ := eb
  exact Fin.drop S.G [_, _, _] ⟨rfl, tW rfl (WV_eq (by omega) (by omega) (by omega) (by omega) (Or4 h0 h1 h2 g0 g1 g2))⟩

theorem Xor4 {a0 a1 a2 a3 b0 b1 b2 b3 : Nat} (h0 : a0 < 18446744073709551616) (h1 : a1 < 18446744073709551616) (h2 : a2 < 18446744073709551616) (g0 : b0 < 18446744073709551616) (g1 : b1 < 18446744073709551616) (g2 : b2 < 18446744073709551616) :
    (a0 + 18446744073709551616 * a1 + 340282366920938463463374607431768211456 * a2 + 6277101735386680763835789423207666416102355444464034512896 * a3) ^^^ (b0 + 18446744073709551616 * b1 + 340282366920938463463374607431768211456 * b2 + 6277101735386680763835789423207666416102355444464034512896 * b3) = (a0 ^^^ b0) + 18446744073709551616 * (a1 ^^^ b1) + 340282366920938463463374607431768211456 * (a2 ^^^ b2) + 6277101735386680763835789423207666416102355444464034512896 * (a3 ^^^ b3) := by
  rw [nest4, nest4, nest4, xor2 _ _ h0 g0, xor2 _ _ h1 g1, xor2 _ _ h2 g2]
/-- u256.Xor -/
theorem UXor_spec {S : St} {a b : Nat} (ha : a < 115792089237316195423570985008687907853269984665640564039457584007913129639936) (hb : b < 115792089237316195423570985008687907853269984665640564039457584007913129639936) :
    CallG Hvaf.prog 296 #[wordV a, wordV b] S fun r S' => S = S' ∧ r = wordV (a ^^^ b) := by
  obtain ⟨a0, a1, a2, a3, h0, h1, h2, h3, ea, va⟩ := word_cases ha
  obtain ⟨b0, b1, b2, b3, g0, g1, g2, g3, eb, vb⟩ := word_cases hb
  rw [va, vb]
  clear va ha vb hb
  refine CallG.start (C := mkC Hvaf.prog) cok (args := [WV a0 a1 a2 a3, WV b0 b1 b2 b3]) Hvaf.func296 rfl Hvaf.ntmps296 (by simp) (by kernel_rfl) ?_
  intro xa xb xr
  repeat (first | refine SeqS.go cok ?_ | refine And.intro (fillOk_of (Eq.refl true)) ?_ | refine And.intro (by dsimp only; omega) ?_ | (refine NatS.keep ?_; first | with_reducible refine NatS.lit ?_) | (refine ValS.keep ?_; first | (with_reducible refine ValS.kU64 ?_; first | (with_reducible refine ValS.xorFU64 ?_ ?_ (fun _ => ?_); omega; omega))) | (refine QuG.keep ?_; first | refine QuG.l1 cok 1 rfl rfl rfl rfl rfl (by first | exact Nat.le_of_ble_eq_true rfl | omega | (dsimp only; omega) | (simp only [addS_eq, mulS_eq]; omega)) ?_ | refine QuG.l1 cok 2 rfl rfl rfl rfl rfl (by first | exact Nat.le_of_ble_eq_true rfl | omega | (dsimp only; omega) | (simp only [addS_eq, mulS_eq]; omega)) ?_) | (refine LdG.keep ?_; first | refine LdG.lN cok 0 rfl rfl rfl rfl rfl (by first | exact Nat.le_of_ble_eq_true rfl | omega | (dsimp only; omega) | (simp only [addS_eq, mulS_eq]; omega)) ?_) | (refine OpG.keep ?_; first | refine OpG.sL cok 0 rfl rfl rfl rfl rfl rfl rfl (by first | exact Nat.le_of_ble_eq_true rfl | omega | (dsimp only; omega) | (simp only [addS_eq, mulS_eq]; omega)) ?_))
  obtain ⟨rfl⟩ := ea
  obtain ⟨rfl⟩ := eb
  exact Fin.drop S.G [_, _, _] ⟨rfl, tW rfl (WV_eq (by omega) (by omega) (by omega) (by omega) (Xor4 h0 h1 h2 g0 g1 g2))⟩

/-- u256.Not -/
theorem UNot_spec {S : St} {a : Nat} (ha : a < 115792089237316195423570985008687907853269984665640564039457584007913129639936) :
    CallG Hvaf.prog 297 #[wordV a] S fun r S' => S = S' ∧ r = wordV (115792089237316195423570985008687907853269984665640564039457584007913129639936 - 1 - a) := by
  obtain ⟨a0, a1, a2, a3, h0, h1, h2, h3, ea, va⟩ := word_cases ha
  rw [va]
  clear va ha
  refine CallG.start (C := mkC Hvaf.prog) cok (args := [WV a0 a1 a2 a3]) Hvaf.func297 rfl Hvaf.ntmps297 (by simp) (by kernel_rfl) ?_
  intro xa xr
  repeat (first | refine SeqS.go cok ?_ | refine And.intro (fillOk_of (Eq.refl true)) ?_ | refine And.intro (by dsimp only; omega) ?_ | (refine NatS.keep ?_; first | with_reducible refine NatS.lit ?_) | (refine ValS.keep ?_; first | (with_reducible refine ValS.kU64 ?_; first | (with_reducible refine ValS.notU64 ?_ ?_ ; omega))) | (refine QuG.keep ?_; first | refine QuG.l1 cok 1 rfl rfl rfl rfl rfl (by first | exact Nat.le_of_ble_eq_true rfl | omega | (dsimp only; omega) | (simp only [addS_eq, mulS_eq]; omega)) ?_) | (refine LdG.keep ?_; first | refine LdG.lN cok 0 rfl rfl rfl rfl rfl (by first | exact Nat.le_of_ble_eq_true rfl | omega | (dsimp only; omega) | (simp only [addS_eq, mulS_eq]; omega)) ?_) | (refine OpG.keep ?_; first | refine OpG.sL cok 0 rfl rfl rfl rfl rfl rfl rfl (by first | exact Nat.le_of_ble_eq_true rfl | omega | (dsimp only; omega) | (simp only [addS_eq, mulS_eq]; omega)) ?_))
  obtain ⟨rfl⟩ := ea
  exact Fin.drop S.G [_, _] ⟨rfl, tW rfl (WV_eq (by omega) (by omega) (by omega) (by omega) (not4 h0 h1 h2 h3))⟩

/-- u256.signed -/
theorem Usigned_spec {S : St} {a : Nat} (ha : a < 115792089237316195423570985008687907853269984665640564039457584007913129639936) (t : Bool) :
    CallG Hvaf.prog 385 #[wordV a, .bool t] S fun r S' => S = S' ∧ r = wordV (if t then (0 + 115792089237316195423570985008687907853269984665640564039457584007913129639936 - a) % 115792089237316195423570985008687907853269984665640564039457584007913129639936 else a) := by
  replace ha : Hid _ := ⟨ha⟩
  refine CallG.start (C := mkC Hvaf.prog) cok (args := [wordV a, .bool t]) Hvaf.func385 rfl Hvaf.ntmps385 (by simp) (by kernel_rfl) ?_
  intro xa xr
  cases t
  · repeat (first | refine SeqS.go cok ?_ | refine CondS.f rfl ?_ | (refine QuG.keep ?_; first | refine QuG.lN cok 1 rfl rfl rfl rfl rfl (by first | exact Nat.le_of_ble_eq_true rfl | omega | (dsimp only; omega) | (simp only [addS_eq, mulS_eq]; omega)) ?_) | (refine LdG.keep ?_; first | refine LdG.lN cok 0 rfl rfl rfl rfl rfl (by first | exact Nat.le_of_ble_eq_true rfl | omega | (dsimp only; omega) | (simp only [addS_eq, mulS_eq]; omega)) ?_) | (refine OpG.keep ?_; first | refine OpG.sL cok 0 rfl rfl rfl rfl rfl rfl rfl (by first | exact Nat.le_of_ble_eq_true rfl | omega | (dsimp only; omega) | (simp only [addS_eq, mulS_eq]; omega)) ?_))
    exact Fin.drop S.G [_, _] ⟨rfl, rfl⟩
  · repeat (first | refine SeqS.go cok ?_ | refine CondS.t rfl ?_ | refine And.intro (fillOk_of (Eq.refl true)) ?_ | (refine QuG.keep ?_; first | refine QuG.lN cok 1 rfl rfl rfl rfl rfl (by first | exact Nat.le_of_ble_eq_true rfl | omega | (dsimp only; omega) | (simp only [addS_eq, mulS_eq]; omega)) ?_))
    refine (USub_spec (a := 0) (by omega) ha.out).mono ?_
    rintro r _ - ⟨rfl, rfl⟩
    repeat (first | refine SeqS.go cok ?_ | (refine LdG.keep ?_; first | refine LdG.lN cok 0 rfl rfl rfl rfl rfl (by first | exact Nat.le_of_ble_eq_true rfl | omega | (dsimp only; omega) | (simp only [addS_eq, mulS_eq]; omega)) ?_) | (refine OpG.keep ?_; first | refine OpG.sL cok 0 rfl rfl rfl rfl rfl rfl rfl (by first | exact Nat.le_of_ble_eq_true rfl | omega | (dsimp only; omega) | (simp only [addS_eq, mulS_eq]; omega)) ?_))
    exact Fin.drop S.G [_, _] ⟨rfl, rfl⟩

/-- u256.Slt -/
theorem USlt_spec {S : St} {a b : Nat} (ha : a < 115792089237316195423570985008687907853269984665640564039457584007913129639936) (hb : b < 115792089237316195423570985008687907853269984665640564039457584007913129639936) :
    CallG Hvaf.prog 291 #[wordV a, wordV b] S fun r S' => S = S' ∧ r = .bool (if decide (57896044618658097711785492504343953926634992332820282019728792003956564819968 ≤ a) != decide (57896044618658097711785492504343953926634992332820282019728792003956564819968 ≤ b) then decide (57896044618658097711785492504343953926634992332820282019728792003956564819968 ≤ a) else decide (a < b)) := by
  replace ha : Hid _ := ⟨ha⟩
  replace hb : Hid _ := ⟨hb⟩
  refine CallG.start (C := mkC Hvaf.prog) cok (args := [wordV a, wordV b]) Hvaf.func291 rfl Hvaf.ntmps291 (by simp) (by kernel_rfl) ?_
  intro xa xb
  repeat (first | refine SeqS.go cok ?_ | (refine QuG.keep ?_; first | refine QuG.lN cok 0 rfl rfl rfl rfl rfl (by first | exact Nat.le_of_ble_eq_true rfl | omega | (dsimp only; omega) | (simp only [addS_eq, mulS_eq]; omega)) ?_ | refine QuG.lN cok 1 rfl rfl rfl rfl rfl (by first | exact Nat.le_of_ble_eq_true rfl | omega | (dsimp only; omega) | (simp only [addS_eq, mulS_eq]; omega)) ?_) | refine W.drawI 1 cok [0, 1, 0, 7, 15] [0, 2, 1, 3, 4] [0, 2] (by kernel_rfl) (by kernel_rfl) ?_)
  refine (Uneg_spec ha.out).mono ?_
  rintro r _ - ⟨rfl, rfl⟩
  repeat (first | (refine still_in ?_; first | refine still_nil ?_ | refine still_drop (by decide) ?_ | (refine still_keep (by decide) rfl ?_ ?_; first | exact QuV.lN cok 0 rfl rfl rfl rfl rfl (by first | exact Nat.le_of_ble_eq_true rfl | omega | (dsimp only; omega) | (simp only [addS_eq, mulS_eq]; omega)) rfl)))
  refine (Uneg_spec hb.out).mono ?_
  rintro r _ - ⟨rfl, rfl⟩
  repeat (first | refine SeqS.go cok ?_ | (refine still_in ?_; first | refine still_nil ?_ | refine still_drop (by decide) ?_) | (refine QuG.keep ?_; first | refine QuG.neB cok rfl rfl rfl rfl ?_))
  (first | refine CondS.nd rfl (fun hc => ?_) (fun hc => ?_))
  · repeat (first | (refine QuG.keep ?_; first | refine QuG.lN cok 1 rfl rfl rfl rfl rfl (by first | exact Nat.le_of_ble_eq_true rfl | omega | (dsimp only; omega) | (simp only [addS_eq, mulS_eq]; omega)) ?_))
    refine (Uneg_spec ha.out).mono ?_
    rintro r _ - ⟨rfl, rfl⟩
    repeat (first | refine SeqS.go cok ?_)
    exact Fin.drop S.G [_, _] ⟨rfl, vB rfl (by rw [if_pos]; simpa using hc)⟩
  · repeat (first | refine SeqS.go cok ?_ | (refine QuG.keep ?_; first | refine QuG.lN cok 0 rfl rfl rfl rfl rfl (by first | exact Nat.le_of_ble_eq_true rfl | omega | (dsimp only; omega) | (simp only [addS_eq, mulS_eq]; omega)) ?_ | refine QuG.lN cok 1 rfl rfl rfl rfl rfl (by first | exact Nat.le_of_ble_eq_true rfl | omega | (dsimp only; omega) | (simp only [addS_eq, mulS_eq]; omega)) ?_))
    refine (ULt_spec ha.out hb.out).mono ?_
    rintro r _ - ⟨rfl, rfl⟩
    repeat (first | refine SeqS.go cok ?_)
    exact Fin.drop S.G [_, _] ⟨rfl, vB rfl (by rw [if_neg]; simpa using hc)⟩

/-- u256.Sgt -/
theorem USgt_spec {S : St} {a b : Nat} (ha : a < 115792089237316195423570985008687907853269984665640564039457584007913129639936) (hb : b < 115792089237316195423570985008687907853269984665640564039457584007913129639936) :
    CallG Hvaf.prog 292 #[wordV a, wordV b] S fun r S' => S = S' ∧ r = .bool (if decide (57896044618658097711785492504343953926634992332820282019728792003956564819968 ≤ b) != decide (57896044618658097711785492504343953926634992332820282019728792003956564819968 ≤ a) then decide (57896044618658097711785492504343953926634992332820282019728792003956564819968 ≤ b) else decide (b < a)) := by
  replace ha : Hid _ := ⟨ha⟩
  replace hb : Hid _ := ⟨hb⟩
  refine CallG.start (C := mkC Hvaf.prog) cok (args := [wordV a, wordV b]) Hvaf.func292 rfl Hvaf.ntmps292 (by simp) (by kernel_rfl) ?_
  intro xa xb
  repeat (first | refine SeqS.go cok ?_ | (refine QuG.keep ?_; first | refine QuG.lN cok 0 rfl rfl rfl rfl rfl (by first | exact Nat.le_of_ble_eq_true rfl | omega | (dsimp only; omega) | (simp only [addS_eq, mulS_eq]; omega)) ?_ | refine QuG.lN cok 1 rfl rfl rfl rfl rfl (by first | exact Nat.le_of_ble_eq_true rfl | omega | (dsimp only; omega) | (simp only [addS_eq, mulS_eq]; omega)) ?_))
  refine (USlt_spec hb.out ha.out).mono ?_
  rintro r _ - ⟨rfl, rfl⟩
  repeat (first | refine SeqS.go cok ?_)
  exact Fin.drop S.G [_, _] ⟨rfl, rfl⟩
end Go.Proofs.YgvafwGreat
