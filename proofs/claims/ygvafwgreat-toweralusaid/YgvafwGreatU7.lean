import Derived.Test.YgvafwGreatU6
set_option maxRecDepth 100000
set_option maxHeartbeats 4000000
set_option linter.unusedVariables false
set_option linter.unusedSimpArgs false
-- v2
namespace Go.Proofs.YgvafwGreat
open Go.HL Go.Proofs

theorem shr_law {a b : Nat} (hb : b < 115792089237316195423570985008687907853269984665640564039457584007913129639936) : (if a < 256 then (b + 115792089237316195423570985008687907853269984665640564039457584007913129639936 * (0 + 18446744073709551616 * 0 + 340282366920938463463374607431768211456 * 0 + 6277101735386680763835789423207666416102355444464034512896 * 0)) / 2 ^ a % 115792089237316195423570985008687907853269984665640564039457584007913129639936 else 0 + 18446744073709551616 * 0 + 340282366920938463463374607431768211456 * 0 + 6277101735386680763835789423207666416102355444464034512896 * 0) = b / 2 ^ (min a 256) := by
  split
  · rename_i h
    rw [Nat.min_eq_left (by omega)]
    have : b + 115792089237316195423570985008687907853269984665640564039457584007913129639936 * (0 + 18446744073709551616 * 0 + 340282366920938463463374607431768211456 * 0 + 6277101735386680763835789423207666416102355444464034512896 * 0) = b := by omega
    rw [this]
    exact Nat.mod_eq_of_lt (Nat.lt_of_le_of_lt (Nat.div_le_self _ _) hb)
  · rw [Nat.min_eq_right (by omega)]
    have : b / 2 ^ 256 = 0 := Nat.div_eq_of_lt hb
    rw [this]
theorem sar_law {a b : Nat} (hb : b < 115792089237316195423570985008687907853269984665640564039457584007913129639936) (hn : 57896044618658097711785492504343953926634992332820282019728792003956564819968 ≤ b) : (if a < 256 then (b + 115792089237316195423570985008687907853269984665640564039457584007913129639936 * (18446744073709551615 + 18446744073709551616 * 18446744073709551615 + 340282366920938463463374607431768211456 * 18446744073709551615 + 6277101735386680763835789423207666416102355444464034512896 * 18446744073709551615)) / 2 ^ a % 115792089237316195423570985008687907853269984665640564039457584007913129639936 else 18446744073709551615 + 18446744073709551616 * 18446744073709551615 + 340282366920938463463374607431768211456 * 18446744073709551615 + 6277101735386680763835789423207666416102355444464034512896 * 18446744073709551615) = 115792089237316195423570985008687907853269984665640564039457584007913129639936 - 1 - (115792089237316195423570985008687907853269984665640564039457584007913129639936 - 1 - b) / 2 ^ (min a 256) := by
  have eF : 18446744073709551615 + 18446744073709551616 * 18446744073709551615 + 340282366920938463463374607431768211456 * 18446744073709551615 + 6277101735386680763835789423207666416102355444464034512896 * 18446744073709551615 = 115792089237316195423570985008687907853269984665640564039457584007913129639936 - 1 := by omega
  rw [eF]
  split
  · rename_i h
    rw [Nat.min_eq_left (by omega)]
    have e : 2 ^ a * 2 ^ (256 - a) = 115792089237316195423570985008687907853269984665640564039457584007913129639936 := by rw [← Nat.pow_add, show a + (256 - a) = 256 by omega]
    have hp := Nat.two_pow_pos a
    have hK := Nat.two_pow_pos (256 - a)
    have d := Nat.div_add_mod (115792089237316195423570985008687907853269984665640564039457584007913129639936 - 1 - b) (2 ^ a)
    have hr := Nat.mod_lt (115792089237316195423570985008687907853269984665640564039457584007913129639936 - 1 - b) hp
    have hq : (115792089237316195423570985008687907853269984665640564039457584007913129639936 - 1 - b) / 2 ^ a < 115792089237316195423570985008687907853269984665640564039457584007913129639936 := Nat.lt_of_le_of_lt (Nat.div_le_self _ _) (by omega)
    generalize hQ : (115792089237316195423570985008687907853269984665640564039457584007913129639936 - 1 - b) / 2 ^ a = q at *
    generalize hR : (115792089237316195423570985008687907853269984665640564039457584007913129639936 - 1 - b) % 2 ^ a = r at *
    have key : b + 115792089237316195423570985008687907853269984665640564039457584007913129639936 * (115792089237316195423570985008687907853269984665640564039457584007913129639936 - 1) = 2 ^ a * (115792089237316195423570985008687907853269984665640564039457584007913129639936 * (2 ^ (256 - a) - 1) + (115792089237316195423570985008687907853269984665640564039457584007913129639936 - 1 - q)) + (2 ^ a - 1 - r) := by
      have f1 : 2 ^ a * (115792089237316195423570985008687907853269984665640564039457584007913129639936 * (2 ^ (256 - a) - 1) + (115792089237316195423570985008687907853269984665640564039457584007913129639936 - 1 - q)) = 115792089237316195423570985008687907853269984665640564039457584007913129639936 * (115792089237316195423570985008687907853269984665640564039457584007913129639936 - 2 ^ a) + (115792089237316195423570985008687907853269984665640564039457584007913129639936 * 2 ^ a - 2 ^ a - 2 ^ a * q) := by
        have f0 : 2 ^ a * (115792089237316195423570985008687907853269984665640564039457584007913129639936 - 1) = 115792089237316195423570985008687907853269984665640564039457584007913129639936 * 2 ^ a - 2 ^ a := by rw [Nat.mul_sub, Nat.mul_one, Nat.mul_comm]
        rw [Nat.mul_add, Nat.mul_left_comm, Nat.mul_sub (2 ^ a) (2 ^ (256 - a)), e, Nat.mul_one, Nat.mul_sub (2 ^ a) (115792089237316195423570985008687907853269984665640564039457584007913129639936 - 1) q, f0]
      have g1 : 2 ^ a ≤ 115792089237316195423570985008687907853269984665640564039457584007913129639936 := by rw [← e]; exact Nat.le_mul_of_pos_right _ hK
      rw [f1]
      omega
    rw [key, Nat.mul_add_div hp, Nat.div_eq_of_lt (by omega), Nat.add_zero, Nat.mul_add_mod, Nat.mod_eq_of_lt (by omega)]
  · rw [Nat.min_eq_right (by omega)]
    have : (115792089237316195423570985008687907853269984665640564039457584007913129639936 - 1 - b) / 2 ^ 256 = 0 := Nat.div_eq_of_lt (by omega)
    rw [this]

/-- u256.Shr -/
theorem UShr_spec {S : St} {a b : Nat} (ha : a < 115792089237316195423570985008687907853269984665640564039457584007913129639936) (hb : b < 115792089237316195423570985008687907853269984665640564039457584007913129639936) :
    CallG Hvaf.prog 300 #[wordV a, wordV b] S fun r S' => S = S' ∧ r = wordV (b / 2 ^ (min a 256)) := by
  rw [← shr_law hb]
  refine CallG.start (C := mkC Hvaf.prog) cok (args := [wordV a, wordV b]) Hvaf.func300 rfl Hvaf.ntmps300 (by simp) (by kernel_rfl) ?_
  intro xa xb xr
  repeat (first | refine SeqS.go cok ?_ | (refine QuG.keep ?_; first | refine QuG.lN cok 1 rfl rfl rfl rfl rfl (by first | exact Nat.le_of_ble_eq_true rfl | omega | (dsimp only; omega) | (simp only [addS_eq, mulS_eq]; omega)) ?_ | refine QuG.lN cok 2 rfl rfl rfl rfl rfl (by first | exact Nat.le_of_ble_eq_true rfl | omega | (dsimp only; omega) | (simp only [addS_eq, mulS_eq]; omega)) ?_))
  refine (Udown_spec (f := 0) ha hb (.inl rfl)).mono ?_
  rintro r _ - ⟨rfl, rfl⟩
  repeat (first | refine SeqS.go cok ?_ | (refine LdG.keep ?_; first | refine LdG.lN cok 0 rfl rfl rfl rfl rfl (by first | exact Nat.le_of_ble_eq_true rfl | omega | (dsimp only; omega) | (simp only [addS_eq, mulS_eq]; omega)) ?_) | (refine OpG.keep ?_; first | refine OpG.sL cok 0 rfl rfl rfl rfl rfl rfl rfl (by first | exact Nat.le_of_ble_eq_true rfl | omega | (dsimp only; omega) | (simp only [addS_eq, mulS_eq]; omega)) ?_))
  exact Fin.drop S.G [_, _, _] ⟨rfl, rfl⟩

theorem wrapI64n (n : Int) (h0 : 9223372036854775808 ≤ n) (h1 : n < 18446744073709551616) : IntKind.wrap .i64 n = n - 18446744073709551616 := by
  have e : IntKind.bits .i64 = 64 := rfl
  have e2 : IntKind.signed .i64 = true := rfl
  unfold IntKind.wrap
  simp only [e, e2, Bool.true_and, ge_iff_le, decide_eq_true_eq]
  split <;> omega
theorem ishr_neg (n : Int) (h0 : -9223372036854775808 ≤ n) (h1 : n < 0) : ishr .i64 n 63 = -1 := by
  have e : IntKind.bits .i64 = 64 := rfl
  unfold ishr
  rw [e, show ((63 : Int).toNat) = 63 from rfl, show min 63 64 = 63 from rfl, Int.fdiv_eq_ediv_of_nonneg _ (by decide)]
  omega

/-- u256.Sar -/
theorem USar_spec {S : St} {a b : Nat} (ha : a < 115792089237316195423570985008687907853269984665640564039457584007913129639936) (hb : b < 115792089237316195423570985008687907853269984665640564039457584007913129639936) :
    CallG Hvaf.prog 301 #[wordV a, wordV b] S fun r S' => S = S' ∧ r = wordV (if 57896044618658097711785492504343953926634992332820282019728792003956564819968 ≤ b then 115792089237316195423570985008687907853269984665640564039457584007913129639936 - 1 - (115792089237316195423570985008687907853269984665640564039457584007913129639936 - 1 - b) / 2 ^ (min a 256) else b / 2 ^ (min a 256)) := by
  by_cases hn : 57896044618658097711785492504343953926634992332820282019728792003956564819968 ≤ b
  · rw [if_pos hn, ← sar_law hb hn]
    have h3 : 9223372036854775808 ≤ b / 6277101735386680763835789423207666416102355444464034512896 % 18446744073709551616 := by omega
    have h4 : b / 6277101735386680763835789423207666416102355444464034512896 % 18446744073709551616 < 18446744073709551616 := Nat.mod_lt _ (by omega)
    replace ha : Hid _ := ⟨ha⟩
    replace hb : Hid _ := ⟨hb⟩
    replace hn : Hid _ := ⟨hn⟩
    refine CallG.start (C := mkC Hvaf.prog) cok (args := [wordV a, wordV b]) Hvaf.func301 rfl Hvaf.ntmps301 (by simp) (by kernel_rfl) ?_
    intro xa xb xr
    repeat (first | refine SeqS.go cok ?_ | refine And.intro (by dsimp only; omega) ?_ | (refine NatS.keep ?_; first | with_reducible refine NatS.lit ?_) | (refine QuG.keep ?_; first | refine QuG.l1 cok 1 rfl rfl rfl rfl rfl (by first | exact Nat.le_of_ble_eq_true rfl | omega | (dsimp only; omega) | (simp only [addS_eq, mulS_eq]; omega)) ?_ | refine QuG.lN cok 1 rfl rfl rfl rfl rfl (by first | exact Nat.le_of_ble_eq_true rfl | omega | (dsimp only; omega) | (simp only [addS_eq, mulS_eq]; omega)) ?_ | refine QuG.lN cok 2 rfl rfl rfl rfl rfl (by first | exact Nat.le_of_ble_eq_true rfl | omega | (dsimp only; omega) | (simp only [addS_eq, mulS_eq]; omega)) ?_))
    refine ValS.to (u := .int .i64 (((b / 6277101735386680763835789423207666416102355444464034512896 % 18446744073709551616 : Nat) : Int) - 18446744073709551616)) (by rw [wrapI64n _ (by omega) (by omega)]) ?_
    repeat (first | refine And.intro (by omega) ?_)
    refine ValS.to (u := .int .i64 (-1)) (by rw [ishr_neg _ (by omega) (by omega)]) ?_
    skip
    refine ValS.toN 18446744073709551615 rfl ?_
    skip
    refine (Udown_spec (f := 18446744073709551615) ha.out hb.out (.inr rfl)).mono ?_
    rintro r _ - ⟨rfl, rfl⟩
    repeat (first | refine SeqS.go cok ?_ | (refine LdG.keep ?_; first | refine LdG.lN cok 0 rfl rfl rfl rfl rfl (by first | exact Nat.le_of_ble_eq_true rfl | omega | (dsimp only; omega) | (simp only [addS_eq, mulS_eq]; omega)) ?_) | (refine OpG.keep ?_; first | refine OpG.sL cok 0 rfl rfl rfl rfl rfl rfl rfl (by first | exact Nat.le_of_ble_eq_true rfl | omega | (dsimp only; omega) | (simp only [addS_eq, mulS_eq]; omega)) ?_))
    exact Fin.drop S.G [_, _, _] ⟨rfl, rfl⟩
  · rw [if_neg hn, ← shr_law hb]
    have h3 : b / 6277101735386680763835789423207666416102355444464034512896 % 18446744073709551616 < 9223372036854775808 := by omega
    replace ha : Hid _ := ⟨ha⟩
    replace hb : Hid _ := ⟨hb⟩
    replace hn : Hid _ := ⟨hn⟩
    refine CallG.start (C := mkC Hvaf.prog) cok (args := [wordV a, wordV b]) Hvaf.func301 rfl Hvaf.ntmps301 (by simp) (by kernel_rfl) ?_
    intro xa xb xr
    repeat (first | refine SeqS.go cok ?_ | refine And.intro (by omega) ?_ | refine And.intro (by dsimp only; omega) ?_ | (refine NatS.keep ?_; first | with_reducible refine NatS.lit ?_) | (refine ValS.keep ?_; first | (with_reducible refine ValS.kI64 ?_; first | (with_reducible refine ValS.convI64 ?_ ?_ ; omega))) | (refine QuG.keep ?_; first | refine QuG.l1 cok 1 rfl rfl rfl rfl rfl (by first | exact Nat.le_of_ble_eq_true rfl | omega | (dsimp only; omega) | (simp only [addS_eq, mulS_eq]; omega)) ?_ | refine QuG.lN cok 1 rfl rfl rfl rfl rfl (by first | exact Nat.le_of_ble_eq_true rfl | omega | (dsimp only; omega) | (simp only [addS_eq, mulS_eq]; omega)) ?_ | refine QuG.lN cok 2 rfl rfl rfl rfl rfl (by first | exact Nat.le_of_ble_eq_true rfl | omega | (dsimp only; omega) | (simp only [addS_eq, mulS_eq]; omega)) ?_))
    refine ValS.toN 0 (by rw [show (63 : Int) = ((63 : Nat) : Int) from rfl, ishr_nat (k := .i64) _ 63 (by decide)]; omega) ?_
    repeat (first | (refine ValS.keep ?_; first | (with_reducible refine ValS.kU64 ?_; first | (with_reducible refine ValS.convU64 ?_ ?_ ; omega))))
    refine (Udown_spec (f := 0) ha.out hb.out (.inl rfl)).mono ?_
    rintro r _ - ⟨rfl, rfl⟩
    repeat (first | refine SeqS.go cok ?_ | (refine LdG.keep ?_; first | refine LdG.lN cok 0 rfl rfl rfl rfl rfl (by first | exact Nat.le_of_ble_eq_true rfl | omega | (dsimp only; omega) | (simp only [addS_eq, mulS_eq]; omega)) ?_) | (refine OpG.keep ?_; first | refine OpG.sL cok 0 rfl rfl rfl rfl rfl rfl rfl (by first | exact Nat.le_of_ble_eq_true rfl | omega | (dsimp only; omega) | (simp only [addS_eq, mulS_eq]; omega)) ?_))
    exact Fin.drop S.G [_, _, _] ⟨rfl, rfl⟩
end Go.Proofs.YgvafwGreat
