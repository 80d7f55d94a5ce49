import Derived.Test.YgvafwGreatK1
import Derived.Test.YgvafwGreatK12d
import Derived.Test.YgvafwGreatNum2
import Derived.Test.YgvafwGreatU13
set_option maxRecDepth 100000
set_option maxHeartbeats 4000000
set_option linter.unusedVariables false
set_option linter.unusedSimpArgs false
-- v2
-- v4
-- v5
-- v6
-- v7
namespace Go.Proofs.YgvafwGreat
open Go.HL Go.Proofs

theorem leN_val : ∀ ds, leN ds = val ds
  | [] => rfl
  | d :: ds => by rw [leN, val, leN_val ds]
/-- The bytes in the other order, as the engine turns them. -/
def trn1 (x : Nat) : Nat := (x / 2 ^ 8 &&& 71777214294589695) ||| (x &&& 71777214294589695) * 2 ^ 8 % 2 ^ 64
def trn2 (x : Nat) : Nat := (x / 2 ^ 16 &&& 281470681808895) ||| (x &&& 281470681808895) * 2 ^ 16 % 2 ^ 64
def trn3 (x : Nat) : Nat := x / 2 ^ 32 ||| x * 2 ^ 32 % 2 ^ 64
def trnN (x : Nat) : Nat := trn3 (trn2 (trn1 x))
theorem msk1 : ∀ z, z < 64 → Nat.testBit 71777214294589695 z = decide (z % 16 < 8) := by decide +kernel
theorem msk2 : ∀ z, z < 64 → Nat.testBit 281470681808895 z = decide (z % 32 < 16) := by decide +kernel
theorem bit64 {x z : Nat} (hx : x < 2 ^ 64) (hz : 64 ≤ z) : x.testBit z = false := Nat.testBit_lt_two_pow (Nat.lt_of_lt_of_le hx (Nat.pow_le_pow_right (by decide) hz))
theorem trn1_bit {x z : Nat} (hx : x < 2 ^ 64) (hz : z < 64) : (trn1 x).testBit z = x.testBit (if z % 16 < 8 then z + 8 else z - 8) := by
  unfold trn1
  rw [Nat.testBit_or, Nat.testBit_and, Nat.testBit_div_two_pow, Nat.testBit_mod_two_pow, Nat.testBit_mul_two_pow, Nat.testBit_and, msk1 z hz]
  by_cases h : z % 16 < 8
  · rw [if_pos h, decide_eq_true h, decide_eq_true hz]
    by_cases h8 : 8 ≤ z
    · rw [msk1 (z - 8) (by omega), decide_eq_false (by omega : ¬ (z - 8) % 16 < 8)]; simp
    · rw [decide_eq_false (by omega : ¬ z ≥ 8)]; simp
  · rw [if_neg h, decide_eq_false h, decide_eq_true hz, msk1 (z - 8) (by omega), decide_eq_true (by omega : (z - 8) % 16 < 8), decide_eq_true (by omega : z ≥ 8)]; simp
theorem trn2_bit {x z : Nat} (hx : x < 2 ^ 64) (hz : z < 64) : (trn2 x).testBit z = x.testBit (if z % 32 < 16 then z + 16 else z - 16) := by
  unfold trn2
  rw [Nat.testBit_or, Nat.testBit_and, Nat.testBit_div_two_pow, Nat.testBit_mod_two_pow, Nat.testBit_mul_two_pow, Nat.testBit_and, msk2 z hz]
  by_cases h : z % 32 < 16
  · rw [if_pos h, decide_eq_true h, decide_eq_true hz]
    by_cases h8 : 16 ≤ z
    · rw [msk2 (z - 16) (by omega), decide_eq_false (by omega : ¬ (z - 16) % 32 < 16)]; simp
    · rw [decide_eq_false (by omega : ¬ z ≥ 16)]; simp
  · rw [if_neg h, decide_eq_false h, decide_eq_true hz, msk2 (z - 16) (by omega), decide_eq_true (by omega : (z - 16) % 32 < 16), decide_eq_true (by omega : z ≥ 16)]; simp
theorem trn3_bit {x z : Nat} (hx : x < 2 ^ 64) (hz : z < 64) : (trn3 x).testBit z = x.testBit (if z < 32 then z + 32 else z - 32) := by
  unfold trn3
  rw [Nat.testBit_or, Nat.testBit_div_two_pow, Nat.testBit_mod_two_pow, Nat.testBit_mul_two_pow, decide_eq_true hz]
  by_cases h : z < 32
  · rw [if_pos h, decide_eq_false (by omega : ¬ z ≥ 32)]; simp
  · rw [if_neg h, bit64 hx (by omega : 64 ≤ z + 32), decide_eq_true (by omega : z ≥ 32)]; simp
theorem trn1_lt (x : Nat) : trn1 x < 2 ^ 64 := Nat.or_lt_two_pow (Nat.lt_of_le_of_lt (Nat.and_le_right) (by decide)) (Nat.mod_lt _ (by decide))
theorem trn2_lt (x : Nat) : trn2 x < 2 ^ 64 := Nat.or_lt_two_pow (Nat.lt_of_le_of_lt (Nat.and_le_right) (by decide)) (Nat.mod_lt _ (by decide))
theorem trnN_lt {x : Nat} : trnN x < 2 ^ 64 := Nat.or_lt_two_pow (Nat.lt_of_le_of_lt (Nat.div_le_self _ _) (trn2_lt _)) (Nat.mod_lt _ (by decide))
theorem trn_bit {x z : Nat} (hx : x < 2 ^ 64) (hz : z < 64) : (trnN x).testBit z = x.testBit (56 - 8 * (z / 8) + z % 8) := by
  unfold trnN
  rw [trn3_bit (trn2_lt _) hz, trn2_bit (trn1_lt _) (by split <;> omega), trn1_bit hx (by split <;> split <;> omega)]
  congr 1
  split <;> split <;> split <;> omega
/-- The law of turned. -/
theorem trn_bev {ds : List Nat} (h : ∀ d ∈ ds, d < 256) (hl : ds.length = 8) : trnN (bev ds) = leN ds := by
  have hr : ∀ d ∈ ds.reverse, d < 256 := fun d hd => h d (List.mem_reverse.1 hd)
  have hb : bev ds = leN ds.reverse := (leN_val _).symm
  have hlt := leN_lt _ hr
  rw [List.length_reverse, hl] at hlt
  have hlt2 := leN_lt _ h
  rw [hl] at hlt2
  rw [hb]
  apply Nat.eq_of_testBit_eq
  intro z
  by_cases hz : z < 64
  · rw [trn_bit hlt hz, leN_bit _ hr, leN_bit _ h, show (56 - 8 * (z / 8) + z % 8) / 8 = 7 - z / 8 by omega, show (56 - 8 * (z / 8) + z % 8) % 8 = z % 8 by omega]
    congr 1
    rw [List.getD_eq_getElem?_getD, List.getD_eq_getElem?_getD, List.getElem?_reverse (by omega), hl, show 8 - 1 - (7 - z / 8) = z / 8 by omega]
  · rw [bit64 (trnN_lt) (by omega), bit64 hlt2 (by omega)]
/-- keccak.RC -/
theorem kRC {S : St} {i : Nat} (hi : i < 24) : CallG Hvaf.prog 408 #[.int .u8 (i : Nat)] S fun r S' => S = S' ∧ r = .int .u64 (rcL.getD i 0 : Nat) := by
  refine CallG.start (C := mkC Hvaf.prog) cok (args := [.int .u8 (i : Nat)]) Hvaf.func408 rfl Hvaf.ntmps408 (by simp) (by kernel_rfl) ?_
  repeat (first | (refine QuG.keep ?_; refine QuG.ixA cok (xs := rcL) (k := .u64) rfl rfl rfl rfl rfl rfl rfl rfl hi ?_) | refine SeqS.go cok ?_ | refine And.intro (fillOk_of (Eq.refl true)) ?_ | (refine CondS.keep ?_; first | refine CondS.d0 rfl (by omega) ?_))
  exact Fin.same ⟨rfl, rfl⟩
/-- keccak.turned -/
theorem kTurned {S : St} {x : Nat} (hx : x < 18446744073709551616) : CallG Hvaf.prog 253 #[.int .u64 (x : Nat)] S fun r S' => S = S' ∧ r = .int .u64 (trnN x : Nat) := by
  have b1 : x / 2 ^ 8 &&& 71777214294589695 < 18446744073709551616 := Nat.lt_of_le_of_lt Nat.and_le_right (by decide)
  have b2 : x &&& 71777214294589695 < 18446744073709551616 := Nat.lt_of_le_of_lt Nat.and_le_right (by decide)
  have y1 : ((x / 2 ^ 8 &&& 71777214294589695) ||| (x &&& 71777214294589695) * 2 ^ 8 % 18446744073709551616) < 18446744073709551616 := trn1_lt x
  have b3 : ((x / 2 ^ 8 &&& 71777214294589695) ||| (x &&& 71777214294589695) * 2 ^ 8 % 18446744073709551616) / 2 ^ 16 &&& 281470681808895 < 18446744073709551616 := Nat.lt_of_le_of_lt Nat.and_le_right (by decide)
  have b4 : ((x / 2 ^ 8 &&& 71777214294589695) ||| (x &&& 71777214294589695) * 2 ^ 8 % 18446744073709551616) &&& 281470681808895 < 18446744073709551616 := Nat.lt_of_le_of_lt Nat.and_le_right (by decide)
  have y2 : (((x / 2 ^ 8 &&& 71777214294589695) ||| (x &&& 71777214294589695) * 2 ^ 8 % 18446744073709551616) / 2 ^ 16 &&& 281470681808895) ||| (((x / 2 ^ 8 &&& 71777214294589695) ||| (x &&& 71777214294589695) * 2 ^ 8 % 18446744073709551616) &&& 281470681808895) * 2 ^ 16 % 18446744073709551616 < 18446744073709551616 := trn2_lt (trn1 x)
  refine CallG.start (C := mkC Hvaf.prog) cok (args := [.int .u64 (x : Nat)]) Hvaf.func253 rfl Hvaf.ntmps253 (by simp) (by kernel_rfl) ?_
  repeat (first | refine SeqS.go cok ?_ | refine And.intro (by omega) ?_ | (refine ValS.keep ?_; first | (with_reducible refine ValS.kU64 ?_; first | (with_reducible refine ValS.orFU64 ?_ ?_ (fun _ => ?_); omega; omega) | (with_reducible refine ValS.andU64_L ?_ ?_ ?_ ; omega; omega) | (with_reducible refine ValS.shrU64_L ?_ ?_ ; omega) | (with_reducible refine ValS.shlWU64_L ?_ ?_ ; omega))))
  exact Fin.same ⟨rfl, rfl⟩
end Go.Proofs.YgvafwGreat
