import Derived.Test.YgvafwGreatNat12
set_option maxRecDepth 100000
set_option linter.unusedVariables false
set_option linter.unusedSimpArgs false
namespace Go.Proofs.YgvafwGreat
open Go.HL Go.Proofs

theorem and_mask32 (x : Nat) : x &&& 4294967295 = x % 4294967296 := Nat.and_two_pow_sub_one_eq_mod x 32
theorem and_mask6 (x : Nat) : x &&& 63 = x % 64 := Nat.and_two_pow_sub_one_eq_mod x 6

/-- math/bits.RotateLeft64 -/
theorem RotateLeft64_spec {S : St} {x k : Nat} (hx : x < 2 ^ 64) (hk : k < 64) :
    CallG Hvaf.prog 433 #[.int .u64 (x : Nat), .int .i64 (k : Nat)] S fun r S' => S = S' ∧ r = .int .u64 ((x * 2 ^ k % 2 ^ 64 ||| x / 2 ^ (64 - k) : Nat) : Int) := by
  refine CallG.start (C := mkC Hvaf.prog) cok (args := [.int .u64 (x : Nat), .int .i64 (k : Nat)]) Hvaf.func433 rfl Hvaf.ntmps433 (by simp) (by kernel_rfl) ?_
  repeat (first | refine SeqS.go cok ?_ | refine And.intro (by omega) ?_ | (refine ValS.keep ?_; first | (with_reducible refine ValS.kU64 ?_; first | (with_reducible refine ValS.convU64 ?_ ?_ ; omega) | (with_reducible refine ValS.andU64_L ?_ ?_ ?_ ; omega; omega))))
  rw [and_mask6, Nat.mod_eq_of_lt hk]
  have h1 : x / 2 ^ (64 - k) < 2 ^ 64 := Nat.lt_of_le_of_lt (Nat.div_le_self _ _) hx
  repeat (first | refine SeqS.go cok ?_ | refine And.intro (by omega) ?_ | (refine ValS.keep ?_; first | (with_reducible refine ValS.kU64 ?_; first | (with_reducible refine ValS.subU64_M ?_ ?_ ?_ ; omega; omega) | (with_reducible refine ValS.orU64 ?_ ?_ ?_ ; omega; omega) | (with_reducible refine ValS.shrU64 ?_ ?_ ; omega) | (with_reducible refine ValS.shlWU64 ?_ ?_ ; omega))))
  exact Fin.same ⟨rfl, rfl⟩

theorem mul64_hi (a b c d : Nat) (ha : a < 4294967296) (hb : b < 4294967296) (hc : c < 4294967296) (hd : d < 4294967296) :
    a * c + (a * d + b * d / 2 ^ 32) / 2 ^ 32 + ((a * d + b * d / 2 ^ 32) % 4294967296 + b * c) / 2 ^ 32 = (4294967296 * a + b) * (4294967296 * c + d) / 18446744073709551616 := by
  have e : (4294967296 * a + b) * (4294967296 * c + d) = 18446744073709551616 * (a * c) + 4294967296 * (a * d) + 4294967296 * (b * c) + b * d := by grind
  rw [e]
  generalize a * c = p
  generalize a * d = q
  generalize b * c = r
  generalize b * d = t
  omega

/-- math/bits.Mul64 -/
theorem Mul64_spec {S : St} {x y : Nat} (hx : x < 2 ^ 64) (hy : y < 2 ^ 64) :
    CallG Hvaf.prog 254 #[.int .u64 (x : Nat), .int .u64 (y : Nat)] S fun r S' => S = S' ∧ r = .tuple #[.int .u64 ((x * y / 2 ^ 64 : Nat) : Int), .int .u64 ((x * y % 18446744073709551616 : Nat) : Int)] := by
  have m : ∀ z, z &&& 4294967295 ≤ 4294967295 := fun z => by rw [and_mask32]; omega
  have bx := m x
  have bY := m y
  have cx : x / 2 ^ 32 ≤ 4294967295 := by omega
  have cy : y / 2 ^ 32 ≤ 4294967295 := by omega
  have h00 : (x &&& 4294967295) * (y &&& 4294967295) ≤ 4294967295 * 4294967295 := Nat.mul_le_mul bx bY
  have h10 : (x / 2 ^ 32) * (y &&& 4294967295) ≤ 4294967295 * 4294967295 := Nat.mul_le_mul cx bY
  have h01 : (x &&& 4294967295) * (y / 2 ^ 32) ≤ 4294967295 * 4294967295 := Nat.mul_le_mul bx cy
  have h11 : (x / 2 ^ 32) * (y / 2 ^ 32) ≤ 4294967295 * 4294967295 := Nat.mul_le_mul cx cy
  have mm := m ((x / 2 ^ 32) * (y &&& 4294967295) + (x &&& 4294967295) * (y &&& 4294967295) / 2 ^ 32)
  refine CallG.start (C := mkC Hvaf.prog) cok (args := [.int .u64 (x : Nat), .int .u64 (y : Nat)]) Hvaf.func254 rfl Hvaf.ntmps254 (by simp) (by kernel_rfl) ?_
  repeat (first | refine SeqS.go cok ?_ | refine And.intro (by omega) ?_ | (refine ValS.keep ?_; first | (with_reducible refine ValS.kU64 ?_; first | (with_reducible refine ValS.addU64 ?_ ?_ ; omega) | (with_reducible refine ValS.andU64_L ?_ ?_ ?_ ; omega; omega) | (with_reducible refine ValS.shrU64_L ?_ ?_ ; omega) | (with_reducible refine ValS.mulU64 ?_ ?_ ; omega) | (with_reducible refine ValS.mulWU64 ?_ ))))
  refine Fin.same ⟨rfl, ?_⟩
  clear m bx bY cx cy h00 h10 h01 h11 mm
  refine Eq.trans (b := Value.tuple #[.int .u64 (((x / 2 ^ 32) * (y / 2 ^ 32) + ((x / 2 ^ 32) * (y &&& 4294967295) + (x &&& 4294967295) * (y &&& 4294967295) / 2 ^ 32) / 2 ^ 32 + (((x / 2 ^ 32) * (y &&& 4294967295) + (x &&& 4294967295) * (y &&& 4294967295) / 2 ^ 32 &&& 4294967295) + (x &&& 4294967295) * (y / 2 ^ 32)) / 2 ^ 32 : Nat) : Int), .int .u64 ((x * y % 18446744073709551616 : Nat) : Int)]) rfl ?_
  have e := mul64_hi (x / 2 ^ 32) (x % 4294967296) (y / 2 ^ 32) (y % 4294967296) (by omega) (by omega) (by omega) (by omega)
  have ex : 4294967296 * (x / 2 ^ 32) + x % 4294967296 = x := by omega
  have ey : 4294967296 * (y / 2 ^ 32) + y % 4294967296 = y := by omega
  rw [ex, ey] at e
  rw [and_mask32, and_mask32, and_mask32, e, show (2 : Nat) ^ 64 = 18446744073709551616 from rfl]
end Go.Proofs.YgvafwGreat
