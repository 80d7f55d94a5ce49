import Derived.Test.YgvafwGreatBits1
import Derived.Test.YgvafwGreatHLz
set_option maxRecDepth 100000
set_option maxHeartbeats 4000000
set_option linter.unusedVariables false
set_option linter.unusedSimpArgs false
-- v2
namespace Go.Proofs.YgvafwGreat
open Go.HL Go.Proofs

/-- num.Add64 -/
theorem Add64_spec {S : St} {x y c : Nat} (hc : c ≤ 1) :
    CallG Hvaf.prog 179 #[.int .u64 (x : Nat), .int .u64 (y : Nat), .int .u64 (c : Nat)] S fun r S' => S = S' ∧ r = .tuple #[.int .u64 ((x + y + c) % 18446744073709551616 : Nat), .int .u64 ((x + y + c) / 18446744073709551616 : Nat)] := by
  refine CallG.start (C := mkC Hvaf.prog) cok (args := [.int .u64 (x : Nat), .int .u64 (y : Nat), .int .u64 (c : Nat)]) Hvaf.func179 rfl Hvaf.ntmps179 (by simp) (by kernel_rfl) ?_
  repeat (first | refine SeqS.go cok ?_)
  refine OpG.ext Hvaf.func255 (by kernel_rfl) (by kernel_rfl) (by kernel_rfl) (en := add64Entry) (by kernel_rfl) (fun w => run_add64N x y c hc w) ?_
  repeat (first | refine SeqS.go cok ?_)
  exact Fin.same ⟨rfl, rfl⟩

/-- num.Sub64 -/
theorem Sub64_spec {S : St} {x y c : Nat} (hc : c ≤ 1) :
    CallG Hvaf.prog 256 #[.int .u64 (x : Nat), .int .u64 (y : Nat), .int .u64 (c : Nat)] S fun r S' => S = S' ∧ r = .tuple #[.int .u64 ((x + 18446744073709551616 - y - c) % 18446744073709551616 : Nat), .int .u64 ((if x < y + c then 1 else 0 : Nat) : Int)] := by
  refine CallG.start (C := mkC Hvaf.prog) cok (args := [.int .u64 (x : Nat), .int .u64 (y : Nat), .int .u64 (c : Nat)]) Hvaf.func256 rfl Hvaf.ntmps256 (by simp) (by kernel_rfl) ?_
  repeat (first | refine SeqS.go cok ?_)
  refine OpG.ext Hvaf.func364 (by kernel_rfl) (by kernel_rfl) (by kernel_rfl) (en := sub64Entry) (by kernel_rfl) (fun w => run_sub64N x y c hc w) ?_
  repeat (first | refine SeqS.go cok ?_)
  exact Fin.same ⟨rfl, rfl⟩

/-- num.Mul64 -/
theorem NMul64_spec {S : St} {x y : Nat} (hx : x < 18446744073709551616) (hy : y < 18446744073709551616) :
    CallG Hvaf.prog 178 #[.int .u64 (x : Nat), .int .u64 (y : Nat)] S fun r S' => S = S' ∧ r = .tuple #[.int .u64 ((x * y / 18446744073709551616 : Nat) : Int), .int .u64 ((x * y % 18446744073709551616 : Nat) : Int)] := by
  refine CallG.start (C := mkC Hvaf.prog) cok (args := [.int .u64 (x : Nat), .int .u64 (y : Nat)]) Hvaf.func178 rfl Hvaf.ntmps178 (by simp) (by kernel_rfl) ?_
  repeat (first | refine SeqS.go cok ?_)
  refine (Mul64_spec hx hy).mono ?_
  rintro r _ _ ⟨rfl, rfl⟩
  repeat (first | refine SeqS.go cok ?_)
  rw [show (2 : Nat) ^ 64 = 18446744073709551616 from rfl]
  exact Fin.same ⟨rfl, rfl⟩

/-- num.RotateLeft64 -/
theorem NRot_spec {S : St} {x k : Nat} (hx : x < 2 ^ 64) (hk : k < 64) :
    CallG Hvaf.prog 426 #[.int .u64 (x : Nat), .int .i64 (k : Nat)] S fun r S' => S = S' ∧ r = .int .u64 ((x * 2 ^ k % 2 ^ 64 ||| x / 2 ^ (64 - k) : Nat) : Int) := by
  refine CallG.start (C := mkC Hvaf.prog) cok (args := [.int .u64 (x : Nat), .int .i64 (k : Nat)]) Hvaf.func426 rfl Hvaf.ntmps426 (by simp) (by kernel_rfl) ?_
  repeat (first | refine SeqS.go cok ?_)
  refine (RotateLeft64_spec hx hk).mono ?_
  rintro r _ _ ⟨rfl, rfl⟩
  repeat (first | refine SeqS.go cok ?_)
  exact Fin.same ⟨rfl, rfl⟩

/-- num.Words -/
theorem Words_spec {S : St} {n : Nat} (hn : n < 18446744073709551616) :
    CallG Hvaf.prog 177 #[.int .u64 (n : Nat)] S fun r S' => S = S' ∧ r = .int .u64 (((n + 31) / 32 : Nat) : Int) := by
  refine CallG.start (C := mkC Hvaf.prog) cok (args := [.int .u64 (n : Nat)]) Hvaf.func177 rfl Hvaf.ntmps177 (by simp) (by kernel_rfl) ?_
  repeat (first | refine SeqS.go cok ?_ | refine And.intro (by omega) ?_ | (refine ValS.keep ?_; first | (with_reducible refine ValS.kU64 ?_; first | with_reducible refine ValS.remN_L ?_)))
  refine CondS.nez rfl (fun h1 => ?_) (fun h1 => ?_)
  · repeat (first | refine SeqS.go cok ?_ | refine And.intro (by omega) ?_ | (refine ValS.keep ?_; first | (with_reducible refine ValS.kU64 ?_; first | (with_reducible refine ValS.addU64_L ?_ ?_ ; omega) | (with_reducible refine ValS.quoU64_L ?_ ?_ ; omega))))
    exact Fin.same ⟨rfl, vI rfl (by omega)⟩
  · repeat (first | refine SeqS.go cok ?_ | refine And.intro (by omega) ?_ | (refine ValS.keep ?_; first | (with_reducible refine ValS.kU64 ?_; first | (with_reducible refine ValS.quoU64_L ?_ ?_ ; omega))))
    exact Fin.same ⟨rfl, vI rfl (by omega)⟩

/-- num.inside -/
theorem inside_spec {S : St} {n o : Nat} (hn : n < 9223372036854775808) (ho : o < 9223372036854775808) :
    CallG Hvaf.prog 247 #[.int .i64 (n : Nat), .int .i64 (o : Nat)] S fun r S' => S = S' ∧ r = .bool (decide (o + 8 ≤ n)) := by
  refine CallG.start (C := mkC Hvaf.prog) cok (args := [.int .i64 (n : Nat), .int .i64 (o : Nat)]) Hvaf.func247 rfl Hvaf.ntmps247 (by simp) (by kernel_rfl) ?_
  repeat (first | refine SeqS.go cok ?_ | refine GuardS.yes rfl ?_)
  (first | refine GuardS.T rfl (fun h1 => ?_) (fun h1 => ?_))
  · repeat (first | refine SeqS.go cok ?_ | refine GuardS.yes rfl ?_ | (refine ValS.keep ?_; first | (with_reducible refine ValS.kI64 ?_; first | (with_reducible refine ValS.subI64_L ?_ ?_ ?_ ; omega; omega))))
    exact Fin.same ⟨rfl, vB rfl (by rw [Bool.eq_iff_iff]; simp; omega)⟩
  · repeat (first | refine SeqS.go cok ?_ | refine GuardS.no rfl ?_)
    exact Fin.same ⟨rfl, vB rfl (by rw [Bool.eq_iff_iff]; simp; omega)⟩

/-- The number of bits. -/
def blen (x : Nat) : Nat := if x = 0 then 0 else Nat.log2 x + 1
theorem blen_lt (x : Nat) : x < 2 ^ blen x := by
  unfold blen; split
  · omega
  · exact Nat.lt_log2_self
theorem blen_ge {x : Nat} (h : x ≠ 0) : 2 ^ (blen x - 1) ≤ x := by
  unfold blen; rw [if_neg h]; exact Nat.log2_self_le h
theorem blen_eq {x n : Nat} (h1 : x < 2 ^ n) (h2 : n = 0 ∨ 2 ^ (n - 1) ≤ x) : blen x = n := by
  rcases h2 with rfl | h2
  · have : x = 0 := by simpa using h1
    simp [blen, this]
  · have hx : x ≠ 0 := by have := Nat.two_pow_pos (n - 1); omega
    have a := blen_lt x
    have b := blen_ge hx
    have c1 : 2 ^ (n - 1) < 2 ^ blen x := Nat.lt_of_le_of_lt h2 a
    have c2 : 2 ^ (blen x - 1) < 2 ^ n := Nat.lt_of_le_of_lt b h1
    have d1 := (Nat.pow_lt_pow_iff_right (a := 2) (by omega)).1 c1
    have d2 := (Nat.pow_lt_pow_iff_right (a := 2) (by omega)).1 c2
    have : blen x ≠ 0 := by unfold blen; rw [if_neg hx]; omega
    omega
theorem blen_shift {x k : Nat} (h : 2 ^ k ≤ x) : blen x = k + blen (x / 2 ^ k) := by
  have hp := Nat.two_pow_pos k
  have hx : x / 2 ^ k ≠ 0 := by
    have := Nat.div_pos h hp; omega
  refine blen_eq ?_ (.inr ?_)
  · rw [Nat.pow_add]
    have := blen_lt (x / 2 ^ k)
    rw [Nat.div_lt_iff_lt_mul hp] at this
    rw [Nat.mul_comm]; exact this
  · have h1 := blen_ge hx
    have h2 : blen (x / 2 ^ k) ≠ 0 := by unfold blen; rw [if_neg hx]; omega
    rw [show k + blen (x / 2 ^ k) - 1 = (blen (x / 2 ^ k) - 1) + k by omega, Nat.pow_add]
    exact (Nat.le_div_iff_mul_le hp).1 h1
theorem blen_le {x n : Nat} (h : x < 2 ^ n) : blen x ≤ n := by
  by_cases hx : x = 0
  · simp [blen, hx]
  · have := blen_ge hx
    have := (Nat.pow_lt_pow_iff_right (a := 2) (by omega)).1 (Nat.lt_of_le_of_lt this h)
    omega
def tabOk (s : ByteArray) : Bool := (List.range 256).all fun n => match s[n]? with
  | some b => decide (n < 2 ^ b.toNat ∧ (b.toNat = 0 ∨ 2 ^ (b.toNat - 1) ≤ n))
  | none => false
theorem tab_get {s : ByteArray} (h : tabOk s = true) (n : Nat) (hn : n < 256) : ∃ b : UInt8, s[n]? = some b ∧ b.toNat = blen n := by
  have := List.all_eq_true.1 h n (by simpa using hn)
  split at this
  · rename_i b hb
    simp only [decide_eq_true_eq] at this
    exact ⟨b, hb, (blen_eq this.1 this.2).symm⟩
  · cases this

/-- math/bits.Len64 -/
theorem Len64_bits {S : St} {x : Nat} (hx : x < 18446744073709551616) :
    CallG Hvaf.prog 367 #[.int .u64 (x : Nat)] S fun r S' => S = S' ∧ r = .int .i64 (blen x : Nat) := by
  have e32 : 4294967296 ≤ x → blen x = 32 + blen (x / 2 ^ 32) := fun h => blen_shift h
  refine CallG.start (C := mkC Hvaf.prog) cok (args := [.int .u64 (x : Nat)]) Hvaf.func367 rfl Hvaf.ntmps367 (by simp) (by kernel_rfl) ?_
  repeat (first | refine SeqS.go cok ?_)
  (first | refine CondS.dec rfl (fun h1 => ?_) (fun h1 => ?_))
  · repeat (first | refine SeqS.go cok ?_ | refine And.intro (by omega) ?_ | (refine ValS.keep ?_; first | (with_reducible refine ValS.kU64 ?_; first | (with_reducible refine ValS.shrU64_L ?_ ?_ ; omega))))
    have e16 : 65536 ≤ x / 2 ^ 32 → blen (x / 2 ^ 32) = 16 + blen (x / 2 ^ 32 / 2 ^ 16) := fun h => blen_shift h
    have e8 : 256 ≤ x / 2 ^ 32 → blen (x / 2 ^ 32) = 8 + blen (x / 2 ^ 32 / 2 ^ 8) := fun h => blen_shift h
    have e88 : 256 ≤ x / 2 ^ 32 / 2 ^ 16 → blen (x / 2 ^ 32 / 2 ^ 16) = 8 + blen (x / 2 ^ 32 / 2 ^ 16 / 2 ^ 8) := fun h => blen_shift h
    (first | refine CondS.dec rfl (fun h2 => ?_) (fun h2 => ?_))
    · repeat (first | refine SeqS.go cok ?_ | refine And.intro (by omega) ?_ | (refine ValS.keep ?_; first | (with_reducible refine ValS.kI64 ?_; first | (with_reducible refine ValS.addI64_LL ?_ ?_ ; omega)) | (with_reducible refine ValS.kU64 ?_; first | (with_reducible refine ValS.shrU64_L ?_ ?_ ; omega))))
      (first | refine CondS.dec rfl (fun h3 => ?_) (fun h3 => ?_))
      · repeat (first | refine SeqS.go cok ?_ | refine And.intro (by omega) ?_ | (refine ValS.keep ?_; first | (with_reducible refine ValS.kI64 ?_; first | (with_reducible refine ValS.addI64_L ?_ ?_ ; omega)) | (with_reducible refine ValS.kU64 ?_; first | (with_reducible refine ValS.shrU64_L ?_ ?_ ; omega)) | (with_reducible refine ValS.kU8 ?_; first | (with_reducible refine ValS.convU8 ?_ ?_ ; omega))))
        refine QuG.ixE cok rfl rfl rfl rfl ?_
        obtain ⟨b, g1, g2⟩ := tab_get (by kernel_rfl) (x / 2 ^ 32 / 2 ^ 16 / 2 ^ 8) (by omega)
        refine ⟨b, g1, ?_⟩
        rw [g2]
        have := blen_le (x := x / 2 ^ 32 / 2 ^ 16 / 2 ^ 8) (n := 8) (by omega)
        repeat (first | refine SeqS.go cok ?_ | (refine ValS.keep ?_; first | (with_reducible refine ValS.kI64 ?_; first | (with_reducible refine ValS.convI64 ?_ ?_ ; omega) | (with_reducible refine ValS.addI64 ?_ ?_ ; omega))))
        exact Fin.same ⟨rfl, vI rfl (by omega)⟩
      · repeat (first | refine SeqS.go cok ?_ | (refine ValS.keep ?_; first | (with_reducible refine ValS.kU8 ?_; first | (with_reducible refine ValS.convU8 ?_ ?_ ; omega))))
        refine QuG.ixE cok rfl rfl rfl rfl ?_
        obtain ⟨b, g1, g2⟩ := tab_get (by kernel_rfl) (x / 2 ^ 32 / 2 ^ 16) (by omega)
        refine ⟨b, g1, ?_⟩
        rw [g2]
        have := blen_le (x := x / 2 ^ 32 / 2 ^ 16) (n := 8) (by omega)
        repeat (first | refine SeqS.go cok ?_ | (refine ValS.keep ?_; first | (with_reducible refine ValS.kI64 ?_; first | (with_reducible refine ValS.convI64 ?_ ?_ ; omega) | (with_reducible refine ValS.addI64 ?_ ?_ ; omega))))
        exact Fin.same ⟨rfl, vI rfl (by omega)⟩
    · repeat (first | refine SeqS.go cok ?_)
      (first | refine CondS.dec rfl (fun h3 => ?_) (fun h3 => ?_))
      · repeat (first | refine SeqS.go cok ?_ | refine And.intro (by omega) ?_ | (refine ValS.keep ?_; first | (with_reducible refine ValS.kI64 ?_; first | (with_reducible refine ValS.addI64_LL ?_ ?_ ; omega)) | (with_reducible refine ValS.kU64 ?_; first | (with_reducible refine ValS.shrU64_L ?_ ?_ ; omega)) | (with_reducible refine ValS.kU8 ?_; first | (with_reducible refine ValS.convU8 ?_ ?_ ; omega))))
        refine QuG.ixE cok rfl rfl rfl rfl ?_
        obtain ⟨b, g1, g2⟩ := tab_get (by kernel_rfl) (x / 2 ^ 32 / 2 ^ 8) (by omega)
        refine ⟨b, g1, ?_⟩
        rw [g2]
        have := blen_le (x := x / 2 ^ 32 / 2 ^ 8) (n := 8) (by omega)
        repeat (first | refine SeqS.go cok ?_ | (refine ValS.keep ?_; first | (with_reducible refine ValS.kI64 ?_; first | (with_reducible refine ValS.convI64 ?_ ?_ ; omega) | (with_reducible refine ValS.addI64 ?_ ?_ ; omega))))
        exact Fin.same ⟨rfl, vI rfl (by omega)⟩
      · repeat (first | refine SeqS.go cok ?_ | (refine ValS.keep ?_; first | (with_reducible refine ValS.kU8 ?_; first | (with_reducible refine ValS.convU8 ?_ ?_ ; omega))))
        refine QuG.ixE cok rfl rfl rfl rfl ?_
        obtain ⟨b, g1, g2⟩ := tab_get (by kernel_rfl) (x / 2 ^ 32) (by omega)
        refine ⟨b, g1, ?_⟩
        rw [g2]
        have := blen_le (x := x / 2 ^ 32) (n := 8) (by omega)
        repeat (first | refine SeqS.go cok ?_ | (refine ValS.keep ?_; first | (with_reducible refine ValS.kI64 ?_; first | (with_reducible refine ValS.convI64 ?_ ?_ ; omega) | (with_reducible refine ValS.addI64_M ?_ ?_ ; omega))))
        exact Fin.same ⟨rfl, vI rfl (by omega)⟩
  · repeat (first | refine SeqS.go cok ?_)
    have e16 : 65536 ≤ x → blen (x) = 16 + blen (x / 2 ^ 16) := fun h => blen_shift h
    have e8 : 256 ≤ x → blen (x) = 8 + blen (x / 2 ^ 8) := fun h => blen_shift h
    have e88 : 256 ≤ x / 2 ^ 16 → blen (x / 2 ^ 16) = 8 + blen (x / 2 ^ 16 / 2 ^ 8) := fun h => blen_shift h
    (first | refine CondS.dec rfl (fun h2 => ?_) (fun h2 => ?_))
    · repeat (first | refine SeqS.go cok ?_ | refine And.intro (by omega) ?_ | (refine ValS.keep ?_; first | (with_reducible refine ValS.kI64 ?_; first | (with_reducible refine ValS.addI64_LL ?_ ?_ ; omega)) | (with_reducible refine ValS.kU64 ?_; first | (with_reducible refine ValS.shrU64_L ?_ ?_ ; omega))))
      (first | refine CondS.dec rfl (fun h3 => ?_) (fun h3 => ?_))
      · repeat (first | refine SeqS.go cok ?_ | refine And.intro (by omega) ?_ | (refine ValS.keep ?_; first | (with_reducible refine ValS.kI64 ?_; first | (with_reducible refine ValS.addI64_L ?_ ?_ ; omega)) | (with_reducible refine ValS.kU64 ?_; first | (with_reducible refine ValS.shrU64_L ?_ ?_ ; omega)) | (with_reducible refine ValS.kU8 ?_; first | (with_reducible refine ValS.convU8 ?_ ?_ ; omega))))
        refine QuG.ixE cok rfl rfl rfl rfl ?_
        obtain ⟨b, g1, g2⟩ := tab_get (by kernel_rfl) (x / 2 ^ 16 / 2 ^ 8) (by omega)
        refine ⟨b, g1, ?_⟩
        rw [g2]
        have := blen_le (x := x / 2 ^ 16 / 2 ^ 8) (n := 8) (by omega)
        repeat (first | refine SeqS.go cok ?_ | (refine ValS.keep ?_; first | (with_reducible refine ValS.kI64 ?_; first | (with_reducible refine ValS.convI64 ?_ ?_ ; omega) | (with_reducible refine ValS.addI64 ?_ ?_ ; omega))))
        exact Fin.same ⟨rfl, vI rfl (by omega)⟩
      · repeat (first | refine SeqS.go cok ?_ | (refine ValS.keep ?_; first | (with_reducible refine ValS.kU8 ?_; first | (with_reducible refine ValS.convU8 ?_ ?_ ; omega))))
        refine QuG.ixE cok rfl rfl rfl rfl ?_
        obtain ⟨b, g1, g2⟩ := tab_get (by kernel_rfl) (x / 2 ^ 16) (by omega)
        refine ⟨b, g1, ?_⟩
        rw [g2]
        have := blen_le (x := x / 2 ^ 16) (n := 8) (by omega)
        repeat (first | refine SeqS.go cok ?_ | (refine ValS.keep ?_; first | (with_reducible refine ValS.kI64 ?_; first | (with_reducible refine ValS.convI64 ?_ ?_ ; omega) | (with_reducible refine ValS.addI64 ?_ ?_ ; omega))))
        exact Fin.same ⟨rfl, vI rfl (by omega)⟩
    · repeat (first | refine SeqS.go cok ?_)
      (first | refine CondS.dec rfl (fun h3 => ?_) (fun h3 => ?_))
      · repeat (first | refine SeqS.go cok ?_ | refine And.intro (by omega) ?_ | (refine ValS.keep ?_; first | (with_reducible refine ValS.kI64 ?_; first | (with_reducible refine ValS.addI64_LL ?_ ?_ ; omega)) | (with_reducible refine ValS.kU64 ?_; first | (with_reducible refine ValS.shrU64_L ?_ ?_ ; omega)) | (with_reducible refine ValS.kU8 ?_; first | (with_reducible refine ValS.convU8 ?_ ?_ ; omega))))
        refine QuG.ixE cok rfl rfl rfl rfl ?_
        obtain ⟨b, g1, g2⟩ := tab_get (by kernel_rfl) (x / 2 ^ 8) (by omega)
        refine ⟨b, g1, ?_⟩
        rw [g2]
        have := blen_le (x := x / 2 ^ 8) (n := 8) (by omega)
        repeat (first | refine SeqS.go cok ?_ | (refine ValS.keep ?_; first | (with_reducible refine ValS.kI64 ?_; first | (with_reducible refine ValS.convI64 ?_ ?_ ; omega) | (with_reducible refine ValS.addI64 ?_ ?_ ; omega))))
        exact Fin.same ⟨rfl, vI rfl (by omega)⟩
      · repeat (first | refine SeqS.go cok ?_ | (refine ValS.keep ?_; first | (with_reducible refine ValS.kU8 ?_; first | (with_reducible refine ValS.convU8 ?_ ?_ ; omega))))
        refine QuG.ixE cok rfl rfl rfl rfl ?_
        obtain ⟨b, g1, g2⟩ := tab_get (by kernel_rfl) (x) (by omega)
        refine ⟨b, g1, ?_⟩
        rw [g2]
        have := blen_le (x := x) (n := 8) (by omega)
        repeat (first | refine SeqS.go cok ?_ | (refine ValS.keep ?_; first | (with_reducible refine ValS.kI64 ?_; first | (with_reducible refine ValS.convI64 ?_ ?_ ; omega) | (with_reducible refine ValS.addI64_M ?_ ?_ ; omega))))
        exact Fin.same ⟨rfl, vI rfl (by omega)⟩

/-- math/bits.LeadingZeros64 -/
theorem LZ64_bits {S : St} {x : Nat} (hx : x < 18446744073709551616) :
    CallG Hvaf.prog 427 #[.int .u64 (x : Nat)] S fun r S' => S = S' ∧ r = .int .i64 (64 - blen x : Nat) := by
  have := blen_le (n := 64) hx
  refine CallG.start (C := mkC Hvaf.prog) cok (args := [.int .u64 (x : Nat)]) Hvaf.func427 rfl Hvaf.ntmps427 (by simp) (by kernel_rfl) ?_
  repeat (first | refine SeqS.go cok ?_)
  refine (Len64_bits hx).mono ?_
  rintro r _ _ ⟨rfl, rfl⟩
  repeat (first | refine SeqS.go cok ?_ | (refine ValS.keep ?_; first | (with_reducible refine ValS.kI64 ?_; first | (with_reducible refine ValS.subI64_M ?_ ?_ ?_ ; omega; omega))))
  exact Fin.same ⟨rfl, rfl⟩
/-- num.Len64 -/
theorem Len64_spec {S : St} {x : Nat} (hx : x < 18446744073709551616) :
    CallG Hvaf.prog 263 #[.int .u64 (x : Nat)] S fun r S' => S = S' ∧ r = .int .i64 (blen x : Nat) := by
  refine CallG.start (C := mkC Hvaf.prog) cok (args := [.int .u64 (x : Nat)]) Hvaf.func263 rfl Hvaf.ntmps263 (by simp) (by kernel_rfl) ?_
  repeat (first | refine SeqS.go cok ?_)
  refine (Len64_bits hx).mono ?_
  rintro r _ _ ⟨rfl, rfl⟩
  repeat (first | refine SeqS.go cok ?_)
  exact Fin.same ⟨rfl, rfl⟩
/-- num.LeadingZeros64 -/
theorem LZ64_spec {S : St} {x : Nat} (hx : x < 18446744073709551616) :
    CallG Hvaf.prog 411 #[.int .u64 (x : Nat)] S fun r S' => S = S' ∧ r = .int .i64 (64 - blen x : Nat) := by
  refine CallG.start (C := mkC Hvaf.prog) cok (args := [.int .u64 (x : Nat)]) Hvaf.func411 rfl Hvaf.ntmps411 (by simp) (by kernel_rfl) ?_
  repeat (first | refine SeqS.go cok ?_)
  refine (LZ64_bits hx).mono ?_
  rintro r _ _ ⟨rfl, rfl⟩
  repeat (first | refine SeqS.go cok ?_)
  exact Fin.same ⟨rfl, rfl⟩
end Go.Proofs.YgvafwGreat
