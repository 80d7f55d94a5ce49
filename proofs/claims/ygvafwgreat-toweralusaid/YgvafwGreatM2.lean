import Derived.Test.YgvafwGreatM1
set_option maxRecDepth 100000
set_option maxHeartbeats 4000000
set_option linter.unusedVariables false
set_option linter.unusedSimpArgs false
-- v2
namespace Go.Proofs.YgvafwGreat
open Go.HL Go.Proofs

theorem addLow {S : St} {x y : Nat} (h : x + y < 18446744073709551616) : CallG Hvaf.prog 179 #[.int .u64 (x : Nat), .int .u64 (y : Nat), .int .u64 0] S fun r S' => S = S' ∧ r = .tuple #[.int .u64 (x + y : Nat), .int .u64 (0 : Nat)] := by
  have := Add64_spec (S := S) (x := x) (y := y) (c := 0) (by decide)
  rwa [Nat.add_zero, Nat.mod_eq_of_lt h, Nat.div_eq_of_lt h] at this
theorem mulLow {S : St} {x y : Nat} (hx : x < 18446744073709551616) (hy : y < 18446744073709551616) (h : x * y < 18446744073709551616) : CallG Hvaf.prog 178 #[.int .u64 (x : Nat), .int .u64 (y : Nat)] S fun r S' => S = S' ∧ r = .tuple #[.int .u64 (0 : Nat), .int .u64 (x * y : Nat)] := by
  have := NMul64_spec (S := S) hx hy
  rwa [Nat.mod_eq_of_lt h, Nat.div_eq_of_lt h] at this
/-- mach.plus -/
theorem mPlus {S : St} {a b : Nat} (h : a + b < 18446744073709551616) : CallG Hvaf.prog 381 #[.int .u64 (a : Nat), .int .u64 (b : Nat)] S fun r S' => S = S' ∧ r = .int .u64 (a + b : Nat) := by
  refine CallG.start (C := mkC Hvaf.prog) cok (args := [.int .u64 (a : Nat), .int .u64 (b : Nat)]) Hvaf.func381 rfl Hvaf.ntmps381 (by simp) (by kernel_rfl) ?_
  repeat (first | refine SeqS.go cok ?_)
  refine (addLow h).mono ?_
  rintro r _ - ⟨rfl, rfl⟩
  repeat (first | refine SeqS.go cok ?_ | refine CondS.f rfl ?_)
  exact Fin.same ⟨rfl, rfl⟩
/-- mach.times -/
theorem mTimes {S : St} {a b : Nat} (ha : a < 18446744073709551616) (hb : b < 18446744073709551616) (h : a * b < 18446744073709551616) : CallG Hvaf.prog 382 #[.int .u64 (a : Nat), .int .u64 (b : Nat)] S fun r S' => S = S' ∧ r = .int .u64 (a * b : Nat) := by
  refine CallG.start (C := mkC Hvaf.prog) cok (args := [.int .u64 (a : Nat), .int .u64 (b : Nat)]) Hvaf.func382 rfl Hvaf.ntmps382 (by simp) (by kernel_rfl) ?_
  repeat (first | refine SeqS.go cok ?_)
  refine (mulLow ha hb h).mono ?_
  rintro r _ - ⟨rfl, rfl⟩
  repeat (first | refine SeqS.go cok ?_ | refine CondS.f rfl ?_)
  exact Fin.same ⟨rfl, rfl⟩
/-- mach.MemCost -/
theorem mMemCost {S : St} {w : Nat} (hw : w < 2 ^ 31) : CallG Hvaf.prog 280 #[.int .u64 (w : Nat)] S fun r S' => S = S' ∧ r = .int .u64 (memC w : Nat) := by
  have hsq : w * w < 2 ^ 62 := by
    have : w * w < 2 ^ 31 * 2 ^ 31 := Nat.mul_lt_mul_of_lt_of_le hw (Nat.le_of_lt hw) (by decide)
    omega
  have hm := fun (S : St) => mulLow (S := S) (x := w) (y := w) (by omega) (by omega) (by omega)
  have hd := fun (S : St) => NDiv64_spec (S := S) (hi := 0) (lo := w * w) (y := 512) (by decide) (by omega) (by decide)
  simp only [show (0 : Nat) < 512 by decide, if_true, Nat.zero_mul, Nat.zero_add] at hd
  have hq := Nat.div_le_self (w * w) 512
  have ht := fun (S : St) => mTimes (S := S) (a := 3) (b := w) (by decide) (by omega) (by omega)
  have hp := fun (S : St) => mPlus (S := S) (a := 3 * w) (b := w * w / 512) (by omega)
  unfold memC
  generalize w * w = q at *
  refine CallG.start (C := mkC Hvaf.prog) cok (args := [.int .u64 (w : Nat)]) Hvaf.func280 rfl Hvaf.ntmps280 (by simp) (by kernel_rfl) ?_
  repeat (first | refine SeqS.go cok ?_)
  refine (hm _).mono ?_
  rintro r _ - ⟨rfl, rfl⟩
  repeat (first | refine SeqS.go cok ?_)
  refine (hd _).mono ?_
  rintro r _ - ⟨rfl, rfl⟩
  repeat (first | refine SeqS.go cok ?_ | refine CondS.f rfl ?_)
  refine (ht _).mono ?_
  rintro r _ - ⟨rfl, rfl⟩
  skip
  refine (hp _).mono ?_
  rintro r _ - ⟨rfl, rfl⟩
  repeat (first | refine SeqS.go cok ?_)
  exact Fin.same ⟨rfl, rfl⟩
end Go.Proofs.YgvafwGreat
