import Derived.Test.YgvafwGreatOp2
import Derived.Test.YgvafwGreatY33
import Derived.Test.YgvafwGreatE8
set_option exponentiation.threshold 1000
set_option maxRecDepth 100000
set_option maxHeartbeats 4000000
set_option linter.unusedVariables false
set_option linter.unusedSimpArgs false
-- v2
-- v4
-- v5
-- v6
-- v7
namespace Go.Proofs.YgvafwGreat
open Go.HL Go.Proofs
/-- The part of the gas that hangs on nothing. -/
def sgN (o : Nat) : Nat :=
  if o = 0 ∨ o = 243 ∨ o = 253 ∨ o = 49 ∨ o = 59 ∨ o = 63 ∨ o = 84 ∨ o = 85 ∨ o = 60 ∨ o = 241 ∨ o = 242 ∨ o = 244 ∨ o = 250 then 0 else
  if o = 91 then 1 else
  if o = 48 ∨ o = 50 ∨ o = 51 ∨ o = 52 ∨ o = 54 ∨ o = 56 ∨ o = 58 ∨ o = 61 ∨ o = 65 ∨ o = 66 ∨ o = 67 ∨ o = 68 ∨ o = 69 ∨ o = 70 ∨ o = 72 ∨ o = 88 ∨ o = 89 ∨ o = 90 ∨ o = 95 ∨ o = 80 then 2 else
  if o = 71 ∨ o = 2 ∨ o = 4 ∨ o = 5 ∨ o = 6 ∨ o = 7 ∨ o = 11 then 5 else
  if o = 1 ∨ o = 3 ∨ o = 16 ∨ o = 17 ∨ o = 18 ∨ o = 19 ∨ o = 20 ∨ o = 22 ∨ o = 23 ∨ o = 24 ∨ o = 26 ∨ o = 27 ∨ o = 28 ∨ o = 29 ∨ o = 21 ∨ o = 25 ∨ o = 53 ∨ o = 81 ∨ o = 82 ∨ o = 83 ∨ o = 55 ∨ o = 57 ∨ o = 62 ∨ o = 94 then 3 else
  if o = 10 ∨ o = 87 then 10 else
  if o = 32 then 30 else
  if o = 8 ∨ o = 9 ∨ o = 86 then 8 else
  if o = 92 ∨ o = 93 then 100 else
  if o = 64 then 20 else
  if o = 240 ∨ o = 245 then 32000 else
  if o = 255 then 5000 else
  if 96 ≤ o ∧ o ≤ 159 then 3 else if 160 ≤ o ∧ o ≤ 164 then 375 * (o - 160 + 1) else 0
theorem inf_case {S : St} {o a b g : Nat} {k : Bool} (h1 : arN o = (a, b, k)) (h2 : sgN o = g) (h : CallG Hvaf.prog 119 #[.int .u8 (o : Nat)] S fun r S' => S = S' ∧ r = .tuple #[.int .u8 (a : Nat), .int .u8 (b : Nat), .int .u16 (g : Nat), .bool k]) : CallG Hvaf.prog 119 #[.int .u8 (o : Nat)] S fun r S' => S = S' ∧ r = .tuple #[.int .u8 ((arN o).1 : Nat), .int .u8 ((arN o).2.1 : Nat), .int .u16 (sgN o : Nat), .bool (arN o).2.2] := by rw [h1, h2]; exact h
/-- mach.Info, single instructions -/
theorem mInfoL {S : St} {o : Nat} (h : o ∈ [0, 243, 253, 49, 59, 63, 84, 85, 60, 241, 242, 244, 250, 91, 48, 50, 51, 52, 54, 56, 58, 61, 65, 66, 67, 68, 69, 70, 72, 88, 89, 90, 95, 80, 71, 2, 4, 5, 6, 7, 11, 1, 3, 16, 17, 18, 19, 20, 22, 23, 24, 26, 27, 28, 29, 21, 25, 53, 81, 82, 83, 55, 57, 62, 94, 10, 87, 32, 8, 9, 86, 92, 93, 64, 240, 245, 255]) : CallG Hvaf.prog 119 #[.int .u8 (o : Nat)] S fun r S' => S = S' ∧ r = .tuple #[.int .u8 ((arN o).1 : Nat), .int .u8 ((arN o).2.1 : Nat), .int .u16 (sgN o : Nat), .bool (arN o).2.2] := by
  simp only [List.mem_cons, List.not_mem_nil, or_false] at h
  rcases h with rfl | rfl | rfl | rfl | rfl | rfl | rfl | rfl | rfl | rfl | rfl | rfl | rfl | rfl | rfl | rfl | rfl | rfl | rfl | rfl | rfl | rfl | rfl | rfl | rfl | rfl | rfl | rfl | rfl | rfl | rfl | rfl | rfl | rfl | rfl | rfl | rfl | rfl | rfl | rfl | rfl | rfl | rfl | rfl | rfl | rfl | rfl | rfl | rfl | rfl | rfl | rfl | rfl | rfl | rfl | rfl | rfl | rfl | rfl | rfl | rfl | rfl | rfl | rfl | rfl | rfl | rfl | rfl | rfl | rfl | rfl | rfl | rfl | rfl | rfl | rfl | rfl
  all_goals (
    refine inf_case rfl rfl ?_
    refine CallG.start (C := mkC Hvaf.prog) cok (args := [.int .u8 ((_ : Nat) : Int)]) Hvaf.func119 rfl Hvaf.ntmps119 (by simp) (by kernel_rfl) ?_
    repeat (first | refine SeqS.go cok ?_ | refine GuardS.yes rfl ?_ | refine GuardS.no rfl ?_ | refine CondS.t rfl ?_ | refine CondS.f rfl ?_)
    exact Fin.same ⟨rfl, rfl⟩)
/-- mach.Info, 96 to 127 -/
theorem mInfoR0 {S : St} {o : Nat} (h1 : 96 ≤ o) (h2 : o ≤ 127) : CallG Hvaf.prog 119 #[.int .u8 (o : Nat)] S fun r S' => S = S' ∧ r = .tuple #[.int .u8 ((arN o).1 : Nat), .int .u8 ((arN o).2.1 : Nat), .int .u16 (sgN o : Nat), .bool (arN o).2.2] := by
  refine inf_case (a := 0) (b := 1) (g := 3) (k := true) (by unfold arN; repeat (first | rw [if_pos (by omega)] | rw [if_neg (by omega)])) (by unfold sgN; repeat (first | rw [if_pos (by omega)] | rw [if_neg (by omega)])) ?_
  refine CallG.start (C := mkC Hvaf.prog) cok (args := [.int .u8 (o : Nat)]) Hvaf.func119 rfl Hvaf.ntmps119 (by simp) (by kernel_rfl) ?_
  repeat (first | refine SeqS.go cok ?_ | refine GuardS.yes rfl ?_ | (refine GuardS.keep ?_; first | refine GuardS.T1 rfl (by omega) ?_) | (refine CondS.keep ?_; first | refine CondS.d1 rfl (by omega) ?_))
  exact Fin.same ⟨rfl, rfl⟩
/-- mach.Info, 128 to 143 -/
theorem mInfoR1 {S : St} {o : Nat} (h1 : 128 ≤ o) (h2 : o ≤ 143) : CallG Hvaf.prog 119 #[.int .u8 (o : Nat)] S fun r S' => S = S' ∧ r = .tuple #[.int .u8 ((arN o).1 : Nat), .int .u8 ((arN o).2.1 : Nat), .int .u16 (sgN o : Nat), .bool (arN o).2.2] := by
  refine inf_case (a := o - 128 + 1) (b := o - 128 + 2) (g := 3) (k := true) (by unfold arN; repeat (first | rw [if_pos (by omega)] | rw [if_neg (by omega)])) (by unfold sgN; repeat (first | rw [if_pos (by omega)] | rw [if_neg (by omega)])) ?_
  refine CallG.start (C := mkC Hvaf.prog) cok (args := [.int .u8 (o : Nat)]) Hvaf.func119 rfl Hvaf.ntmps119 (by simp) (by kernel_rfl) ?_
  repeat (first | refine SeqS.go cok ?_ | refine GuardS.yes rfl ?_ | (refine ValS.keep ?_; first | (with_reducible refine ValS.kU8 ?_; first | (with_reducible refine ValS.addU8_L ?_ ?_ ; omega) | (with_reducible refine ValS.subU8_L ?_ ?_ ?_ ; omega; omega))) | (refine GuardS.keep ?_; first | refine GuardS.T1 rfl (by omega) ?_) | (refine CondS.keep ?_; first | refine CondS.d1 rfl (by omega) ?_ | refine CondS.d0 rfl (by omega) ?_))
  exact Fin.same ⟨rfl, rfl⟩
/-- mach.Info, 144 to 159 -/
theorem mInfoR2 {S : St} {o : Nat} (h1 : 144 ≤ o) (h2 : o ≤ 159) : CallG Hvaf.prog 119 #[.int .u8 (o : Nat)] S fun r S' => S = S' ∧ r = .tuple #[.int .u8 ((arN o).1 : Nat), .int .u8 ((arN o).2.1 : Nat), .int .u16 (sgN o : Nat), .bool (arN o).2.2] := by
  refine inf_case (a := o - 144 + 2) (b := o - 144 + 2) (g := 3) (k := true) (by unfold arN; repeat (first | rw [if_pos (by omega)] | rw [if_neg (by omega)])) (by unfold sgN; repeat (first | rw [if_pos (by omega)] | rw [if_neg (by omega)])) ?_
  refine CallG.start (C := mkC Hvaf.prog) cok (args := [.int .u8 (o : Nat)]) Hvaf.func119 rfl Hvaf.ntmps119 (by simp) (by kernel_rfl) ?_
  repeat (first | refine SeqS.go cok ?_ | refine GuardS.yes rfl ?_ | (refine ValS.keep ?_; first | (with_reducible refine ValS.kU8 ?_; first | (with_reducible refine ValS.addU8_L ?_ ?_ ; omega) | (with_reducible refine ValS.subU8_L ?_ ?_ ?_ ; omega; omega))) | (refine GuardS.keep ?_; first | refine GuardS.T1 rfl (by omega) ?_) | (refine CondS.keep ?_; first | refine CondS.d1 rfl (by omega) ?_ | refine CondS.d0 rfl (by omega) ?_))
  exact Fin.same ⟨rfl, rfl⟩
/-- mach.Info, 160 to 164 -/
theorem mInfoR3 {S : St} {o : Nat} (h1 : 160 ≤ o) (h2 : o ≤ 164) : CallG Hvaf.prog 119 #[.int .u8 (o : Nat)] S fun r S' => S = S' ∧ r = .tuple #[.int .u8 ((arN o).1 : Nat), .int .u8 ((arN o).2.1 : Nat), .int .u16 (sgN o : Nat), .bool (arN o).2.2] := by
  refine inf_case (a := o - 160 + 2) (b := 0) (g := 375 * (o - 160 + 1)) (k := true) (by unfold arN; repeat (first | rw [if_pos (by omega)] | rw [if_neg (by omega)])) (by unfold sgN; repeat (first | rw [if_pos (by omega)] | rw [if_neg (by omega)])) ?_
  refine CallG.start (C := mkC Hvaf.prog) cok (args := [.int .u8 (o : Nat)]) Hvaf.func119 rfl Hvaf.ntmps119 (by simp) (by kernel_rfl) ?_
  repeat (first | refine SeqS.go cok ?_ | refine GuardS.yes rfl ?_ | (refine ValS.keep ?_; first | (with_reducible refine ValS.kU8 ?_; first | (with_reducible refine ValS.addU8_L ?_ ?_ ; omega) | (with_reducible refine ValS.subU8_L ?_ ?_ ?_ ; omega; omega)) | (with_reducible refine ValS.kU16 ?_; first | (with_reducible refine ValS.convU16 ?_ ?_ ; omega) | (with_reducible refine ValS.addU16_L ?_ ?_ ; omega) | (with_reducible refine ValS.mulU16_M ?_ ?_ ; omega))) | (refine GuardS.keep ?_; first | refine GuardS.T1 rfl (by omega) ?_) | (refine CondS.keep ?_; first | refine CondS.d1 rfl (by omega) ?_ | refine CondS.d0 rfl (by omega) ?_))
  exact Fin.same ⟨rfl, rfl⟩
/-- mach.Info, 12 to 15: none -/
theorem mInfoU0 {S : St} {o : Nat} (h1 : 12 ≤ o) (h2 : o ≤ 15) : CallG Hvaf.prog 119 #[.int .u8 (o : Nat)] S fun r S' => S = S' ∧ r = .tuple #[.int .u8 ((arN o).1 : Nat), .int .u8 ((arN o).2.1 : Nat), .int .u16 (sgN o : Nat), .bool (arN o).2.2] := by
  refine inf_case (a := 0) (b := 0) (g := 0) (k := false) (by unfold arN; repeat (first | rw [if_pos (by omega)] | rw [if_neg (by omega)])) (by unfold sgN; repeat (first | rw [if_neg (by omega)])) ?_
  refine CallG.start (C := mkC Hvaf.prog) cok (args := [.int .u8 (o : Nat)]) Hvaf.func119 rfl Hvaf.ntmps119 (by simp) (by kernel_rfl) ?_
  repeat (first | refine SeqS.go cok ?_ | refine GuardS.no rfl ?_ | refine CondS.f rfl ?_ | (refine GuardS.keep ?_; first | refine GuardS.T0 rfl (by omega) ?_) | (refine CondS.keep ?_; first | refine CondS.d0 rfl (by omega) ?_))
  exact Fin.same ⟨rfl, rfl⟩
/-- mach.Info, 30 to 31: none -/
theorem mInfoU1 {S : St} {o : Nat} (h1 : 30 ≤ o) (h2 : o ≤ 31) : CallG Hvaf.prog 119 #[.int .u8 (o : Nat)] S fun r S' => S = S' ∧ r = .tuple #[.int .u8 ((arN o).1 : Nat), .int .u8 ((arN o).2.1 : Nat), .int .u16 (sgN o : Nat), .bool (arN o).2.2] := by
  refine inf_case (a := 0) (b := 0) (g := 0) (k := false) (by unfold arN; repeat (first | rw [if_pos (by omega)] | rw [if_neg (by omega)])) (by unfold sgN; repeat (first | rw [if_neg (by omega)])) ?_
  refine CallG.start (C := mkC Hvaf.prog) cok (args := [.int .u8 (o : Nat)]) Hvaf.func119 rfl Hvaf.ntmps119 (by simp) (by kernel_rfl) ?_
  repeat (first | refine SeqS.go cok ?_ | refine GuardS.no rfl ?_ | refine CondS.f rfl ?_ | (refine GuardS.keep ?_; first | refine GuardS.T0 rfl (by omega) ?_) | (refine CondS.keep ?_; first | refine CondS.d0 rfl (by omega) ?_))
  exact Fin.same ⟨rfl, rfl⟩
/-- mach.Info, 33 to 47: none -/
theorem mInfoU2 {S : St} {o : Nat} (h1 : 33 ≤ o) (h2 : o ≤ 47) : CallG Hvaf.prog 119 #[.int .u8 (o : Nat)] S fun r S' => S = S' ∧ r = .tuple #[.int .u8 ((arN o).1 : Nat), .int .u8 ((arN o).2.1 : Nat), .int .u16 (sgN o : Nat), .bool (arN o).2.2] := by
  refine inf_case (a := 0) (b := 0) (g := 0) (k := false) (by unfold arN; repeat (first | rw [if_pos (by omega)] | rw [if_neg (by omega)])) (by unfold sgN; repeat (first | rw [if_neg (by omega)])) ?_
  refine CallG.start (C := mkC Hvaf.prog) cok (args := [.int .u8 (o : Nat)]) Hvaf.func119 rfl Hvaf.ntmps119 (by simp) (by kernel_rfl) ?_
  repeat (first | refine SeqS.go cok ?_ | refine GuardS.no rfl ?_ | refine CondS.f rfl ?_ | (refine GuardS.keep ?_; first | refine GuardS.T0 rfl (by omega) ?_) | (refine CondS.keep ?_; first | refine CondS.d0 rfl (by omega) ?_))
  exact Fin.same ⟨rfl, rfl⟩
/-- mach.Info, 73 to 79: none -/
theorem mInfoU3 {S : St} {o : Nat} (h1 : 73 ≤ o) (h2 : o ≤ 79) : CallG Hvaf.prog 119 #[.int .u8 (o : Nat)] S fun r S' => S = S' ∧ r = .tuple #[.int .u8 ((arN o).1 : Nat), .int .u8 ((arN o).2.1 : Nat), .int .u16 (sgN o : Nat), .bool (arN o).2.2] := by
  refine inf_case (a := 0) (b := 0) (g := 0) (k := false) (by unfold arN; repeat (first | rw [if_pos (by omega)] | rw [if_neg (by omega)])) (by unfold sgN; repeat (first | rw [if_neg (by omega)])) ?_
  refine CallG.start (C := mkC Hvaf.prog) cok (args := [.int .u8 (o : Nat)]) Hvaf.func119 rfl Hvaf.ntmps119 (by simp) (by kernel_rfl) ?_
  repeat (first | refine SeqS.go cok ?_ | refine GuardS.no rfl ?_ | refine CondS.f rfl ?_ | (refine GuardS.keep ?_; first | refine GuardS.T0 rfl (by omega) ?_) | (refine CondS.keep ?_; first | refine CondS.d0 rfl (by omega) ?_))
  exact Fin.same ⟨rfl, rfl⟩
/-- mach.Info, 165 to 239: none -/
theorem mInfoU4 {S : St} {o : Nat} (h1 : 165 ≤ o) (h2 : o ≤ 239) : CallG Hvaf.prog 119 #[.int .u8 (o : Nat)] S fun r S' => S = S' ∧ r = .tuple #[.int .u8 ((arN o).1 : Nat), .int .u8 ((arN o).2.1 : Nat), .int .u16 (sgN o : Nat), .bool (arN o).2.2] := by
  refine inf_case (a := 0) (b := 0) (g := 0) (k := false) (by unfold arN; repeat (first | rw [if_pos (by omega)] | rw [if_neg (by omega)])) (by unfold sgN; repeat (first | rw [if_neg (by omega)])) ?_
  refine CallG.start (C := mkC Hvaf.prog) cok (args := [.int .u8 (o : Nat)]) Hvaf.func119 rfl Hvaf.ntmps119 (by simp) (by kernel_rfl) ?_
  repeat (first | refine SeqS.go cok ?_ | refine GuardS.yes rfl ?_ | (refine GuardS.keep ?_; first | refine GuardS.T1 rfl (by omega) ?_) | (refine CondS.keep ?_; first | refine CondS.d0 rfl (by omega) ?_))
  exact Fin.same ⟨rfl, rfl⟩
/-- mach.Info, 246 to 249: none -/
theorem mInfoU5 {S : St} {o : Nat} (h1 : 246 ≤ o) (h2 : o ≤ 249) : CallG Hvaf.prog 119 #[.int .u8 (o : Nat)] S fun r S' => S = S' ∧ r = .tuple #[.int .u8 ((arN o).1 : Nat), .int .u8 ((arN o).2.1 : Nat), .int .u16 (sgN o : Nat), .bool (arN o).2.2] := by
  refine inf_case (a := 0) (b := 0) (g := 0) (k := false) (by unfold arN; repeat (first | rw [if_pos (by omega)] | rw [if_neg (by omega)])) (by unfold sgN; repeat (first | rw [if_neg (by omega)])) ?_
  refine CallG.start (C := mkC Hvaf.prog) cok (args := [.int .u8 (o : Nat)]) Hvaf.func119 rfl Hvaf.ntmps119 (by simp) (by kernel_rfl) ?_
  repeat (first | refine SeqS.go cok ?_ | refine GuardS.yes rfl ?_ | (refine GuardS.keep ?_; first | refine GuardS.T1 rfl (by omega) ?_) | (refine CondS.keep ?_; first | refine CondS.d0 rfl (by omega) ?_))
  exact Fin.same ⟨rfl, rfl⟩
/-- mach.Info, 251 to 252: none -/
theorem mInfoU6 {S : St} {o : Nat} (h1 : 251 ≤ o) (h2 : o ≤ 252) : CallG Hvaf.prog 119 #[.int .u8 (o : Nat)] S fun r S' => S = S' ∧ r = .tuple #[.int .u8 ((arN o).1 : Nat), .int .u8 ((arN o).2.1 : Nat), .int .u16 (sgN o : Nat), .bool (arN o).2.2] := by
  refine inf_case (a := 0) (b := 0) (g := 0) (k := false) (by unfold arN; repeat (first | rw [if_pos (by omega)] | rw [if_neg (by omega)])) (by unfold sgN; repeat (first | rw [if_neg (by omega)])) ?_
  refine CallG.start (C := mkC Hvaf.prog) cok (args := [.int .u8 (o : Nat)]) Hvaf.func119 rfl Hvaf.ntmps119 (by simp) (by kernel_rfl) ?_
  repeat (first | refine SeqS.go cok ?_ | refine GuardS.yes rfl ?_ | (refine GuardS.keep ?_; first | refine GuardS.T1 rfl (by omega) ?_) | (refine CondS.keep ?_; first | refine CondS.d0 rfl (by omega) ?_))
  exact Fin.same ⟨rfl, rfl⟩
/-- mach.Info, 254 to 254: none -/
theorem mInfoU7 {S : St} {o : Nat} (h1 : 254 ≤ o) (h2 : o ≤ 254) : CallG Hvaf.prog 119 #[.int .u8 (o : Nat)] S fun r S' => S = S' ∧ r = .tuple #[.int .u8 ((arN o).1 : Nat), .int .u8 ((arN o).2.1 : Nat), .int .u16 (sgN o : Nat), .bool (arN o).2.2] := by
  refine inf_case (a := 0) (b := 0) (g := 0) (k := false) (by unfold arN; repeat (first | rw [if_pos (by omega)] | rw [if_neg (by omega)])) (by unfold sgN; repeat (first | rw [if_neg (by omega)])) ?_
  refine CallG.start (C := mkC Hvaf.prog) cok (args := [.int .u8 (o : Nat)]) Hvaf.func119 rfl Hvaf.ntmps119 (by simp) (by kernel_rfl) ?_
  repeat (first | refine SeqS.go cok ?_ | refine GuardS.yes rfl ?_ | (refine GuardS.keep ?_; first | refine GuardS.T1 rfl (by omega) ?_) | (refine CondS.keep ?_; first | refine CondS.d0 rfl (by omega) ?_))
  exact Fin.same ⟨rfl, rfl⟩
end Go.Proofs.YgvafwGreat
