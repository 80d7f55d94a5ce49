import Derived.Test.YgvafwGreatOp2
set_option maxRecDepth 100000
set_option maxHeartbeats 4000000
set_option linter.unusedVariables false
set_option linter.unusedSimpArgs false
-- v2
namespace Go.Proofs.YgvafwGreat
open Go.HL Go.Proofs

/-- What an instruction takes, gives, and whether it is one. -/
def arN (o : Nat) : Nat × Nat × Bool := if o ≤ 0 then (0, 0, true) else if o ≤ 1 then (2, 1, true) else if o ≤ 2 then (2, 1, true) else if o ≤ 3 then (2, 1, true) else if o ≤ 4 then (2, 1, true) else if o ≤ 5 then (2, 1, true) else if o ≤ 6 then (2, 1, true) else if o ≤ 7 then (2, 1, true) else if o ≤ 8 then (3, 1, true) else if o ≤ 9 then (3, 1, true) else if o ≤ 10 then (2, 1, true) else if o ≤ 11 then (2, 1, true) else if o ≤ 15 then (0, 0, false) else if o ≤ 16 then (2, 1, true) else if o ≤ 17 then (2, 1, true) else if o ≤ 18 then (2, 1, true) else if o ≤ 19 then (2, 1, true) else if o ≤ 20 then (2, 1, true) else if o ≤ 21 then (1, 1, true) else if o ≤ 22 then (2, 1, true) else if o ≤ 23 then (2, 1, true) else if o ≤ 24 then (2, 1, true) else if o ≤ 25 then (1, 1, true) else if o ≤ 26 then (2, 1, true) else if o ≤ 27 then (2, 1, true) else if o ≤ 28 then (2, 1, true) else if o ≤ 29 then (2, 1, true) else if o ≤ 31 then (0, 0, false) else if o ≤ 32 then (2, 1, true) else if o ≤ 47 then (0, 0, false) else if o ≤ 48 then (0, 1, true) else if o ≤ 49 then (1, 1, true) else if o ≤ 50 then (0, 1, true) else if o ≤ 51 then (0, 1, true) else if o ≤ 52 then (0, 1, true) else if o ≤ 53 then (1, 1, true) else if o ≤ 54 then (0, 1, true) else if o ≤ 55 then (3, 0, true) else if o ≤ 56 then (0, 1, true) else if o ≤ 57 then (3, 0, true) else if o ≤ 58 then (0, 1, true) else if o ≤ 59 then (1, 1, true) else if o ≤ 60 then (4, 0, true) else if o ≤ 61 then (0, 1, true) else if o ≤ 62 then (3, 0, true) else if o ≤ 63 then (1, 1, true) else if o ≤ 64 then (1, 1, true) else if o ≤ 65 then (0, 1, true) else if o ≤ 66 then (0, 1, true) else if o ≤ 67 then (0, 1, true) else if o ≤ 68 then (0, 1, true) else if o ≤ 69 then (0, 1, true) else if o ≤ 70 then (0, 1, true) else if o ≤ 71 then (0, 1, true) else if o ≤ 72 then (0, 1, true) else if o ≤ 79 then (0, 0, false) else if o ≤ 80 then (1, 0, true) else if o ≤ 81 then (1, 1, true) else if o ≤ 82 then (2, 0, true) else if o ≤ 83 then (2, 0, true) else if o ≤ 84 then (1, 1, true) else if o ≤ 85 then (2, 0, true) else if o ≤ 86 then (1, 0, true) else if o ≤ 87 then (2, 0, true) else if o ≤ 88 then (0, 1, true) else if o ≤ 89 then (0, 1, true) else if o ≤ 90 then (0, 1, true) else if o ≤ 91 then (0, 0, true) else if o ≤ 92 then (1, 1, true) else if o ≤ 93 then (2, 0, true) else if o ≤ 94 then (3, 0, true) else if o ≤ 95 then (0, 1, true) else if o ≤ 127 then (0, 1, true) else if o ≤ 143 then (o - 128 + 1, o - 128 + 2, true) else if o ≤ 159 then (o - 144 + 2, o - 144 + 2, true) else if o ≤ 164 then (o - 160 + 2, 0, true) else if o ≤ 239 then (0, 0, false) else if o ≤ 240 then (3, 1, true) else if o ≤ 241 then (7, 1, true) else if o ≤ 242 then (7, 1, true) else if o ≤ 243 then (2, 0, true) else if o ≤ 244 then (6, 1, true) else if o ≤ 245 then (4, 1, true) else if o ≤ 249 then (0, 0, false) else if o ≤ 250 then (6, 1, true) else if o ≤ 252 then (0, 0, false) else if o ≤ 253 then (2, 0, true) else if o ≤ 254 then (0, 0, false) else if o ≤ 255 then (1, 0, true) else (0, 0, false)
theorem fam_lit {S : St} {o f : Nat} (ho : o + 1 ≤ 256) (hf : famN o = f) : CallG Hvaf.prog 75 #[.int .u8 (o : Nat)] S fun r S' => S = S' ∧ r = .int .u8 (f : Nat) := by rw [← hf]; exact Family_spec ho
theorem ar_case {S : St} {o a b : Nat} {k : Bool} (hv : arN o = (a, b, k)) (h : CallG Hvaf.prog 147 #[.int .u8 (o : Nat)] S fun r S' => S = S' ∧ r = .tuple #[.int .i64 (a : Nat), .int .i64 (b : Nat), .bool k]) :
    CallG Hvaf.prog 147 #[.int .u8 (o : Nat)] S fun r S' => S = S' ∧ r = .tuple #[.int .i64 ((arN o).1 : Nat), .int .i64 ((arN o).2.1 : Nat), .bool (arN o).2.2] := by rw [hv]; exact h
theorem yArityA {S : St} {o : Nat} (ho : o < 256) (h : o ∈ [0, 8, 9, 21, 25, 49, 53, 55, 57, 59, 60, 62, 63, 64, 80, 81, 82, 83, 84, 85, 86, 87, 91, 92, 93, 94, 240, 241, 242, 243, 244, 245, 250, 253, 254, 255]) :
    CallG Hvaf.prog 147 #[.int .u8 (o : Nat)] S fun r S' => S = S' ∧ r = .tuple #[.int .i64 ((arN o).1 : Nat), .int .i64 ((arN o).2.1 : Nat), .bool (arN o).2.2] := by
  have hf := fun (S : St) => Family_spec (S := S) ho
  simp only [List.mem_cons, List.not_mem_nil, or_false] at h
  rcases h with rfl | rfl | rfl | rfl | rfl | rfl | rfl | rfl | rfl | rfl | rfl | rfl | rfl | rfl | rfl | rfl | rfl | rfl | rfl | rfl | rfl | rfl | rfl | rfl | rfl | rfl | rfl | rfl | rfl | rfl | rfl | rfl | rfl | rfl | rfl | rfl
  all_goals (
    refine ar_case rfl ?_
    refine CallG.start (C := mkC Hvaf.prog) cok (args := [.int .u8 ((_ : Nat) : Int)]) Hvaf.func147 rfl Hvaf.ntmps147 (by simp) (by kernel_rfl) ?_
    repeat (first | refine SeqS.go cok ?_)
    refine (hf _).mono ?_
    rintro r _ - ⟨rfl, rfl⟩
    repeat (first | refine SeqS.go cok ?_ | refine GuardS.yes rfl ?_ | refine GuardS.no rfl ?_ | refine CondS.t rfl ?_ | refine CondS.f rfl ?_)
    exact Fin.same ⟨rfl, rfl⟩)
theorem yArityB {S : St} {o : Nat} (ho : o < 256) (h : o ∈ [1, 2, 3, 4, 5, 6, 7, 10, 11, 16, 17, 18, 19, 20, 22, 23, 24, 26, 27, 28, 29, 32, 48, 50, 51, 52, 54, 56, 58, 61, 65, 66, 67, 68, 69, 70, 71, 72, 88, 89, 90, 95]) :
    CallG Hvaf.prog 147 #[.int .u8 (o : Nat)] S fun r S' => S = S' ∧ r = .tuple #[.int .i64 ((arN o).1 : Nat), .int .i64 ((arN o).2.1 : Nat), .bool (arN o).2.2] := by
  have hf := fun (S : St) => Family_spec (S := S) ho
  simp only [List.mem_cons, List.not_mem_nil, or_false] at h
  rcases h with rfl | rfl | rfl | rfl | rfl | rfl | rfl | rfl | rfl | rfl | rfl | rfl | rfl | rfl | rfl | rfl | rfl | rfl | rfl | rfl | rfl | rfl | rfl | rfl | rfl | rfl | rfl | rfl | rfl | rfl | rfl | rfl | rfl | rfl | rfl | rfl | rfl | rfl | rfl | rfl | rfl | rfl
  all_goals (
    refine ar_case rfl ?_
    refine CallG.start (C := mkC Hvaf.prog) cok (args := [.int .u8 ((_ : Nat) : Int)]) Hvaf.func147 rfl Hvaf.ntmps147 (by simp) (by kernel_rfl) ?_
    repeat (first | refine SeqS.go cok ?_)
    refine (hf _).mono ?_
    rintro r _ - ⟨rfl, rfl⟩
    repeat (first | refine SeqS.go cok ?_ | refine GuardS.no rfl ?_ | refine CondS.f rfl ?_)
    refine (hf _).mono ?_
    rintro r _ - ⟨rfl, rfl⟩
    repeat (first | refine SeqS.go cok ?_ | refine CondS.t rfl ?_ | refine CondS.f rfl ?_)
    exact Fin.same ⟨rfl, rfl⟩)
/-- yp.arity -/
theorem yArity {S : St} {o : Nat} (ho : o < 256) :
    CallG Hvaf.prog 147 #[.int .u8 (o : Nat)] S fun r S' => S = S' ∧ r = .tuple #[.int .i64 ((arN o).1 : Nat), .int .i64 ((arN o).2.1 : Nat), .bool (arN o).2.2] := by
  have hc : o ∈ [0, 8, 9, 21, 25, 49, 53, 55, 57, 59, 60, 62, 63, 64, 80, 81, 82, 83, 84, 85, 86, 87, 91, 92, 93, 94, 240, 241, 242, 243, 244, 245, 250, 253, 254, 255] ∨ o ∈ [1, 2, 3, 4, 5, 6, 7, 10, 11, 16, 17, 18, 19, 20, 22, 23, 24, 26, 27, 28, 29, 32, 48, 50, 51, 52, 54, 56, 58, 61, 65, 66, 67, 68, 69, 70, 71, 72, 88, 89, 90, 95] ∨ (12 ≤ o ∧ o ≤ 15) ∨ (30 ≤ o ∧ o ≤ 31) ∨ (33 ≤ o ∧ o ≤ 47) ∨ (73 ≤ o ∧ o ≤ 79) ∨ (96 ≤ o ∧ o ≤ 127) ∨ (128 ≤ o ∧ o ≤ 143) ∨ (144 ≤ o ∧ o ≤ 159) ∨ (160 ≤ o ∧ o ≤ 164) ∨ (165 ≤ o ∧ o ≤ 239) ∨ (246 ≤ o ∧ o ≤ 249) ∨ (251 ≤ o ∧ o ≤ 252) := (by decide +kernel : ∀ o, o < 256 → o ∈ [0, 8, 9, 21, 25, 49, 53, 55, 57, 59, 60, 62, 63, 64, 80, 81, 82, 83, 84, 85, 86, 87, 91, 92, 93, 94, 240, 241, 242, 243, 244, 245, 250, 253, 254, 255] ∨ o ∈ [1, 2, 3, 4, 5, 6, 7, 10, 11, 16, 17, 18, 19, 20, 22, 23, 24, 26, 27, 28, 29, 32, 48, 50, 51, 52, 54, 56, 58, 61, 65, 66, 67, 68, 69, 70, 71, 72, 88, 89, 90, 95] ∨ (12 ≤ o ∧ o ≤ 15) ∨ (30 ≤ o ∧ o ≤ 31) ∨ (33 ≤ o ∧ o ≤ 47) ∨ (73 ≤ o ∧ o ≤ 79) ∨ (96 ≤ o ∧ o ≤ 127) ∨ (128 ≤ o ∧ o ≤ 143) ∨ (144 ≤ o ∧ o ≤ 159) ∨ (160 ≤ o ∧ o ≤ 164) ∨ (165 ≤ o ∧ o ≤ 239) ∨ (246 ≤ o ∧ o ≤ 249) ∨ (251 ≤ o ∧ o ≤ 252)) o ho
  rcases hc with h | h | ⟨h1, h2⟩ | ⟨h1, h2⟩ | ⟨h1, h2⟩ | ⟨h1, h2⟩ | ⟨h1, h2⟩ | ⟨h1, h2⟩ | ⟨h1, h2⟩ | ⟨h1, h2⟩ | ⟨h1, h2⟩ | ⟨h1, h2⟩ | ⟨h1, h2⟩
  · exact yArityA ho h
  · exact yArityB ho h
  · refine ar_case (a := 0) (b := 0) (k := false) (by unfold arN; repeat (first | rw [if_pos (by omega)] | rw [if_neg (by omega)])) ?_
    have hf : ∀ S, _ := fun S => Family_spec (S := S) ho
    have e : famN o = 0 := by unfold famN; repeat (first | rw [if_pos (by omega)] | rw [if_neg (by omega)])
    rw [e] at hf
    refine CallG.start (C := mkC Hvaf.prog) cok (args := [.int .u8 (o : Nat)]) Hvaf.func147 rfl Hvaf.ntmps147 (by simp) (by kernel_rfl) ?_
    repeat (first | refine SeqS.go cok ?_)
    refine (hf _).mono ?_
    rintro r _ - ⟨rfl, rfl⟩
    repeat (first | refine SeqS.go cok ?_ | refine CondS.t rfl ?_)
    exact Fin.same ⟨rfl, rfl⟩
  · refine ar_case (a := 0) (b := 0) (k := false) (by unfold arN; repeat (first | rw [if_pos (by omega)] | rw [if_neg (by omega)])) ?_
    have hf : ∀ S, _ := fun S => Family_spec (S := S) ho
    have e : famN o = 0 := by unfold famN; repeat (first | rw [if_pos (by omega)] | rw [if_neg (by omega)])
    rw [e] at hf
    refine CallG.start (C := mkC Hvaf.prog) cok (args := [.int .u8 (o : Nat)]) Hvaf.func147 rfl Hvaf.ntmps147 (by simp) (by kernel_rfl) ?_
    repeat (first | refine SeqS.go cok ?_)
    refine (hf _).mono ?_
    rintro r _ - ⟨rfl, rfl⟩
    repeat (first | refine SeqS.go cok ?_ | refine CondS.t rfl ?_)
    exact Fin.same ⟨rfl, rfl⟩
  · refine ar_case (a := 0) (b := 0) (k := false) (by unfold arN; repeat (first | rw [if_pos (by omega)] | rw [if_neg (by omega)])) ?_
    have hf : ∀ S, _ := fun S => Family_spec (S := S) ho
    have e : famN o = 0 := by unfold famN; repeat (first | rw [if_pos (by omega)] | rw [if_neg (by omega)])
    rw [e] at hf
    refine CallG.start (C := mkC Hvaf.prog) cok (args := [.int .u8 (o : Nat)]) Hvaf.func147 rfl Hvaf.ntmps147 (by simp) (by kernel_rfl) ?_
    repeat (first | refine SeqS.go cok ?_)
    refine (hf _).mono ?_
    rintro r _ - ⟨rfl, rfl⟩
    repeat (first | refine SeqS.go cok ?_ | refine CondS.t rfl ?_)
    exact Fin.same ⟨rfl, rfl⟩
  · refine ar_case (a := 0) (b := 0) (k := false) (by unfold arN; repeat (first | rw [if_pos (by omega)] | rw [if_neg (by omega)])) ?_
    have hf : ∀ S, _ := fun S => Family_spec (S := S) ho
    have e : famN o = 0 := by unfold famN; repeat (first | rw [if_pos (by omega)] | rw [if_neg (by omega)])
    rw [e] at hf
    refine CallG.start (C := mkC Hvaf.prog) cok (args := [.int .u8 (o : Nat)]) Hvaf.func147 rfl Hvaf.ntmps147 (by simp) (by kernel_rfl) ?_
    repeat (first | refine SeqS.go cok ?_)
    refine (hf _).mono ?_
    rintro r _ - ⟨rfl, rfl⟩
    repeat (first | refine SeqS.go cok ?_ | refine CondS.t rfl ?_)
    exact Fin.same ⟨rfl, rfl⟩
  · refine ar_case (a := 0) (b := 1) (k := true) (by unfold arN; repeat (first | rw [if_pos (by omega)] | rw [if_neg (by omega)])) ?_
    have hf : ∀ S, _ := fun S => Family_spec (S := S) ho
    have e : famN o = 2 := by unfold famN; repeat (first | rw [if_pos (by omega)] | rw [if_neg (by omega)])
    rw [e] at hf
    refine CallG.start (C := mkC Hvaf.prog) cok (args := [.int .u8 (o : Nat)]) Hvaf.func147 rfl Hvaf.ntmps147 (by simp) (by kernel_rfl) ?_
    repeat (first | refine SeqS.go cok ?_)
    refine (hf _).mono ?_
    rintro r _ - ⟨rfl, rfl⟩
    repeat (first | refine SeqS.go cok ?_ | refine GuardS.no rfl ?_ | refine CondS.f rfl ?_ | (refine GuardS.keep ?_; first | refine GuardS.T0 rfl (by omega) ?_) | (refine CondS.keep ?_; first | refine CondS.d0 rfl (by omega) ?_))
    refine (hf _).mono ?_
    rintro r _ - ⟨rfl, rfl⟩
    repeat (first | refine SeqS.go cok ?_ | refine CondS.f rfl ?_)
    exact Fin.same ⟨rfl, rfl⟩
  · refine ar_case (a := o - 128 + 1) (b := o - 128 + 2) (k := true) (by unfold arN; repeat (first | rw [if_pos (by omega)] | rw [if_neg (by omega)])) ?_
    have hf : ∀ S, _ := fun S => Family_spec (S := S) ho
    have e : famN o = 2 := by unfold famN; repeat (first | rw [if_pos (by omega)] | rw [if_neg (by omega)])
    rw [e] at hf
    refine CallG.start (C := mkC Hvaf.prog) cok (args := [.int .u8 (o : Nat)]) Hvaf.func147 rfl Hvaf.ntmps147 (by simp) (by kernel_rfl) ?_
    repeat (first | refine SeqS.go cok ?_)
    refine (hf _).mono ?_
    rintro r _ - ⟨rfl, rfl⟩
    repeat (first | refine SeqS.go cok ?_ | refine GuardS.yes rfl ?_ | refine CondS.f rfl ?_ | (refine ValS.keep ?_; first | (with_reducible refine ValS.kI64 ?_; first | (with_reducible refine ValS.convI64 ?_ ?_ ; omega) | (with_reducible refine ValS.addI64_L ?_ ?_ ; omega)) | (with_reducible refine ValS.kU8 ?_; first | (with_reducible refine ValS.subU8_L ?_ ?_ ?_ ; omega; omega))) | (refine GuardS.keep ?_; first | refine GuardS.T1 rfl (by omega) ?_) | (refine CondS.keep ?_; first | refine CondS.d1 rfl (by omega) ?_))
    exact Fin.same ⟨rfl, rfl⟩
  · refine ar_case (a := o - 144 + 2) (b := o - 144 + 2) (k := true) (by unfold arN; repeat (first | rw [if_pos (by omega)] | rw [if_neg (by omega)])) ?_
    have hf : ∀ S, _ := fun S => Family_spec (S := S) ho
    have e : famN o = 2 := by unfold famN; repeat (first | rw [if_pos (by omega)] | rw [if_neg (by omega)])
    rw [e] at hf
    refine CallG.start (C := mkC Hvaf.prog) cok (args := [.int .u8 (o : Nat)]) Hvaf.func147 rfl Hvaf.ntmps147 (by simp) (by kernel_rfl) ?_
    repeat (first | refine SeqS.go cok ?_)
    refine (hf _).mono ?_
    rintro r _ - ⟨rfl, rfl⟩
    repeat (first | refine SeqS.go cok ?_ | refine GuardS.yes rfl ?_ | refine CondS.f rfl ?_ | (refine ValS.keep ?_; first | (with_reducible refine ValS.kI64 ?_; first | (with_reducible refine ValS.convI64 ?_ ?_ ; omega) | (with_reducible refine ValS.addI64_L ?_ ?_ ; omega)) | (with_reducible refine ValS.kU8 ?_; first | (with_reducible refine ValS.subU8_L ?_ ?_ ?_ ; omega; omega))) | (refine GuardS.keep ?_; first | refine GuardS.T1 rfl (by omega) ?_) | (refine CondS.keep ?_; first | refine CondS.d1 rfl (by omega) ?_ | refine CondS.d0 rfl (by omega) ?_))
    exact Fin.same ⟨rfl, rfl⟩
  · refine ar_case (a := o - 160 + 2) (b := 0) (k := true) (by unfold arN; repeat (first | rw [if_pos (by omega)] | rw [if_neg (by omega)])) ?_
    have hf : ∀ S, _ := fun S => Family_spec (S := S) ho
    have e : famN o = 8 := by unfold famN; repeat (first | rw [if_pos (by omega)] | rw [if_neg (by omega)])
    rw [e] at hf
    refine CallG.start (C := mkC Hvaf.prog) cok (args := [.int .u8 (o : Nat)]) Hvaf.func147 rfl Hvaf.ntmps147 (by simp) (by kernel_rfl) ?_
    repeat (first | refine SeqS.go cok ?_)
    refine (hf _).mono ?_
    rintro r _ - ⟨rfl, rfl⟩
    repeat (first | refine SeqS.go cok ?_ | refine GuardS.yes rfl ?_ | refine CondS.f rfl ?_ | (refine ValS.keep ?_; first | (with_reducible refine ValS.kI64 ?_; first | (with_reducible refine ValS.convI64 ?_ ?_ ; omega) | (with_reducible refine ValS.addI64_L ?_ ?_ ; omega)) | (with_reducible refine ValS.kU8 ?_; first | (with_reducible refine ValS.subU8_L ?_ ?_ ?_ ; omega; omega))) | (refine GuardS.keep ?_; first | refine GuardS.T1 rfl (by omega) ?_) | (refine CondS.keep ?_; first | refine CondS.d1 rfl (by omega) ?_ | refine CondS.d0 rfl (by omega) ?_))
    exact Fin.same ⟨rfl, rfl⟩
  · refine ar_case (a := 0) (b := 0) (k := false) (by unfold arN; repeat (first | rw [if_pos (by omega)] | rw [if_neg (by omega)])) ?_
    have hf : ∀ S, _ := fun S => Family_spec (S := S) ho
    have e : famN o = 0 := by unfold famN; repeat (first | rw [if_pos (by omega)] | rw [if_neg (by omega)])
    rw [e] at hf
    refine CallG.start (C := mkC Hvaf.prog) cok (args := [.int .u8 (o : Nat)]) Hvaf.func147 rfl Hvaf.ntmps147 (by simp) (by kernel_rfl) ?_
    repeat (first | refine SeqS.go cok ?_)
    refine (hf _).mono ?_
    rintro r _ - ⟨rfl, rfl⟩
    repeat (first | refine SeqS.go cok ?_ | refine CondS.t rfl ?_)
    exact Fin.same ⟨rfl, rfl⟩
  · refine ar_case (a := 0) (b := 0) (k := false) (by unfold arN; repeat (first | rw [if_pos (by omega)] | rw [if_neg (by omega)])) ?_
    have hf : ∀ S, _ := fun S => Family_spec (S := S) ho
    have e : famN o = 0 := by unfold famN; repeat (first | rw [if_pos (by omega)] | rw [if_neg (by omega)])
    rw [e] at hf
    refine CallG.start (C := mkC Hvaf.prog) cok (args := [.int .u8 (o : Nat)]) Hvaf.func147 rfl Hvaf.ntmps147 (by simp) (by kernel_rfl) ?_
    repeat (first | refine SeqS.go cok ?_)
    refine (hf _).mono ?_
    rintro r _ - ⟨rfl, rfl⟩
    repeat (first | refine SeqS.go cok ?_ | refine CondS.t rfl ?_)
    exact Fin.same ⟨rfl, rfl⟩
  · refine ar_case (a := 0) (b := 0) (k := false) (by unfold arN; repeat (first | rw [if_pos (by omega)] | rw [if_neg (by omega)])) ?_
    have hf : ∀ S, _ := fun S => Family_spec (S := S) ho
    have e : famN o = 0 := by unfold famN; repeat (first | rw [if_pos (by omega)] | rw [if_neg (by omega)])
    rw [e] at hf
    refine CallG.start (C := mkC Hvaf.prog) cok (args := [.int .u8 (o : Nat)]) Hvaf.func147 rfl Hvaf.ntmps147 (by simp) (by kernel_rfl) ?_
    repeat (first | refine SeqS.go cok ?_)
    refine (hf _).mono ?_
    rintro r _ - ⟨rfl, rfl⟩
    repeat (first | refine SeqS.go cok ?_ | refine CondS.t rfl ?_)
    exact Fin.same ⟨rfl, rfl⟩
end Go.Proofs.YgvafwGreat
