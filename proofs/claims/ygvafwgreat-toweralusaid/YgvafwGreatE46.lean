import Derived.Test.YgvafwGreatE37
import Derived.Test.YgvafwGreatY33
set_option exponentiation.threshold 1000
set_option maxRecDepth 100000
set_option maxHeartbeats 4000000
set_option linter.unusedVariables false
set_option linter.unusedSimpArgs false
-- v2
-- v4
-- v5
-- v6
-- v7
namespace Go.Proofs.YgvafwGreat
open Go.HL Go.Proofs
/-- mach.Machine.Admit, mAdU -/
theorem mAdU {I : Ent → Prop} {G : List Ent} {cb sz pc gas o tk gv sg : Nat} {T : TypeId} {c : Nat → Value} {K : YK} {s : List Nat} {Q : Post} (hsz : 2435 ≤ sz) (hK : MK I cb c K) (hM : MV c pc gas s) (hx : CallG Hvaf.prog 195 #[ptr cb 0, .int .u8 ((5 : Nat) : Int)] ⟨I, ⟨cb, sz, T, c⟩ :: G⟩ Q) :
    CallG Hvaf.prog 120 #[ptr cb 0, .int .u8 (o : Nat), .int .u8 (tk : Nat), .int .u8 (gv : Nat), .int .u16 (sg : Nat), .bool false] ⟨I, ⟨cb, sz, T, c⟩ :: G⟩ Q := by
  have hrn := mRunning (I := I) (G := G) (cb := cb) (T := T) hsz hK
  have hsp := hM.fsp
  have hsl := hM.sl
  generalize s.length = L at *
  refine CallG.start (C := mkC Hvaf.prog) cok (args := [ptr cb 0, .int .u8 (o : Nat), .int .u8 (tk : Nat), .int .u8 (gv : Nat), .int .u16 (sg : Nat), .bool false]) Hvaf.func120 rfl Hvaf.ntmps120 (by simp) (by kernel_rfl) ?_
  repeat (first | refine SeqS.go cok ?_)
  refine CallG.sameL [] hrn ?_
  repeat (first | refine SeqS.go cok ?_ | refine CondS.t rfl ?_ | refine CondS.f rfl ?_)
  refine CallG.behind [] hx ?_
  intro r J G1 hs hq
  repeat (first | refine SeqS.go cok ?_)
  exact Fin.same hq
/-- mach.Machine.Admit, mAdS -/
theorem mAdS {I : Ent → Prop} {G : List Ent} {cb sz pc gas o tk gv sg : Nat} {T : TypeId} {c : Nat → Value} {K : YK} {s : List Nat} {Q : Post} (hsz : 2435 ≤ sz) (hK : MK I cb c K) (hM : MV c pc gas s) (h1 : s.length < tk) (h2 : tk < 256) (hx : CallG Hvaf.prog 195 #[ptr cb 0, .int .u8 ((3 : Nat) : Int)] ⟨I, ⟨cb, sz, T, c⟩ :: G⟩ Q) :
    CallG Hvaf.prog 120 #[ptr cb 0, .int .u8 (o : Nat), .int .u8 (tk : Nat), .int .u8 (gv : Nat), .int .u16 (sg : Nat), .bool true] ⟨I, ⟨cb, sz, T, c⟩ :: G⟩ Q := by
  have hrn := mRunning (I := I) (G := G) (cb := cb) (T := T) hsz hK
  have hsp := hM.fsp
  have hsl := hM.sl
  generalize s.length = L at *
  refine CallG.start (C := mkC Hvaf.prog) cok (args := [ptr cb 0, .int .u8 (o : Nat), .int .u8 (tk : Nat), .int .u8 (gv : Nat), .int .u16 (sg : Nat), .bool true]) Hvaf.func120 rfl Hvaf.ntmps120 (by simp) (by kernel_rfl) ?_
  repeat (first | refine SeqS.go cok ?_)
  refine CallG.sameL [] hrn ?_
  repeat (first | (refine QuG.keep ?_; first | refine QuG.l1E cok 0 rfl rfl rfl rfl rfl (by first | exact Nat.le_of_ble_eq_true rfl | omega | (dsimp only; omega) | (simp only [addS_eq, mulS_eq]; omega)) (by assumption) ?_) | refine SeqS.go cok ?_ | refine CondS.f rfl ?_ | (refine ValS.keep ?_; first | (with_reducible refine ValS.kU16 ?_; first | (with_reducible refine ValS.convU16 ?_ ?_ ; omega))) | (refine CondS.keep ?_; first | refine CondS.d1 rfl (by omega) ?_))
  refine CallG.behind [] hx ?_
  intro r J G1 hs hq
  repeat (first | refine SeqS.go cok ?_)
  exact Fin.same hq
/-- mach.Machine.Admit, mAdO -/
theorem mAdO {I : Ent → Prop} {G : List Ent} {cb sz pc gas o tk gv sg : Nat} {T : TypeId} {c : Nat → Value} {K : YK} {s : List Nat} {Q : Post} (hsz : 2435 ≤ sz) (hK : MK I cb c K) (hM : MV c pc gas s) (h1 : tk ≤ s.length) (h2 : 64 < s.length - tk + gv) (h3 : gv < 256) (hx : CallG Hvaf.prog 195 #[ptr cb 0, .int .u8 ((4 : Nat) : Int)] ⟨I, ⟨cb, sz, T, c⟩ :: G⟩ Q) :
    CallG Hvaf.prog 120 #[ptr cb 0, .int .u8 (o : Nat), .int .u8 (tk : Nat), .int .u8 (gv : Nat), .int .u16 (sg : Nat), .bool true] ⟨I, ⟨cb, sz, T, c⟩ :: G⟩ Q := by
  have hrn := mRunning (I := I) (G := G) (cb := cb) (T := T) hsz hK
  have hsp := hM.fsp
  have hsl := hM.sl
  generalize s.length = L at *
  refine CallG.start (C := mkC Hvaf.prog) cok (args := [ptr cb 0, .int .u8 (o : Nat), .int .u8 (tk : Nat), .int .u8 (gv : Nat), .int .u16 (sg : Nat), .bool true]) Hvaf.func120 rfl Hvaf.ntmps120 (by simp) (by kernel_rfl) ?_
  repeat (first | refine SeqS.go cok ?_)
  refine CallG.sameL [] hrn ?_
  repeat (first | (refine QuG.keep ?_; first | refine QuG.l1E cok 0 rfl rfl rfl rfl rfl (by first | exact Nat.le_of_ble_eq_true rfl | omega | (dsimp only; omega) | (simp only [addS_eq, mulS_eq]; omega)) (by assumption) ?_) | refine SeqS.go cok ?_ | refine CondS.f rfl ?_ | (refine ValS.keep ?_; first | (with_reducible refine ValS.kU16 ?_; first | (with_reducible refine ValS.convU16 ?_ ?_ ; omega) | (with_reducible refine ValS.addU16 ?_ ?_ ; omega) | (with_reducible refine ValS.subU16 ?_ ?_ ?_ ; omega; omega))) | (refine CondS.keep ?_; first | refine CondS.d1 rfl (by omega) ?_ | refine CondS.d0 rfl (by omega) ?_))
  refine CallG.behind [] hx ?_
  intro r J G1 hs hq
  repeat (first | refine SeqS.go cok ?_)
  exact Fin.same hq
/-- mach.Machine.Admit, mAdP -/
theorem mAdP {I : Ent → Prop} {G : List Ent} {cb sz pc gas o tk gv sg : Nat} {T : TypeId} {c : Nat → Value} {K : YK} {s : List Nat} {Q : Post} (hsz : 2435 ≤ sz) (hK : MK I cb c K) (hM : MV c pc gas s) (h1 : tk ≤ s.length) (h2 : s.length - tk + gv ≤ 64) (h3 : gv < 256) (hx : CallG Hvaf.prog 198 #[ptr cb 0, .int .u8 (o : Nat), .int .u16 (sg : Nat)] ⟨I, ⟨cb, sz, T, c⟩ :: G⟩ Q) :
    CallG Hvaf.prog 120 #[ptr cb 0, .int .u8 (o : Nat), .int .u8 (tk : Nat), .int .u8 (gv : Nat), .int .u16 (sg : Nat), .bool true] ⟨I, ⟨cb, sz, T, c⟩ :: G⟩ Q := by
  have hrn := mRunning (I := I) (G := G) (cb := cb) (T := T) hsz hK
  have hsp := hM.fsp
  have hsl := hM.sl
  generalize s.length = L at *
  refine CallG.start (C := mkC Hvaf.prog) cok (args := [ptr cb 0, .int .u8 (o : Nat), .int .u8 (tk : Nat), .int .u8 (gv : Nat), .int .u16 (sg : Nat), .bool true]) Hvaf.func120 rfl Hvaf.ntmps120 (by simp) (by kernel_rfl) ?_
  repeat (first | refine SeqS.go cok ?_)
  refine CallG.sameL [] hrn ?_
  repeat (first | (refine QuG.keep ?_; first | refine QuG.l1E cok 0 rfl rfl rfl rfl rfl (by first | exact Nat.le_of_ble_eq_true rfl | omega | (dsimp only; omega) | (simp only [addS_eq, mulS_eq]; omega)) (by assumption) ?_) | refine SeqS.go cok ?_ | refine CondS.f rfl ?_ | (refine ValS.keep ?_; first | (with_reducible refine ValS.kU16 ?_; first | (with_reducible refine ValS.convU16 ?_ ?_ ; omega) | (with_reducible refine ValS.addU16 ?_ ?_ ; omega) | (with_reducible refine ValS.subU16 ?_ ?_ ?_ ; omega; omega))) | (refine CondS.keep ?_; first | refine CondS.d0 rfl (by omega) ?_))
  refine CallG.behind [] hx ?_
  intro r J G1 hs hq
  repeat (first | refine SeqS.go cok ?_)
  exact Fin.same hq
/-- the machine's run of a built-in account, where there is none -/
theorem mNat {I : Ent → Prop} {G : List Ent} {cb sz : Nat} {T : TypeId} {c : Nat → Value} {K : YK} (hsz : 2435 ≤ sz) (hK : MK I cb c K) :
    CallG Hvaf.prog 117 #[ptr cb 0] ⟨I, ⟨cb, sz, T, c⟩ :: G⟩ fun r S' => ⟨I, ⟨cb, sz, T, c⟩ :: G⟩ = S' ∧ r = .bool false := by
  have hrn := mRunning (I := I) (G := G) (cb := cb) (T := T) hsz hK
  have hfn := hK.fn
  refine CallG.start (C := mkC Hvaf.prog) cok (args := [ptr cb 0]) Hvaf.func117 rfl Hvaf.ntmps117 (by simp) (by kernel_rfl) ?_
  repeat (first | refine SeqS.go cok ?_)
  refine CallG.sameL [] hrn ?_
  repeat (first | (refine QuG.keep ?_; first | refine QuG.l1E cok 0 rfl rfl rfl rfl rfl (by first | exact Nat.le_of_ble_eq_true rfl | omega | (dsimp only; omega) | (simp only [addS_eq, mulS_eq]; omega)) (by assumption) ?_) | refine SeqS.go cok ?_ | refine GuardS.yes rfl ?_ | refine CondS.t rfl ?_)
  exact Fin.same ⟨rfl, rfl⟩
/-- mach.Machine.Exec, OpArith -/
theorem mExOpArith {S : St} {cb o : Nat} {Q : Post} (ho : o ∈ [1, 2, 3, 4, 5, 6, 7, 8, 9, 10, 11]) (hx : CallG Hvaf.prog 199 #[ptr cb 0] S Q) :
    CallG Hvaf.prog 121 #[ptr cb 0, .int .u8 (o : Nat)] S fun _ S' => ∃ r, Q r S' := by
  simp only [List.mem_cons, List.not_mem_nil, or_false] at ho
  rcases ho with rfl | rfl | rfl | rfl | rfl | rfl | rfl | rfl | rfl | rfl | rfl
  all_goals (
    refine CallG.start (C := mkC Hvaf.prog) cok (args := [ptr cb 0, .int .u8 ((_ : Nat) : Int)]) Hvaf.func121 rfl Hvaf.ntmps121 (by simp) (by kernel_rfl) ?_
    repeat (first | refine SeqS.go cok ?_ | refine CondS.t rfl ?_ | refine CondS.f rfl ?_)
    refine hx.mono ?_
    intro r S' hs hq
    skip
    exact Fin.same ⟨r, hq⟩)
/-- mach.Machine.Exec, OpCompare -/
theorem mExOpCompare {S : St} {cb o : Nat} {Q : Post} (ho : o ∈ [16, 17, 18, 19, 20, 21]) (hx : CallG Hvaf.prog 200 #[ptr cb 0] S Q) :
    CallG Hvaf.prog 121 #[ptr cb 0, .int .u8 (o : Nat)] S fun _ S' => ∃ r, Q r S' := by
  simp only [List.mem_cons, List.not_mem_nil, or_false] at ho
  rcases ho with rfl | rfl | rfl | rfl | rfl | rfl
  all_goals (
    refine CallG.start (C := mkC Hvaf.prog) cok (args := [ptr cb 0, .int .u8 ((_ : Nat) : Int)]) Hvaf.func121 rfl Hvaf.ntmps121 (by simp) (by kernel_rfl) ?_
    repeat (first | refine SeqS.go cok ?_ | refine CondS.t rfl ?_ | refine CondS.f rfl ?_)
    refine hx.mono ?_
    intro r S' hs hq
    skip
    exact Fin.same ⟨r, hq⟩)
/-- mach.Machine.Exec, OpBits -/
theorem mExOpBits {S : St} {cb o : Nat} {Q : Post} (ho : o ∈ [22, 23, 24, 25, 26, 27, 28, 29]) (hx : CallG Hvaf.prog 201 #[ptr cb 0] S Q) :
    CallG Hvaf.prog 121 #[ptr cb 0, .int .u8 (o : Nat)] S fun _ S' => ∃ r, Q r S' := by
  simp only [List.mem_cons, List.not_mem_nil, or_false] at ho
  rcases ho with rfl | rfl | rfl | rfl | rfl | rfl | rfl | rfl
  all_goals (
    refine CallG.start (C := mkC Hvaf.prog) cok (args := [ptr cb 0, .int .u8 ((_ : Nat) : Int)]) Hvaf.func121 rfl Hvaf.ntmps121 (by simp) (by kernel_rfl) ?_
    repeat (first | refine SeqS.go cok ?_ | refine CondS.t rfl ?_ | refine CondS.f rfl ?_)
    refine hx.mono ?_
    intro r S' hs hq
    skip
    exact Fin.same ⟨r, hq⟩)
/-- mach.Machine.Exec, OpKeccak -/
theorem mExOpKeccak {S : St} {cb o : Nat} {Q : Post} (ho : o ∈ [32]) (hx : CallG Hvaf.prog 202 #[ptr cb 0] S Q) :
    CallG Hvaf.prog 121 #[ptr cb 0, .int .u8 (o : Nat)] S fun _ S' => ∃ r, Q r S' := by
  simp only [List.mem_cons, List.not_mem_nil, or_false] at ho
  subst ho
  all_goals (
    refine CallG.start (C := mkC Hvaf.prog) cok (args := [ptr cb 0, .int .u8 ((_ : Nat) : Int)]) Hvaf.func121 rfl Hvaf.ntmps121 (by simp) (by kernel_rfl) ?_
    repeat (first | refine SeqS.go cok ?_ | refine CondS.t rfl ?_ | refine CondS.f rfl ?_)
    refine hx.mono ?_
    intro r S' hs hq
    skip
    exact Fin.same ⟨r, hq⟩)
/-- mach.Machine.Exec, OpAccount -/
theorem mExOpAccount {S : St} {cb o : Nat} {Q : Post} (ho : o ∈ [49, 59, 63]) (hx : CallG Hvaf.prog 203 #[ptr cb 0] S Q) :
    CallG Hvaf.prog 121 #[ptr cb 0, .int .u8 (o : Nat)] S fun _ S' => ∃ r, Q r S' := by
  simp only [List.mem_cons, List.not_mem_nil, or_false] at ho
  rcases ho with rfl | rfl | rfl
  all_goals (
    refine CallG.start (C := mkC Hvaf.prog) cok (args := [ptr cb 0, .int .u8 ((_ : Nat) : Int)]) Hvaf.func121 rfl Hvaf.ntmps121 (by simp) (by kernel_rfl) ?_
    repeat (first | refine SeqS.go cok ?_ | refine CondS.t rfl ?_ | refine CondS.f rfl ?_)
    refine hx.mono ?_
    intro r S' hs hq
    skip
    exact Fin.same ⟨r, hq⟩)
/-- mach.Machine.Exec, OpSurround -/
theorem mExOpSurround {S : St} {cb o : Nat} {Q : Post} (ho : o ∈ [48, 50, 51, 52, 53, 54, 56, 58, 61, 71, 88, 89, 90]) (hx : CallG Hvaf.prog 204 #[ptr cb 0] S Q) :
    CallG Hvaf.prog 121 #[ptr cb 0, .int .u8 (o : Nat)] S fun _ S' => ∃ r, Q r S' := by
  simp only [List.mem_cons, List.not_mem_nil, or_false] at ho
  rcases ho with rfl | rfl | rfl | rfl | rfl | rfl | rfl | rfl | rfl | rfl | rfl | rfl | rfl
  all_goals (
    refine CallG.start (C := mkC Hvaf.prog) cok (args := [ptr cb 0, .int .u8 ((_ : Nat) : Int)]) Hvaf.func121 rfl Hvaf.ntmps121 (by simp) (by kernel_rfl) ?_
    repeat (first | refine SeqS.go cok ?_ | refine CondS.t rfl ?_ | refine CondS.f rfl ?_)
    refine hx.mono ?_
    intro r S' hs hq
    skip
    exact Fin.same ⟨r, hq⟩)
/-- mach.Machine.Exec, OpCopy -/
theorem mExOpCopy {S : St} {cb o : Nat} {Q : Post} (ho : o ∈ [55, 57, 60, 62, 94]) (hx : CallG Hvaf.prog 205 #[ptr cb 0] S Q) :
    CallG Hvaf.prog 121 #[ptr cb 0, .int .u8 (o : Nat)] S fun _ S' => ∃ r, Q r S' := by
  simp only [List.mem_cons, List.not_mem_nil, or_false] at ho
  rcases ho with rfl | rfl | rfl | rfl | rfl
  all_goals (
    refine CallG.start (C := mkC Hvaf.prog) cok (args := [ptr cb 0, .int .u8 ((_ : Nat) : Int)]) Hvaf.func121 rfl Hvaf.ntmps121 (by simp) (by kernel_rfl) ?_
    repeat (first | refine SeqS.go cok ?_ | refine CondS.t rfl ?_ | refine CondS.f rfl ?_)
    refine hx.mono ?_
    intro r S' hs hq
    skip
    exact Fin.same ⟨r, hq⟩)
/-- mach.Machine.Exec, OpBlock -/
theorem mExOpBlock {S : St} {cb o : Nat} {Q : Post} (ho : o ∈ [64, 65, 66, 67, 68, 69, 70, 72]) (hx : CallG Hvaf.prog 206 #[ptr cb 0] S Q) :
    CallG Hvaf.prog 121 #[ptr cb 0, .int .u8 (o : Nat)] S fun _ S' => ∃ r, Q r S' := by
  simp only [List.mem_cons, List.not_mem_nil, or_false] at ho
  rcases ho with rfl | rfl | rfl | rfl | rfl | rfl | rfl | rfl
  all_goals (
    refine CallG.start (C := mkC Hvaf.prog) cok (args := [ptr cb 0, .int .u8 ((_ : Nat) : Int)]) Hvaf.func121 rfl Hvaf.ntmps121 (by simp) (by kernel_rfl) ?_
    repeat (first | refine SeqS.go cok ?_ | refine CondS.t rfl ?_ | refine CondS.f rfl ?_)
    refine hx.mono ?_
    intro r S' hs hq
    skip
    exact Fin.same ⟨r, hq⟩)
/-- mach.Machine.Exec, OpMemory -/
theorem mExOpMemory {S : St} {cb o : Nat} {Q : Post} (ho : o ∈ [81, 82, 83]) (hx : CallG Hvaf.prog 207 #[ptr cb 0] S Q) :
    CallG Hvaf.prog 121 #[ptr cb 0, .int .u8 (o : Nat)] S fun _ S' => ∃ r, Q r S' := by
  simp only [List.mem_cons, List.not_mem_nil, or_false] at ho
  rcases ho with rfl | rfl | rfl
  all_goals (
    refine CallG.start (C := mkC Hvaf.prog) cok (args := [ptr cb 0, .int .u8 ((_ : Nat) : Int)]) Hvaf.func121 rfl Hvaf.ntmps121 (by simp) (by kernel_rfl) ?_
    repeat (first | refine SeqS.go cok ?_ | refine CondS.t rfl ?_ | refine CondS.f rfl ?_)
    refine hx.mono ?_
    intro r S' hs hq
    skip
    exact Fin.same ⟨r, hq⟩)
/-- mach.Machine.Exec, OpStorage -/
theorem mExOpStorage {S : St} {cb o : Nat} {Q : Post} (ho : o ∈ [84, 85]) (hx : CallG Hvaf.prog 208 #[ptr cb 0] S Q) :
    CallG Hvaf.prog 121 #[ptr cb 0, .int .u8 (o : Nat)] S fun _ S' => ∃ r, Q r S' := by
  simp only [List.mem_cons, List.not_mem_nil, or_false] at ho
  rcases ho with rfl | rfl
  all_goals (
    refine CallG.start (C := mkC Hvaf.prog) cok (args := [ptr cb 0, .int .u8 ((_ : Nat) : Int)]) Hvaf.func121 rfl Hvaf.ntmps121 (by simp) (by kernel_rfl) ?_
    repeat (first | refine SeqS.go cok ?_ | refine CondS.t rfl ?_ | refine CondS.f rfl ?_)
    refine hx.mono ?_
    intro r S' hs hq
    skip
    exact Fin.same ⟨r, hq⟩)
/-- mach.Machine.Exec, OpJump -/
theorem mExOpJump {S : St} {cb o : Nat} {Q : Post} (ho : o ∈ [86, 87, 91]) (hx : CallG Hvaf.prog 209 #[ptr cb 0] S Q) :
    CallG Hvaf.prog 121 #[ptr cb 0, .int .u8 (o : Nat)] S fun _ S' => ∃ r, Q r S' := by
  simp only [List.mem_cons, List.not_mem_nil, or_false] at ho
  rcases ho with rfl | rfl | rfl
  all_goals (
    refine CallG.start (C := mkC Hvaf.prog) cok (args := [ptr cb 0, .int .u8 ((_ : Nat) : Int)]) Hvaf.func121 rfl Hvaf.ntmps121 (by simp) (by kernel_rfl) ?_
    repeat (first | refine SeqS.go cok ?_ | refine CondS.t rfl ?_ | refine CondS.f rfl ?_)
    refine hx.mono ?_
    intro r S' hs hq
    skip
    exact Fin.same ⟨r, hq⟩)
/-- mach.Machine.Exec, OpTransient -/
theorem mExOpTransient {S : St} {cb o : Nat} {Q : Post} (ho : o ∈ [92, 93]) (hx : CallG Hvaf.prog 211 #[ptr cb 0] S Q) :
    CallG Hvaf.prog 121 #[ptr cb 0, .int .u8 (o : Nat)] S fun _ S' => ∃ r, Q r S' := by
  simp only [List.mem_cons, List.not_mem_nil, or_false] at ho
  rcases ho with rfl | rfl
  all_goals (
    refine CallG.start (C := mkC Hvaf.prog) cok (args := [ptr cb 0, .int .u8 ((_ : Nat) : Int)]) Hvaf.func121 rfl Hvaf.ntmps121 (by simp) (by kernel_rfl) ?_
    repeat (first | refine SeqS.go cok ?_ | refine CondS.t rfl ?_ | refine CondS.f rfl ?_)
    refine hx.mono ?_
    intro r S' hs hq
    skip
    exact Fin.same ⟨r, hq⟩)
/-- mach.Machine.Exec, OpEnd -/
theorem mExOpEnd {S : St} {cb o : Nat} {Q : Post} (ho : o ∈ [0, 243, 253]) (hx : CallG Hvaf.prog 214 #[ptr cb 0] S Q) :
    CallG Hvaf.prog 121 #[ptr cb 0, .int .u8 (o : Nat)] S fun _ S' => ∃ r, Q r S' := by
  simp only [List.mem_cons, List.not_mem_nil, or_false] at ho
  rcases ho with rfl | rfl | rfl
  all_goals (
    refine CallG.start (C := mkC Hvaf.prog) cok (args := [ptr cb 0, .int .u8 ((_ : Nat) : Int)]) Hvaf.func121 rfl Hvaf.ntmps121 (by simp) (by kernel_rfl) ?_
    repeat (first | refine SeqS.go cok ?_ | refine CondS.t rfl ?_ | refine CondS.f rfl ?_)
    refine hx.mono ?_
    intro r S' hs hq
    skip
    exact Fin.same ⟨r, hq⟩)
/-- mach.Machine.Exec, OpPop -/
theorem mExOpPop {S : St} {cb o : Nat} {Q : Post} (ho : o ∈ [80]) (hx : CallG Hvaf.prog 215 #[ptr cb 0] S Q) :
    CallG Hvaf.prog 121 #[ptr cb 0, .int .u8 (o : Nat)] S fun _ S' => ∃ r, Q r S' := by
  simp only [List.mem_cons, List.not_mem_nil, or_false] at ho
  subst ho
  all_goals (
    refine CallG.start (C := mkC Hvaf.prog) cok (args := [ptr cb 0, .int .u8 ((_ : Nat) : Int)]) Hvaf.func121 rfl Hvaf.ntmps121 (by simp) (by kernel_rfl) ?_
    repeat (first | refine SeqS.go cok ?_ | refine CondS.t rfl ?_ | refine CondS.f rfl ?_)
    refine hx.mono ?_
    intro r S' hs hq
    skip
    exact Fin.same ⟨r, hq⟩)
/-- mach.Machine.execRows, OpPush -/
theorem mRwOpPush {S : St} {cb o : Nat} {Q : Post} (h1 : 95 ≤ o) (h2 : o ≤ 127) (hx : CallG Hvaf.prog 326 #[ptr cb 0] S Q) :
    CallG Hvaf.prog 216 #[ptr cb 0, .int .u8 (o : Nat)] S fun _ S' => ∃ r, Q r S' := by
  refine CallG.start (C := mkC Hvaf.prog) cok (args := [ptr cb 0, .int .u8 (o : Nat)]) Hvaf.func216 rfl Hvaf.ntmps216 (by simp) (by kernel_rfl) ?_
  repeat (first | refine SeqS.go cok ?_ | refine GuardS.yes rfl ?_ | (refine GuardS.keep ?_; first | refine GuardS.T1 rfl (by omega) ?_) | (refine CondS.keep ?_; first | refine CondS.d1 rfl (by omega) ?_))
  refine hx.mono ?_
  intro r S' hs hq
  skip
  exact Fin.same ⟨r, hq⟩
/-- mach.Machine.execRows, OpDup -/
theorem mRwOpDup {S : St} {cb o : Nat} {Q : Post} (h1 : 128 ≤ o) (h2 : o ≤ 143) (hx : CallG Hvaf.prog 327 #[ptr cb 0] S Q) :
    CallG Hvaf.prog 216 #[ptr cb 0, .int .u8 (o : Nat)] S fun _ S' => ∃ r, Q r S' := by
  refine CallG.start (C := mkC Hvaf.prog) cok (args := [ptr cb 0, .int .u8 (o : Nat)]) Hvaf.func216 rfl Hvaf.ntmps216 (by simp) (by kernel_rfl) ?_
  repeat (first | refine SeqS.go cok ?_ | refine GuardS.yes rfl ?_ | (refine GuardS.keep ?_; first | refine GuardS.T1 rfl (by omega) ?_) | (refine CondS.keep ?_; first | refine CondS.d1 rfl (by omega) ?_ | refine CondS.d0 rfl (by omega) ?_))
  refine hx.mono ?_
  intro r S' hs hq
  skip
  exact Fin.same ⟨r, hq⟩
/-- mach.Machine.execRows, OpSwap -/
theorem mRwOpSwap {S : St} {cb o : Nat} {Q : Post} (h1 : 144 ≤ o) (h2 : o ≤ 159) (hx : CallG Hvaf.prog 328 #[ptr cb 0] S Q) :
    CallG Hvaf.prog 216 #[ptr cb 0, .int .u8 (o : Nat)] S fun _ S' => ∃ r, Q r S' := by
  refine CallG.start (C := mkC Hvaf.prog) cok (args := [ptr cb 0, .int .u8 (o : Nat)]) Hvaf.func216 rfl Hvaf.ntmps216 (by simp) (by kernel_rfl) ?_
  repeat (first | refine SeqS.go cok ?_ | refine GuardS.yes rfl ?_ | (refine GuardS.keep ?_; first | refine GuardS.T1 rfl (by omega) ?_) | (refine CondS.keep ?_; first | refine CondS.d1 rfl (by omega) ?_ | refine CondS.d0 rfl (by omega) ?_))
  refine hx.mono ?_
  intro r S' hs hq
  skip
  exact Fin.same ⟨r, hq⟩
/-- mach.Machine.execRows, OpLog -/
theorem mRwOpLog {S : St} {cb o : Nat} {Q : Post} (h1 : 160 ≤ o) (h2 : o ≤ 164) (hx : CallG Hvaf.prog 329 #[ptr cb 0] S Q) :
    CallG Hvaf.prog 216 #[ptr cb 0, .int .u8 (o : Nat)] S fun _ S' => ∃ r, Q r S' := by
  refine CallG.start (C := mkC Hvaf.prog) cok (args := [ptr cb 0, .int .u8 (o : Nat)]) Hvaf.func216 rfl Hvaf.ntmps216 (by simp) (by kernel_rfl) ?_
  repeat (first | refine SeqS.go cok ?_ | refine GuardS.yes rfl ?_ | (refine GuardS.keep ?_; first | refine GuardS.T1 rfl (by omega) ?_) | (refine CondS.keep ?_; first | refine CondS.d1 rfl (by omega) ?_ | refine CondS.d0 rfl (by omega) ?_))
  refine hx.mono ?_
  intro r S' hs hq
  skip
  exact Fin.same ⟨r, hq⟩
/-- mach.Machine.Exec, the rows -/
theorem mExRows {S : St} {cb o : Nat} {Q : Post} (h1 : 95 ≤ o) (h2 : o ≤ 164) (hx : CallG Hvaf.prog 216 #[ptr cb 0, .int .u8 (o : Nat)] S Q) :
    CallG Hvaf.prog 121 #[ptr cb 0, .int .u8 (o : Nat)] S fun _ S' => ∃ r, Q r S' := by
  refine CallG.start (C := mkC Hvaf.prog) cok (args := [ptr cb 0, .int .u8 (o : Nat)]) Hvaf.func121 rfl Hvaf.ntmps121 (by simp) (by kernel_rfl) ?_
  repeat (first | refine SeqS.go cok ?_ | (refine CondS.keep ?_; first | refine CondS.d0 rfl (by omega) ?_))
  refine hx.mono ?_
  intro r S' hs hq
  skip
  exact Fin.same ⟨r, hq⟩
end Go.Proofs.YgvafwGreat
