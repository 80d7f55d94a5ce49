import Derived.Test.YgvafwGreatE39
import Derived.Test.YgvafwGreatE40
set_option exponentiation.threshold 1000
set_option maxRecDepth 100000
set_option maxHeartbeats 4000000
set_option linter.unusedVariables false
set_option linter.unusedSimpArgs false
-- v2
-- v4
-- v5
-- v6
-- v7
namespace Go.Proofs.YgvafwGreat
open Go.HL Go.Proofs
/-- mach.Machine.reaches, [32, 243, 253, 160, 161, 162, 163, 164] -/
theorem mRsAY {I : Ent → Prop} {G : List Ent} {cb sz pc gas o : Nat} {T : TypeId} {c : Nat → Value} {K : YK} {s : List Nat} (hsz : 2435 ≤ sz) (hK : MK I cb c K) (hM : MV c pc gas s) (ho : o ∈ [32, 243, 253, 160, 161, 162, 163, 164]) (h : reachN s o ≤ 717280) :
    CallG Hvaf.prog 277 #[ptr cb 0, ptr cb 1803, .int .u8 (o : Nat)] ⟨I, ⟨cb, sz, T, c⟩ :: G⟩ fun r S' => ⟨I, ⟨cb, sz, T, c⟩ :: G⟩ = S' ∧ r = .tuple #[.int .u64 (((reachN s o + 31) / 32 : Nat) : Int), .bool true] := by
  have ha := mArg (I := I) (G := G) (cb := cb) (T := T) (i := 0) hsz hK.fsb hM (by decide)
  have hb := mArg (I := I) (G := G) (cb := cb) (T := T) (i := 1) hsz hK.fsb hM (by decide)
  have hb1 : argN s 0 < 115792089237316195423570985008687907853269984665640564039457584007913129639936 := argN_lt hM.sb
  have hb2 : argN s 1 < 115792089237316195423570985008687907853269984665640564039457584007913129639936 := argN_lt hM.sb
  simp only [List.mem_cons, List.not_mem_nil, or_false] at ho
  have hr : reachN s o = endN (argN s 0) (argN s 1) := by
    unfold reachN
    repeat (first | rw [if_pos (by omega)])
  rw [hr] at h ⊢
  clear hr
  have hre := fun S => mReachY (S := S) hb1 hb2 h
  generalize (endN (argN s 0) (argN s 1) + 31) / 32 = res at *
  generalize argN s 0 = a at *
  generalize argN s 1 = b at *
  rcases ho with rfl | rfl | rfl | rfl | rfl | rfl | rfl | rfl
  all_goals (
    refine CallG.start (C := mkC Hvaf.prog) cok (args := [ptr cb 0, ptr cb 1803, .int .u8 ((_ : Nat) : Int)]) Hvaf.func277 rfl Hvaf.ntmps277 (by simp) (by kernel_rfl) ?_
    repeat (first | refine SeqS.go cok ?_ | refine CondS.t rfl ?_ | refine CondS.f rfl ?_)
    refine CallG.sameL [] ha ?_
    skip
    refine CallG.sameL [] hb ?_
    skip
    refine (hre _).mono ?_
    rintro r _ - ⟨rfl, rfl⟩
    repeat (first | refine SeqS.go cok ?_)
    exact Fin.same ⟨rfl, rfl⟩)
/-- mach.Machine.reaches, [32, 243, 253, 160, 161, 162, 163, 164] -/
theorem mRsAN {I : Ent → Prop} {G : List Ent} {cb sz pc gas o : Nat} {T : TypeId} {c : Nat → Value} {K : YK} {s : List Nat} (hsz : 2435 ≤ sz) (hK : MK I cb c K) (hM : MV c pc gas s) (ho : o ∈ [32, 243, 253, 160, 161, 162, 163, 164]) (h : 717280 < reachN s o) :
    CallG Hvaf.prog 277 #[ptr cb 0, ptr cb 1803, .int .u8 (o : Nat)] ⟨I, ⟨cb, sz, T, c⟩ :: G⟩ fun r S' => ⟨I, ⟨cb, sz, T, c⟩ :: G⟩ = S' ∧ ∃ v, r = .tuple #[v, .bool false] := by
  have ha := mArg (I := I) (G := G) (cb := cb) (T := T) (i := 0) hsz hK.fsb hM (by decide)
  have hb := mArg (I := I) (G := G) (cb := cb) (T := T) (i := 1) hsz hK.fsb hM (by decide)
  have hb1 : argN s 0 < 115792089237316195423570985008687907853269984665640564039457584007913129639936 := argN_lt hM.sb
  have hb2 : argN s 1 < 115792089237316195423570985008687907853269984665640564039457584007913129639936 := argN_lt hM.sb
  simp only [List.mem_cons, List.not_mem_nil, or_false] at ho
  have hr : reachN s o = endN (argN s 0) (argN s 1) := by
    unfold reachN
    repeat (first | rw [if_pos (by omega)])
  rw [hr] at h
  clear hr
  have hre := fun S => mReachN (S := S) hb1 hb2 h
  generalize argN s 0 = a at *
  generalize argN s 1 = b at *
  rcases ho with rfl | rfl | rfl | rfl | rfl | rfl | rfl | rfl
  all_goals (
    refine CallG.start (C := mkC Hvaf.prog) cok (args := [ptr cb 0, ptr cb 1803, .int .u8 ((_ : Nat) : Int)]) Hvaf.func277 rfl Hvaf.ntmps277 (by simp) (by kernel_rfl) ?_
    repeat (first | refine SeqS.go cok ?_ | refine CondS.t rfl ?_ | refine CondS.f rfl ?_)
    refine CallG.sameL [] ha ?_
    skip
    refine CallG.sameL [] hb ?_
    skip
    refine (hre _).mono ?_
    rintro r _ - ⟨rfl, rfl⟩
    repeat (first | refine SeqS.go cok ?_)
    exact Fin.same ⟨rfl, _, rfl⟩)
/-- mach.Machine.reaches, [55, 57, 62] -/
theorem mRsBY {I : Ent → Prop} {G : List Ent} {cb sz pc gas o : Nat} {T : TypeId} {c : Nat → Value} {K : YK} {s : List Nat} (hsz : 2435 ≤ sz) (hK : MK I cb c K) (hM : MV c pc gas s) (ho : o ∈ [55, 57, 62]) (h : reachN s o ≤ 717280) :
    CallG Hvaf.prog 277 #[ptr cb 0, ptr cb 1803, .int .u8 (o : Nat)] ⟨I, ⟨cb, sz, T, c⟩ :: G⟩ fun r S' => ⟨I, ⟨cb, sz, T, c⟩ :: G⟩ = S' ∧ r = .tuple #[.int .u64 (((reachN s o + 31) / 32 : Nat) : Int), .bool true] := by
  have ha := mArg (I := I) (G := G) (cb := cb) (T := T) (i := 0) hsz hK.fsb hM (by decide)
  have hb := mArg (I := I) (G := G) (cb := cb) (T := T) (i := 2) hsz hK.fsb hM (by decide)
  have hb1 : argN s 0 < 115792089237316195423570985008687907853269984665640564039457584007913129639936 := argN_lt hM.sb
  have hb2 : argN s 2 < 115792089237316195423570985008687907853269984665640564039457584007913129639936 := argN_lt hM.sb
  simp only [List.mem_cons, List.not_mem_nil, or_false] at ho
  have hr : reachN s o = endN (argN s 0) (argN s 2) := by
    unfold reachN
    repeat (first | rw [if_pos (by omega)] | rw [if_neg (by omega)])
  rw [hr] at h ⊢
  clear hr
  have hre := fun S => mReachY (S := S) hb1 hb2 h
  generalize (endN (argN s 0) (argN s 2) + 31) / 32 = res at *
  generalize argN s 0 = a at *
  generalize argN s 2 = b at *
  rcases ho with rfl | rfl | rfl
  all_goals (
    refine CallG.start (C := mkC Hvaf.prog) cok (args := [ptr cb 0, ptr cb 1803, .int .u8 ((_ : Nat) : Int)]) Hvaf.func277 rfl Hvaf.ntmps277 (by simp) (by kernel_rfl) ?_
    repeat (first | refine SeqS.go cok ?_ | refine CondS.t rfl ?_ | refine CondS.f rfl ?_)
    refine CallG.sameL [] ha ?_
    skip
    refine CallG.sameL [] hb ?_
    skip
    refine (hre _).mono ?_
    rintro r _ - ⟨rfl, rfl⟩
    repeat (first | refine SeqS.go cok ?_)
    exact Fin.same ⟨rfl, rfl⟩)
/-- mach.Machine.reaches, [55, 57, 62] -/
theorem mRsBN {I : Ent → Prop} {G : List Ent} {cb sz pc gas o : Nat} {T : TypeId} {c : Nat → Value} {K : YK} {s : List Nat} (hsz : 2435 ≤ sz) (hK : MK I cb c K) (hM : MV c pc gas s) (ho : o ∈ [55, 57, 62]) (h : 717280 < reachN s o) :
    CallG Hvaf.prog 277 #[ptr cb 0, ptr cb 1803, .int .u8 (o : Nat)] ⟨I, ⟨cb, sz, T, c⟩ :: G⟩ fun r S' => ⟨I, ⟨cb, sz, T, c⟩ :: G⟩ = S' ∧ ∃ v, r = .tuple #[v, .bool false] := by
  have ha := mArg (I := I) (G := G) (cb := cb) (T := T) (i := 0) hsz hK.fsb hM (by decide)
  have hb := mArg (I := I) (G := G) (cb := cb) (T := T) (i := 2) hsz hK.fsb hM (by decide)
  have hb1 : argN s 0 < 115792089237316195423570985008687907853269984665640564039457584007913129639936 := argN_lt hM.sb
  have hb2 : argN s 2 < 115792089237316195423570985008687907853269984665640564039457584007913129639936 := argN_lt hM.sb
  simp only [List.mem_cons, List.not_mem_nil, or_false] at ho
  have hr : reachN s o = endN (argN s 0) (argN s 2) := by
    unfold reachN
    repeat (first | rw [if_pos (by omega)] | rw [if_neg (by omega)])
  rw [hr] at h
  clear hr
  have hre := fun S => mReachN (S := S) hb1 hb2 h
  generalize argN s 0 = a at *
  generalize argN s 2 = b at *
  rcases ho with rfl | rfl | rfl
  all_goals (
    refine CallG.start (C := mkC Hvaf.prog) cok (args := [ptr cb 0, ptr cb 1803, .int .u8 ((_ : Nat) : Int)]) Hvaf.func277 rfl Hvaf.ntmps277 (by simp) (by kernel_rfl) ?_
    repeat (first | refine SeqS.go cok ?_ | refine CondS.t rfl ?_ | refine CondS.f rfl ?_)
    refine CallG.sameL [] ha ?_
    skip
    refine CallG.sameL [] hb ?_
    skip
    refine (hre _).mono ?_
    rintro r _ - ⟨rfl, rfl⟩
    repeat (first | refine SeqS.go cok ?_)
    exact Fin.same ⟨rfl, _, rfl⟩)
/-- mach.Machine.reaches, [60] -/
theorem mRsCY {I : Ent → Prop} {G : List Ent} {cb sz pc gas o : Nat} {T : TypeId} {c : Nat → Value} {K : YK} {s : List Nat} (hsz : 2435 ≤ sz) (hK : MK I cb c K) (hM : MV c pc gas s) (ho : o ∈ [60]) (h : reachN s o ≤ 717280) :
    CallG Hvaf.prog 277 #[ptr cb 0, ptr cb 1803, .int .u8 (o : Nat)] ⟨I, ⟨cb, sz, T, c⟩ :: G⟩ fun r S' => ⟨I, ⟨cb, sz, T, c⟩ :: G⟩ = S' ∧ r = .tuple #[.int .u64 (((reachN s o + 31) / 32 : Nat) : Int), .bool true] := by
  have ha := mArg (I := I) (G := G) (cb := cb) (T := T) (i := 1) hsz hK.fsb hM (by decide)
  have hb := mArg (I := I) (G := G) (cb := cb) (T := T) (i := 3) hsz hK.fsb hM (by decide)
  have hb1 : argN s 1 < 115792089237316195423570985008687907853269984665640564039457584007913129639936 := argN_lt hM.sb
  have hb2 : argN s 3 < 115792089237316195423570985008687907853269984665640564039457584007913129639936 := argN_lt hM.sb
  simp only [List.mem_cons, List.not_mem_nil, or_false] at ho
  have hr : reachN s o = endN (argN s 1) (argN s 3) := by
    unfold reachN
    repeat (first | rw [if_pos (by omega)] | rw [if_neg (by omega)])
  rw [hr] at h ⊢
  clear hr
  have hre := fun S => mReachY (S := S) hb1 hb2 h
  generalize (endN (argN s 1) (argN s 3) + 31) / 32 = res at *
  generalize argN s 1 = a at *
  generalize argN s 3 = b at *
  rcases ho with rfl
  all_goals (
    refine CallG.start (C := mkC Hvaf.prog) cok (args := [ptr cb 0, ptr cb 1803, .int .u8 ((_ : Nat) : Int)]) Hvaf.func277 rfl Hvaf.ntmps277 (by simp) (by kernel_rfl) ?_
    repeat (first | refine SeqS.go cok ?_ | refine CondS.t rfl ?_ | refine CondS.f rfl ?_)
    refine CallG.sameL [] ha ?_
    skip
    refine CallG.sameL [] hb ?_
    skip
    refine (hre _).mono ?_
    rintro r _ - ⟨rfl, rfl⟩
    repeat (first | refine SeqS.go cok ?_)
    exact Fin.same ⟨rfl, rfl⟩)
/-- mach.Machine.reaches, [60] -/
theorem mRsCN {I : Ent → Prop} {G : List Ent} {cb sz pc gas o : Nat} {T : TypeId} {c : Nat → Value} {K : YK} {s : List Nat} (hsz : 2435 ≤ sz) (hK : MK I cb c K) (hM : MV c pc gas s) (ho : o ∈ [60]) (h : 717280 < reachN s o) :
    CallG Hvaf.prog 277 #[ptr cb 0, ptr cb 1803, .int .u8 (o : Nat)] ⟨I, ⟨cb, sz, T, c⟩ :: G⟩ fun r S' => ⟨I, ⟨cb, sz, T, c⟩ :: G⟩ = S' ∧ ∃ v, r = .tuple #[v, .bool false] := by
  have ha := mArg (I := I) (G := G) (cb := cb) (T := T) (i := 1) hsz hK.fsb hM (by decide)
  have hb := mArg (I := I) (G := G) (cb := cb) (T := T) (i := 3) hsz hK.fsb hM (by decide)
  have hb1 : argN s 1 < 115792089237316195423570985008687907853269984665640564039457584007913129639936 := argN_lt hM.sb
  have hb2 : argN s 3 < 115792089237316195423570985008687907853269984665640564039457584007913129639936 := argN_lt hM.sb
  simp only [List.mem_cons, List.not_mem_nil, or_false] at ho
  have hr : reachN s o = endN (argN s 1) (argN s 3) := by
    unfold reachN
    repeat (first | rw [if_pos (by omega)] | rw [if_neg (by omega)])
  rw [hr] at h
  clear hr
  have hre := fun S => mReachN (S := S) hb1 hb2 h
  generalize argN s 1 = a at *
  generalize argN s 3 = b at *
  rcases ho with rfl
  all_goals (
    refine CallG.start (C := mkC Hvaf.prog) cok (args := [ptr cb 0, ptr cb 1803, .int .u8 ((_ : Nat) : Int)]) Hvaf.func277 rfl Hvaf.ntmps277 (by simp) (by kernel_rfl) ?_
    repeat (first | refine SeqS.go cok ?_ | refine CondS.t rfl ?_ | refine CondS.f rfl ?_)
    refine CallG.sameL [] ha ?_
    skip
    refine CallG.sameL [] hb ?_
    skip
    refine (hre _).mono ?_
    rintro r _ - ⟨rfl, rfl⟩
    repeat (first | refine SeqS.go cok ?_)
    exact Fin.same ⟨rfl, _, rfl⟩)
/-- mach.Machine.reaches, [81, 82] -/
theorem mRsDY {I : Ent → Prop} {G : List Ent} {cb sz pc gas o : Nat} {T : TypeId} {c : Nat → Value} {K : YK} {s : List Nat} (hsz : 2435 ≤ sz) (hK : MK I cb c K) (hM : MV c pc gas s) (ho : o ∈ [81, 82]) (h : reachN s o ≤ 717280) :
    CallG Hvaf.prog 277 #[ptr cb 0, ptr cb 1803, .int .u8 (o : Nat)] ⟨I, ⟨cb, sz, T, c⟩ :: G⟩ fun r S' => ⟨I, ⟨cb, sz, T, c⟩ :: G⟩ = S' ∧ r = .tuple #[.int .u64 (((reachN s o + 31) / 32 : Nat) : Int), .bool true] := by
  have ha := mArg (I := I) (G := G) (cb := cb) (T := T) (i := 0) hsz hK.fsb hM (by decide)
  have hb1 : argN s 0 < 115792089237316195423570985008687907853269984665640564039457584007913129639936 := argN_lt hM.sb
  have hb2 : (32 : Nat) < 115792089237316195423570985008687907853269984665640564039457584007913129639936 := by decide
  simp only [List.mem_cons, List.not_mem_nil, or_false] at ho
  have hr : reachN s o = endN (argN s 0) 32 := by
    unfold reachN
    repeat (first | rw [if_pos (by omega)] | rw [if_neg (by omega)])
  rw [hr] at h ⊢
  clear hr
  have hre := fun S => mReachY (S := S) hb1 hb2 h
  rw [← smallW (show 32 < 18446744073709551616 by decide)] at hre
  generalize (endN (argN s 0) 32 + 31) / 32 = res at *
  generalize argN s 0 = a at *
  rcases ho with rfl | rfl
  all_goals (
    refine CallG.start (C := mkC Hvaf.prog) cok (args := [ptr cb 0, ptr cb 1803, .int .u8 ((_ : Nat) : Int)]) Hvaf.func277 rfl Hvaf.ntmps277 (by simp) (by kernel_rfl) ?_
    repeat (first | refine SeqS.go cok ?_ | refine CondS.t rfl ?_ | refine CondS.f rfl ?_)
    refine CallG.sameL [] ha ?_
    repeat (first | refine And.intro (fillOk_of (Eq.refl true)) ?_)
    refine (hre _).mono ?_
    rintro r _ - ⟨rfl, rfl⟩
    repeat (first | refine SeqS.go cok ?_)
    exact Fin.same ⟨rfl, rfl⟩)
/-- mach.Machine.reaches, [81, 82] -/
theorem mRsDN {I : Ent → Prop} {G : List Ent} {cb sz pc gas o : Nat} {T : TypeId} {c : Nat → Value} {K : YK} {s : List Nat} (hsz : 2435 ≤ sz) (hK : MK I cb c K) (hM : MV c pc gas s) (ho : o ∈ [81, 82]) (h : 717280 < reachN s o) :
    CallG Hvaf.prog 277 #[ptr cb 0, ptr cb 1803, .int .u8 (o : Nat)] ⟨I, ⟨cb, sz, T, c⟩ :: G⟩ fun r S' => ⟨I, ⟨cb, sz, T, c⟩ :: G⟩ = S' ∧ ∃ v, r = .tuple #[v, .bool false] := by
  have ha := mArg (I := I) (G := G) (cb := cb) (T := T) (i := 0) hsz hK.fsb hM (by decide)
  have hb1 : argN s 0 < 115792089237316195423570985008687907853269984665640564039457584007913129639936 := argN_lt hM.sb
  have hb2 : (32 : Nat) < 115792089237316195423570985008687907853269984665640564039457584007913129639936 := by decide
  simp only [List.mem_cons, List.not_mem_nil, or_false] at ho
  have hr : reachN s o = endN (argN s 0) 32 := by
    unfold reachN
    repeat (first | rw [if_pos (by omega)] | rw [if_neg (by omega)])
  rw [hr] at h
  clear hr
  have hre := fun S => mReachN (S := S) hb1 hb2 h
  rw [← smallW (show 32 < 18446744073709551616 by decide)] at hre
  generalize argN s 0 = a at *
  rcases ho with rfl | rfl
  all_goals (
    refine CallG.start (C := mkC Hvaf.prog) cok (args := [ptr cb 0, ptr cb 1803, .int .u8 ((_ : Nat) : Int)]) Hvaf.func277 rfl Hvaf.ntmps277 (by simp) (by kernel_rfl) ?_
    repeat (first | refine SeqS.go cok ?_ | refine CondS.t rfl ?_ | refine CondS.f rfl ?_)
    refine CallG.sameL [] ha ?_
    repeat (first | refine And.intro (fillOk_of (Eq.refl true)) ?_)
    refine (hre _).mono ?_
    rintro r _ - ⟨rfl, rfl⟩
    repeat (first | refine SeqS.go cok ?_)
    exact Fin.same ⟨rfl, _, rfl⟩)
/-- mach.Machine.reaches, [83] -/
theorem mRsEY {I : Ent → Prop} {G : List Ent} {cb sz pc gas o : Nat} {T : TypeId} {c : Nat → Value} {K : YK} {s : List Nat} (hsz : 2435 ≤ sz) (hK : MK I cb c K) (hM : MV c pc gas s) (ho : o ∈ [83]) (h : reachN s o ≤ 717280) :
    CallG Hvaf.prog 277 #[ptr cb 0, ptr cb 1803, .int .u8 (o : Nat)] ⟨I, ⟨cb, sz, T, c⟩ :: G⟩ fun r S' => ⟨I, ⟨cb, sz, T, c⟩ :: G⟩ = S' ∧ r = .tuple #[.int .u64 (((reachN s o + 31) / 32 : Nat) : Int), .bool true] := by
  have ha := mArg (I := I) (G := G) (cb := cb) (T := T) (i := 0) hsz hK.fsb hM (by decide)
  have hb1 : argN s 0 < 115792089237316195423570985008687907853269984665640564039457584007913129639936 := argN_lt hM.sb
  have hb2 : (1 : Nat) < 115792089237316195423570985008687907853269984665640564039457584007913129639936 := by decide
  simp only [List.mem_cons, List.not_mem_nil, or_false] at ho
  have hr : reachN s o = endN (argN s 0) 1 := by
    unfold reachN
    repeat (first | rw [if_pos (by omega)] | rw [if_neg (by omega)])
  rw [hr] at h ⊢
  clear hr
  have hre := fun S => mReachY (S := S) hb1 hb2 h
  rw [← smallW (show 1 < 18446744073709551616 by decide)] at hre
  generalize (endN (argN s 0) 1 + 31) / 32 = res at *
  generalize argN s 0 = a at *
  rcases ho with rfl
  all_goals (
    refine CallG.start (C := mkC Hvaf.prog) cok (args := [ptr cb 0, ptr cb 1803, .int .u8 ((_ : Nat) : Int)]) Hvaf.func277 rfl Hvaf.ntmps277 (by simp) (by kernel_rfl) ?_
    repeat (first | refine SeqS.go cok ?_ | refine CondS.t rfl ?_ | refine CondS.f rfl ?_)
    refine CallG.sameL [] ha ?_
    repeat (first | refine And.intro (fillOk_of (Eq.refl true)) ?_)
    refine (hre _).mono ?_
    rintro r _ - ⟨rfl, rfl⟩
    repeat (first | refine SeqS.go cok ?_)
    exact Fin.same ⟨rfl, rfl⟩)
/-- mach.Machine.reaches, [83] -/
theorem mRsEN {I : Ent → Prop} {G : List Ent} {cb sz pc gas o : Nat} {T : TypeId} {c : Nat → Value} {K : YK} {s : List Nat} (hsz : 2435 ≤ sz) (hK : MK I cb c K) (hM : MV c pc gas s) (ho : o ∈ [83]) (h : 717280 < reachN s o) :
    CallG Hvaf.prog 277 #[ptr cb 0, ptr cb 1803, .int .u8 (o : Nat)] ⟨I, ⟨cb, sz, T, c⟩ :: G⟩ fun r S' => ⟨I, ⟨cb, sz, T, c⟩ :: G⟩ = S' ∧ ∃ v, r = .tuple #[v, .bool false] := by
  have ha := mArg (I := I) (G := G) (cb := cb) (T := T) (i := 0) hsz hK.fsb hM (by decide)
  have hb1 : argN s 0 < 115792089237316195423570985008687907853269984665640564039457584007913129639936 := argN_lt hM.sb
  have hb2 : (1 : Nat) < 115792089237316195423570985008687907853269984665640564039457584007913129639936 := by decide
  simp only [List.mem_cons, List.not_mem_nil, or_false] at ho
  have hr : reachN s o = endN (argN s 0) 1 := by
    unfold reachN
    repeat (first | rw [if_pos (by omega)] | rw [if_neg (by omega)])
  rw [hr] at h
  clear hr
  have hre := fun S => mReachN (S := S) hb1 hb2 h
  rw [← smallW (show 1 < 18446744073709551616 by decide)] at hre
  generalize argN s 0 = a at *
  rcases ho with rfl
  all_goals (
    refine CallG.start (C := mkC Hvaf.prog) cok (args := [ptr cb 0, ptr cb 1803, .int .u8 ((_ : Nat) : Int)]) Hvaf.func277 rfl Hvaf.ntmps277 (by simp) (by kernel_rfl) ?_
    repeat (first | refine SeqS.go cok ?_ | refine CondS.t rfl ?_ | refine CondS.f rfl ?_)
    refine CallG.sameL [] ha ?_
    repeat (first | refine And.intro (fillOk_of (Eq.refl true)) ?_)
    refine (hre _).mono ?_
    rintro r _ - ⟨rfl, rfl⟩
    repeat (first | refine SeqS.go cok ?_)
    exact Fin.same ⟨rfl, _, rfl⟩)
/-- mach.Machine.reaches, 94 -/
theorem mRsFY {I : Ent → Prop} {G : List Ent} {cb sz pc gas o : Nat} {T : TypeId} {c : Nat → Value} {K : YK} {s : List Nat} (hsz : 2435 ≤ sz) (hK : MK I cb c K) (hM : MV c pc gas s) (ho : o = 94) (h : reachN s o ≤ 717280) :
    CallG Hvaf.prog 277 #[ptr cb 0, ptr cb 1803, .int .u8 (o : Nat)] ⟨I, ⟨cb, sz, T, c⟩ :: G⟩ fun r S' => ⟨I, ⟨cb, sz, T, c⟩ :: G⟩ = S' ∧ r = .tuple #[.int .u64 (((reachN s o + 31) / 32 : Nat) : Int), .bool true] := by
  have ha := mArg (I := I) (G := G) (cb := cb) (T := T) (i := 0) hsz hK.fsb hM (by decide)
  have hb := mArg (I := I) (G := G) (cb := cb) (T := T) (i := 1) hsz hK.fsb hM (by decide)
  have hd := mArg (I := I) (G := G) (cb := cb) (T := T) (i := 2) hsz hK.fsb hM (by decide)
  have hb1 : argN s 0 < 115792089237316195423570985008687907853269984665640564039457584007913129639936 := argN_lt hM.sb
  have hb2 : argN s 1 < 115792089237316195423570985008687907853269984665640564039457584007913129639936 := argN_lt hM.sb
  have hb3 : argN s 2 < 115792089237316195423570985008687907853269984665640564039457584007913129639936 := argN_lt hM.sb
  subst ho
  have hr : reachN s 94 = max (endN (argN s 0) (argN s 2)) (endN (argN s 1) (argN s 2)) := rfl
  rw [hr] at h ⊢
  clear hr
  have hre := fun S => mReach2Y (S := S) hb1 hb3 hb2 hb3 (by omega) (by omega)
  generalize (max (endN (argN s 0) (argN s 2)) (endN (argN s 1) (argN s 2)) + 31) / 32 = res at *
  generalize argN s 0 = a at *
  generalize argN s 1 = b at *
  generalize argN s 2 = d at *
  refine CallG.start (C := mkC Hvaf.prog) cok (args := [ptr cb 0, ptr cb 1803, .int .u8 ((94 : Nat) : Int)]) Hvaf.func277 rfl Hvaf.ntmps277 (by simp) (by kernel_rfl) ?_
  repeat (first | refine SeqS.go cok ?_ | refine CondS.t rfl ?_ | refine CondS.f rfl ?_)
  refine CallG.sameL [] ha ?_
  skip
  refine CallG.sameL [] hd ?_
  skip
  refine CallG.sameL [] hb ?_
  skip
  refine CallG.sameL [] hd ?_
  skip
  refine (hre _).mono ?_
  rintro r _ - ⟨rfl, rfl⟩
  repeat (first | refine SeqS.go cok ?_)
  exact Fin.same ⟨rfl, rfl⟩
/-- mach.Machine.reaches, 94 -/
theorem mRsFN {I : Ent → Prop} {G : List Ent} {cb sz pc gas o : Nat} {T : TypeId} {c : Nat → Value} {K : YK} {s : List Nat} (hsz : 2435 ≤ sz) (hK : MK I cb c K) (hM : MV c pc gas s) (ho : o = 94) (h : 717280 < reachN s o) :
    CallG Hvaf.prog 277 #[ptr cb 0, ptr cb 1803, .int .u8 (o : Nat)] ⟨I, ⟨cb, sz, T, c⟩ :: G⟩ fun r S' => ⟨I, ⟨cb, sz, T, c⟩ :: G⟩ = S' ∧ ∃ v, r = .tuple #[v, .bool false] := by
  have ha := mArg (I := I) (G := G) (cb := cb) (T := T) (i := 0) hsz hK.fsb hM (by decide)
  have hb := mArg (I := I) (G := G) (cb := cb) (T := T) (i := 1) hsz hK.fsb hM (by decide)
  have hd := mArg (I := I) (G := G) (cb := cb) (T := T) (i := 2) hsz hK.fsb hM (by decide)
  have hb1 : argN s 0 < 115792089237316195423570985008687907853269984665640564039457584007913129639936 := argN_lt hM.sb
  have hb2 : argN s 1 < 115792089237316195423570985008687907853269984665640564039457584007913129639936 := argN_lt hM.sb
  have hb3 : argN s 2 < 115792089237316195423570985008687907853269984665640564039457584007913129639936 := argN_lt hM.sb
  subst ho
  have hr : reachN s 94 = max (endN (argN s 0) (argN s 2)) (endN (argN s 1) (argN s 2)) := rfl
  rw [hr] at h
  clear hr
  have hre := fun S => mReach2N (S := S) hb1 hb3 hb2 hb3 (by omega)
  generalize argN s 0 = a at *
  generalize argN s 1 = b at *
  generalize argN s 2 = d at *
  refine CallG.start (C := mkC Hvaf.prog) cok (args := [ptr cb 0, ptr cb 1803, .int .u8 ((94 : Nat) : Int)]) Hvaf.func277 rfl Hvaf.ntmps277 (by simp) (by kernel_rfl) ?_
  repeat (first | refine SeqS.go cok ?_ | refine CondS.t rfl ?_ | refine CondS.f rfl ?_)
  refine CallG.sameL [] ha ?_
  skip
  refine CallG.sameL [] hd ?_
  skip
  refine CallG.sameL [] hb ?_
  skip
  refine CallG.sameL [] hd ?_
  skip
  refine (hre _).mono ?_
  rintro r _ - ⟨rfl, v, rfl⟩
  repeat (first | refine SeqS.go cok ?_)
  exact Fin.same ⟨rfl, _, rfl⟩
/-- mach.Machine.reaches, the rest -/
theorem mRsZ {I : Ent → Prop} {G : List Ent} {cb sz pc gas o : Nat} {T : TypeId} {c : Nat → Value} {K : YK} {s : List Nat} (hsz : 2435 ≤ sz) (hK : MK I cb c K) (hM : MV c pc gas s) (ho : o ∈ [10, 48, 49, 50, 51, 52, 53, 54, 56, 58, 59, 61, 63, 64, 65, 66, 67, 68, 69, 70, 71, 72, 80, 84, 85, 86, 87, 92, 93]) :
    CallG Hvaf.prog 277 #[ptr cb 0, ptr cb 1803, .int .u8 (o : Nat)] ⟨I, ⟨cb, sz, T, c⟩ :: G⟩ fun r S' => ⟨I, ⟨cb, sz, T, c⟩ :: G⟩ = S' ∧ r = .tuple #[.int .u64 ((0 : Nat) : Int), .bool true] := by
  simp only [List.mem_cons, List.not_mem_nil, or_false] at ho
  rcases ho with rfl | rfl | rfl | rfl | rfl | rfl | rfl | rfl | rfl | rfl | rfl | rfl | rfl | rfl | rfl | rfl | rfl | rfl | rfl | rfl | rfl | rfl | rfl | rfl | rfl | rfl | rfl | rfl | rfl
  all_goals (
    refine CallG.start (C := mkC Hvaf.prog) cok (args := [ptr cb 0, ptr cb 1803, .int .u8 ((_ : Nat) : Int)]) Hvaf.func277 rfl Hvaf.ntmps277 (by simp) (by kernel_rfl) ?_
    repeat (first | refine SeqS.go cok ?_ | refine CondS.f rfl ?_)
    exact Fin.same ⟨rfl, rfl⟩)
theorem reach_Z {s : List Nat} {o : Nat} (ho : o ∈ [10, 48, 49, 50, 51, 52, 53, 54, 56, 58, 59, 61, 63, 64, 65, 66, 67, 68, 69, 70, 71, 72, 80, 84, 85, 86, 87, 92, 93]) : reachN s o = 0 := by
  simp only [List.mem_cons, List.not_mem_nil, or_false] at ho
  unfold reachN
  rw [if_neg (by omega), if_neg (by omega), if_neg (by omega), if_neg (by omega), if_neg (by omega), if_neg (by omega)]
end Go.Proofs.YgvafwGreat
