import Derived.Test.YgvafwGreatY34
set_option maxRecDepth 100000
set_option maxHeartbeats 4000000
set_option linter.unusedVariables false
set_option linter.unusedSimpArgs false
-- v2
-- v4
-- v5
-- v6
-- v7
namespace Go.Proofs.YgvafwGreat
open Go.HL Go.Proofs

/-- The greatest end of the ranges of memory that an instruction touches. -/
def reachN (s : List Nat) (o : Nat) : Nat :=
  if o = 32 ∨ o = 243 ∨ o = 253 ∨ 160 ≤ o ∧ o ≤ 164 then endN (argN s 0) (argN s 1)
  else if o = 55 ∨ o = 57 ∨ o = 62 then endN (argN s 0) (argN s 2)
  else if o = 60 then endN (argN s 1) (argN s 3)
  else if o = 81 ∨ o = 82 then endN (argN s 0) 32
  else if o = 83 then endN (argN s 0) 1
  else if o = 94 then max (endN (argN s 0) (argN s 2)) (endN (argN s 1) (argN s 2))
  else 0
theorem NB_sum {a b : Nat} (h : a < 2 ^ 256) (h' : b < 2 ^ 256) : a + b < NB := by
  refine NB_big ?_
  have e : (2 : Nat) ^ 256 = 115792089237316195423570985008687907853269984665640564039457584007913129639936 := by decide
  rw [e] at h h'
  omega
theorem yReachA {I : Ent → Prop} {G : List Ent} {fb fsz pc gas o : Nat} {T : TypeId} {c : Nat → Value} {K : YK} {stk : List Nat} (hfz : 60 ≤ fsz) (hF : YF I c K pc gas stk) (ho : o ∈ [32, 243, 253, 160, 161, 162, 163, 164]) :
    CallG Hvaf.prog 71 #[ptr fb 0, .int .u8 (o : Nat)] ⟨I, ⟨fb, fsz, T, c⟩ :: G⟩ fun r S' => S'.G = ⟨fb, fsz, T, c⟩ :: G ∧ NatI S'.I r (reachN stk o) := by
  have a0 := yArgF (G := G) (fb := fb) (T := T) (i := 0) hfz hF (by decide)
  have a1 := yArgF (G := G) (fb := fb) (T := T) (i := 1) hfz hF (by decide)
  have hb : argN stk 0 + argN stk 1 < NB := NB_sum (argN_lt hF.fb) (argN_lt hF.fb)
  have hr : reachN stk o = endN (argN stk 0) (argN stk 1) := by
    simp only [List.mem_cons, List.not_mem_nil, or_false] at ho
    unfold reachN
    repeat (first | rw [if_pos (by omega)])
  rw [hr]
  clear hr
  simp only [List.mem_cons, List.not_mem_nil, or_false] at ho
  rcases ho with rfl | rfl | rfl | rfl | rfl | rfl | rfl | rfl
  all_goals (
    refine CallG.start (C := mkC Hvaf.prog) cok (args := [ptr fb 0, .int .u8 ((_ : Nat) : Int)]) Hvaf.func71 rfl Hvaf.ntmps71 (by simp) (by kernel_rfl) ?_
    repeat (first | refine SeqS.go cok ?_ | refine GuardS.yes rfl ?_ | refine CondS.t rfl ?_ | refine CondS.f rfl ?_)
    refine a0.mono ?_
    rintro u0 _ - ⟨rfl, hu0⟩
    skip
    refine a1.mono ?_
    rintro u1 _ - ⟨rfl, hu1⟩
    skip
    refine callN (yEnd hu0 hu1 hb) fun w J hs hw => ?_
    repeat (first | refine SeqS.go cok ?_)
    exact Fin.same ⟨rfl, hw⟩)
theorem yReachB {I : Ent → Prop} {G : List Ent} {fb fsz pc gas o : Nat} {T : TypeId} {c : Nat → Value} {K : YK} {stk : List Nat} (hfz : 60 ≤ fsz) (hF : YF I c K pc gas stk) (ho : o ∈ [55, 57, 62]) :
    CallG Hvaf.prog 71 #[ptr fb 0, .int .u8 (o : Nat)] ⟨I, ⟨fb, fsz, T, c⟩ :: G⟩ fun r S' => S'.G = ⟨fb, fsz, T, c⟩ :: G ∧ NatI S'.I r (reachN stk o) := by
  have a0 := yArgF (G := G) (fb := fb) (T := T) (i := 0) hfz hF (by decide)
  have a1 := yArgF (G := G) (fb := fb) (T := T) (i := 2) hfz hF (by decide)
  have hb : argN stk 0 + argN stk 2 < NB := NB_sum (argN_lt hF.fb) (argN_lt hF.fb)
  have hr : reachN stk o = endN (argN stk 0) (argN stk 2) := by
    simp only [List.mem_cons, List.not_mem_nil, or_false] at ho
    unfold reachN
    repeat (first | rw [if_pos (by omega)] | rw [if_neg (by omega)])
  rw [hr]
  clear hr
  simp only [List.mem_cons, List.not_mem_nil, or_false] at ho
  rcases ho with rfl | rfl | rfl
  all_goals (
    refine CallG.start (C := mkC Hvaf.prog) cok (args := [ptr fb 0, .int .u8 ((_ : Nat) : Int)]) Hvaf.func71 rfl Hvaf.ntmps71 (by simp) (by kernel_rfl) ?_
    repeat (first | refine SeqS.go cok ?_ | refine GuardS.no rfl ?_ | refine CondS.t rfl ?_ | refine CondS.f rfl ?_)
    refine a0.mono ?_
    rintro u0 _ - ⟨rfl, hu0⟩
    skip
    refine a1.mono ?_
    rintro u1 _ - ⟨rfl, hu1⟩
    skip
    refine callN (yEnd hu0 hu1 hb) fun w J hs hw => ?_
    repeat (first | refine SeqS.go cok ?_)
    exact Fin.same ⟨rfl, hw⟩)
theorem yReachC {I : Ent → Prop} {G : List Ent} {fb fsz pc gas o : Nat} {T : TypeId} {c : Nat → Value} {K : YK} {stk : List Nat} (hfz : 60 ≤ fsz) (hF : YF I c K pc gas stk) (ho : o ∈ [60]) :
    CallG Hvaf.prog 71 #[ptr fb 0, .int .u8 (o : Nat)] ⟨I, ⟨fb, fsz, T, c⟩ :: G⟩ fun r S' => S'.G = ⟨fb, fsz, T, c⟩ :: G ∧ NatI S'.I r (reachN stk o) := by
  have a0 := yArgF (G := G) (fb := fb) (T := T) (i := 1) hfz hF (by decide)
  have a1 := yArgF (G := G) (fb := fb) (T := T) (i := 3) hfz hF (by decide)
  have hb : argN stk 1 + argN stk 3 < NB := NB_sum (argN_lt hF.fb) (argN_lt hF.fb)
  have hr : reachN stk o = endN (argN stk 1) (argN stk 3) := by
    simp only [List.mem_cons, List.not_mem_nil, or_false] at ho
    unfold reachN
    repeat (first | rw [if_pos (by omega)] | rw [if_neg (by omega)])
  rw [hr]
  clear hr
  simp only [List.mem_cons, List.not_mem_nil, or_false] at ho
  rcases ho with rfl
  all_goals (
    refine CallG.start (C := mkC Hvaf.prog) cok (args := [ptr fb 0, .int .u8 ((_ : Nat) : Int)]) Hvaf.func71 rfl Hvaf.ntmps71 (by simp) (by kernel_rfl) ?_
    repeat (first | refine SeqS.go cok ?_ | refine GuardS.no rfl ?_ | refine CondS.t rfl ?_ | refine CondS.f rfl ?_)
    refine a0.mono ?_
    rintro u0 _ - ⟨rfl, hu0⟩
    skip
    refine a1.mono ?_
    rintro u1 _ - ⟨rfl, hu1⟩
    skip
    refine callN (yEnd hu0 hu1 hb) fun w J hs hw => ?_
    repeat (first | refine SeqS.go cok ?_)
    exact Fin.same ⟨rfl, hw⟩)
theorem yReachD {I : Ent → Prop} {G : List Ent} {fb fsz pc gas o : Nat} {T : TypeId} {c : Nat → Value} {K : YK} {stk : List Nat} (hfz : 60 ≤ fsz) (hF : YF I c K pc gas stk) (ho : o ∈ [81, 82]) :
    CallG Hvaf.prog 71 #[ptr fb 0, .int .u8 (o : Nat)] ⟨I, ⟨fb, fsz, T, c⟩ :: G⟩ fun r S' => S'.G = ⟨fb, fsz, T, c⟩ :: G ∧ NatI S'.I r (reachN stk o) := by
  have a0 := yArgF (G := G) (fb := fb) (T := T) (i := 0) hfz hF (by decide)
  have hb : argN stk 0 + 32 < NB := NB_sum (argN_lt hF.fb) (Nat.lt_of_lt_of_le (by decide : 32 < 2 ^ 8) (Nat.pow_le_pow_right (by decide) (by decide)))
  have hr : reachN stk o = endN (argN stk 0) 32 := by
    simp only [List.mem_cons, List.not_mem_nil, or_false] at ho
    unfold reachN
    repeat (first | rw [if_pos (by omega)] | rw [if_neg (by omega)])
  rw [hr]
  clear hr
  simp only [List.mem_cons, List.not_mem_nil, or_false] at ho
  rcases ho with rfl | rfl
  all_goals (
    refine CallG.start (C := mkC Hvaf.prog) cok (args := [ptr fb 0, .int .u8 ((_ : Nat) : Int)]) Hvaf.func71 rfl Hvaf.ntmps71 (by simp) (by kernel_rfl) ?_
    repeat (first | refine SeqS.go cok ?_ | refine GuardS.no rfl ?_ | refine CondS.t rfl ?_ | refine CondS.f rfl ?_)
    refine a0.mono ?_
    rintro u0 _ - ⟨rfl, hu0⟩
    skip
    refine callN (yNum (n := 32) (by decide)) fun w1 J1 hs1 hw1 => ?_
    skip
    refine callN (yEnd (hu0.up hs1) hw1 hb) fun w J hs hw => ?_
    repeat (first | refine SeqS.go cok ?_)
    exact Fin.same ⟨rfl, hw⟩)
theorem yReachE {I : Ent → Prop} {G : List Ent} {fb fsz pc gas o : Nat} {T : TypeId} {c : Nat → Value} {K : YK} {stk : List Nat} (hfz : 60 ≤ fsz) (hF : YF I c K pc gas stk) (ho : o ∈ [83]) :
    CallG Hvaf.prog 71 #[ptr fb 0, .int .u8 (o : Nat)] ⟨I, ⟨fb, fsz, T, c⟩ :: G⟩ fun r S' => S'.G = ⟨fb, fsz, T, c⟩ :: G ∧ NatI S'.I r (reachN stk o) := by
  have a0 := yArgF (G := G) (fb := fb) (T := T) (i := 0) hfz hF (by decide)
  have hb : argN stk 0 + 1 < NB := NB_sum (argN_lt hF.fb) (Nat.lt_of_lt_of_le (by decide : 1 < 2 ^ 8) (Nat.pow_le_pow_right (by decide) (by decide)))
  have hr : reachN stk o = endN (argN stk 0) 1 := by
    simp only [List.mem_cons, List.not_mem_nil, or_false] at ho
    unfold reachN
    repeat (first | rw [if_pos (by omega)] | rw [if_neg (by omega)])
  rw [hr]
  clear hr
  simp only [List.mem_cons, List.not_mem_nil, or_false] at ho
  rcases ho with rfl
  all_goals (
    refine CallG.start (C := mkC Hvaf.prog) cok (args := [ptr fb 0, .int .u8 ((_ : Nat) : Int)]) Hvaf.func71 rfl Hvaf.ntmps71 (by simp) (by kernel_rfl) ?_
    repeat (first | refine SeqS.go cok ?_ | refine GuardS.no rfl ?_ | refine CondS.t rfl ?_ | refine CondS.f rfl ?_)
    refine a0.mono ?_
    rintro u0 _ - ⟨rfl, hu0⟩
    skip
    refine callN (yNum (n := 1) (by decide)) fun w1 J1 hs1 hw1 => ?_
    skip
    refine callN (yEnd (hu0.up hs1) hw1 hb) fun w J hs hw => ?_
    repeat (first | refine SeqS.go cok ?_)
    exact Fin.same ⟨rfl, hw⟩)
theorem yReachF {I : Ent → Prop} {G : List Ent} {fb fsz pc gas : Nat} {T : TypeId} {c : Nat → Value} {K : YK} {stk : List Nat} (hfz : 60 ≤ fsz) (hF : YF I c K pc gas stk) :
    CallG Hvaf.prog 71 #[ptr fb 0, .int .u8 (94 : Nat)] ⟨I, ⟨fb, fsz, T, c⟩ :: G⟩ fun r S' => S'.G = ⟨fb, fsz, T, c⟩ :: G ∧ NatI S'.I r (reachN stk 94) := by
  have a0 := fun (I) (hF : YF I c K pc gas stk) => yArgF (I := I) (G := G) (fb := fb) (T := T) (i := 0) hfz hF (by decide)
  have a1 := fun (I) (hF : YF I c K pc gas stk) => yArgF (I := I) (G := G) (fb := fb) (T := T) (i := 1) hfz hF (by decide)
  have a2 := fun (I) (hF : YF I c K pc gas stk) => yArgF (I := I) (G := G) (fb := fb) (T := T) (i := 2) hfz hF (by decide)
  have hb : argN stk 0 + argN stk 2 < NB := NB_sum (argN_lt hF.fb) (argN_lt hF.fb)
  have hb' : argN stk 1 + argN stk 2 < NB := NB_sum (argN_lt hF.fb) (argN_lt hF.fb)
  have hr : reachN stk 94 = max (endN (argN stk 0) (argN stk 2)) (endN (argN stk 1) (argN stk 2)) := rfl
  rw [hr]
  clear hr
  refine CallG.start (C := mkC Hvaf.prog) cok (args := [ptr fb 0, .int .u8 ((94 : Nat) : Int)]) Hvaf.func71 rfl Hvaf.ntmps71 (by simp) (by kernel_rfl) ?_
  repeat (first | refine SeqS.go cok ?_ | refine GuardS.no rfl ?_ | refine CondS.t rfl ?_ | refine CondS.f rfl ?_)
  refine (a0 _ hF).mono ?_
  rintro u0 _ - ⟨rfl, hu0⟩
  skip
  refine (a2 _ hF).mono ?_
  rintro u2 _ - ⟨rfl, hu2⟩
  skip
  refine callN (yEnd hu0 hu2 hb) fun w1 J1 hs1 hw1 => ?_
  skip
  refine (a1 _ (hF.up hs1)).mono ?_
  rintro u1 _ - ⟨rfl, hu1⟩
  skip
  refine (a2 _ (hF.up hs1)).mono ?_
  rintro u3 _ - ⟨rfl, hu3⟩
  skip
  refine callN (yEnd hu1 hu3 hb') fun w2 J2 hs2 hw2 => ?_
  skip
  refine callN (yMax (hw1.up hs2) hw2) fun w3 J3 hs3 hw3 => ?_
  repeat (first | refine SeqS.go cok ?_)
  exact Fin.same ⟨rfl, hw3⟩
theorem yReachZ {I : Ent → Prop} {G : List Ent} {fb fsz o : Nat} {T : TypeId} {c : Nat → Value} {stk : List Nat} (ho : o < 160) (h1 : o ≠ 32) (h2 : o ≠ 55) (h3 : o ≠ 57) (h4 : o ≠ 60) (h5 : o ≠ 62) (h6 : o < 81 ∨ 83 < o) (h7 : o ≠ 94) :
    CallG Hvaf.prog 71 #[ptr fb 0, .int .u8 (o : Nat)] ⟨I, ⟨fb, fsz, T, c⟩ :: G⟩ fun r S' => S'.G = ⟨fb, fsz, T, c⟩ :: G ∧ NatI S'.I r (reachN stk o) := by
  have hr : reachN stk o = 0 := by
    unfold reachN
    repeat (first | rw [if_neg (by omega)])
  rw [hr]
  clear hr
  refine CallG.start (C := mkC Hvaf.prog) cok (args := [ptr fb 0, .int .u8 (o : Nat)]) Hvaf.func71 rfl Hvaf.ntmps71 (by simp) (by kernel_rfl) ?_
  repeat (first | refine SeqS.go cok ?_ | refine GuardS.no rfl ?_ | refine CondS.f rfl ?_ | (refine GuardS.keep ?_; first | refine GuardS.T0 rfl (by omega) ?_) | (refine CondS.keep ?_; first | refine CondS.d0 rfl (by omega) ?_))
  exact Fin.same ⟨rfl, NatI.zero _⟩
/-- yp.Frame.reach, but for calls and creations -/
theorem yReach {I : Ent → Prop} {G : List Ent} {fb fsz pc gas o : Nat} {T : TypeId} {c : Nat → Value} {K : YK} {stk : List Nat} (hfz : 60 ≤ fsz) (hF : YF I c K pc gas stk) (ho : o < 165 ∨ o = 243 ∨ o = 253) :
    CallG Hvaf.prog 71 #[ptr fb 0, .int .u8 (o : Nat)] ⟨I, ⟨fb, fsz, T, c⟩ :: G⟩ fun r S' => S'.G = ⟨fb, fsz, T, c⟩ :: G ∧ NatI S'.I r (reachN stk o) := by
  by_cases hA : o ∈ [32, 243, 253, 160, 161, 162, 163, 164]
  · exact yReachA hfz hF hA
  by_cases hB : o ∈ [55, 57, 62]
  · exact yReachB hfz hF hB
  by_cases hC : o ∈ [60]
  · exact yReachC hfz hF hC
  by_cases hD : o ∈ [81, 82]
  · exact yReachD hfz hF hD
  by_cases hE : o ∈ [83]
  · exact yReachE hfz hF hE
  by_cases hG : o = 94
  · subst hG; exact yReachF hfz hF
  simp only [List.mem_cons, List.not_mem_nil, or_false, not_or] at hA hB hC hD hE
  exact yReachZ (by omega) (by omega) (by omega) (by omega) (by omega) (by omega) (by omega) hG
end Go.Proofs.YgvafwGreat
