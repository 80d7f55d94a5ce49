import Derived.Test.YgvafwGreatE24
import Derived.Test.YgvafwGreatE25
set_option exponentiation.threshold 1000
set_option maxRecDepth 100000
set_option maxHeartbeats 4000000
set_option linter.unusedVariables false
set_option linter.unusedSimpArgs false
-- v2
-- v4
-- v5
-- v6
-- v7
namespace Go.Proofs.YgvafwGreat
open Go.HL Go.Proofs
theorem cut_src2 {ds : List Nat} {m : Nat} (hl : ds.length < 2 ^ 30) (n : Nat) : cutL ds (if n < 18446744073709551616 then n else 18446744073709551615) m = cutL ds n m := by
  by_cases h : n < 18446744073709551616
  · rw [if_pos h]
  · rw [if_neg h, cut_past (by omega), cut_past (by omega)]
/-- mach.Machine.OpCopy, 55, nothing to copy -/
theorem mCp55z {I : Ent → Prop} {G : List Ent} {cb sz pc gas : Nat} {T : TypeId} {c : Nat → Value} {K : YK} {s : List Nat} (hsz : 2435 ≤ sz) (hK : MK I cb c K) (hM : MV c pc gas s) (hpb : pc + 1 < 60000) (ho : K.code.getD pc 0 = 55) (hs3 : 3 ≤ s.length) (hz : argN s 2 = 0) :
    CallG Hvaf.prog 205 #[ptr cb 0] ⟨I, ⟨cb, sz, T, c⟩ :: G⟩ (SetP I G cb sz T c (pc + 1) gas (s.take (s.length - 3))) := by
  have hrn := mRunning (I := I) (G := G) (cb := cb) (T := T) hsz hK
  have hop := mOpcode (I := I) (G := G) (cb := cb) (T := T) hsz hK hM
  rw [ho] at hop
  have ha0 := mArg (I := I) (G := G) (cb := cb) (T := T) (i := 0) hsz hK.fsb hM (by decide)
  have ha1 := mArg (I := I) (G := G) (cb := cb) (T := T) (i := 1) hsz hK.fsb hM (by decide)
  have ha2 := mArg (I := I) (G := G) (cb := cb) (T := T) (i := 2) hsz hK.fsb hM (by decide)
  have hb1 : argN s 1 < 115792089237316195423570985008687907853269984665640564039457584007913129639936 := argN_lt hM.sb
  have hb2 : argN s 2 < 115792089237316195423570985008687907853269984665640564039457584007913129639936 := argN_lt hM.sb
  have hu := fun S => UIsZero_spec (S := S) hb2
  rw [decide_eq_true hz] at hu
  have hse := mSettleN (I := I) (G := G) (cb := cb) (T := T) (t := 3) (step := 1) (ws := [.int .u64 0, .int .u64 0, .int .u64 0, .int .u64 0]) hsz hM hs3 hpb rfl
  have hq1 : ∃ v, c 1856 = v := ⟨_, rfl⟩
  have hq2 : ∃ v, c 1857 = v := ⟨_, rfl⟩
  have hmr := hK.mRet
  obtain ⟨cv, hcv⟩ := hq1
  obtain ⟨iv, hiv⟩ := hq2
  generalize s.take (s.length - 3) = s' at *
  generalize argN s 0 = p at *
  generalize argN s 1 = q at *
  generalize argN s 2 = n at *
  refine CallG.start (C := mkC Hvaf.prog) cok (args := [ptr cb 0]) Hvaf.func205 rfl Hvaf.ntmps205 (by simp) (by kernel_rfl) ?_
  skip
  refine CallG.sameL [] hrn ?_
  repeat (first | refine SeqS.go cok ?_ | refine CondS.f rfl ?_)
  refine CallG.sameL [] ha0 ?_
  intro x1
  repeat (first | refine SeqS.go cok ?_ | (refine OpG.keep ?_; first | refine OpG.sL cok 0 rfl rfl rfl rfl rfl rfl rfl (by first | exact Nat.le_of_ble_eq_true rfl | omega | (dsimp only; omega) | (simp only [addS_eq, mulS_eq]; omega)) ?_))
  refine CallG.sameL [_] ha1 ?_
  intro x2
  repeat (first | refine SeqS.go cok ?_ | (refine OpG.keep ?_; first | refine OpG.sL cok 0 rfl rfl rfl rfl rfl rfl rfl (by first | exact Nat.le_of_ble_eq_true rfl | omega | (dsimp only; omega) | (simp only [addS_eq, mulS_eq]; omega)) ?_))
  refine CallG.sameL [_, _] ha2 ?_
  intro x3
  repeat (first | refine SeqS.go cok ?_ | (refine OpG.keep ?_; first | refine OpG.sL cok 0 rfl rfl rfl rfl rfl rfl rfl (by first | exact Nat.le_of_ble_eq_true rfl | omega | (dsimp only; omega) | (simp only [addS_eq, mulS_eq]; omega)) ?_))
  refine CallG.sameL [_, _, _] hop ?_
  repeat (first | (refine QuG.keep ?_; first | refine QuG.l1E cok 3 rfl rfl rfl rfl rfl (by first | exact Nat.le_of_ble_eq_true rfl | omega | (dsimp only; omega) | (simp only [addS_eq, mulS_eq]; omega)) (by assumption) ?_) | refine SeqS.go cok ?_ | refine CondS.t rfl ?_ | refine CondS.f rfl ?_ | (refine QuG.keep ?_; first | refine QuG.lN cok 0 rfl rfl rfl rfl rfl (by first | exact Nat.le_of_ble_eq_true rfl | omega | (dsimp only; omega) | (simp only [addS_eq, mulS_eq]; omega)) ?_))
  refine (hu _).mono ?_
  rintro r _ - ⟨rfl, rfl⟩
  repeat (first | refine SeqS.go cok ?_ | refine CondS.f rfl ?_ | refine And.intro (fillOk_of (Eq.refl true)) ?_)
  refine CallG.behind [_, _, _] hse ?_
  rintro r J G1 hs ⟨c', hS, h1, h2⟩
  cases hS
  skip
  exact Fin.drop (⟨cb, sz, T, c'⟩ :: G) [_, _, _] ⟨c', rfl, h1, h2⟩
/-- mach.Machine.OpCopy, 57, nothing to copy -/
theorem mCp57z {I : Ent → Prop} {G : List Ent} {cb sz pc gas : Nat} {T : TypeId} {c : Nat → Value} {K : YK} {s : List Nat} (hsz : 2435 ≤ sz) (hK : MK I cb c K) (hM : MV c pc gas s) (hpb : pc + 1 < 60000) (ho : K.code.getD pc 0 = 57) (hs3 : 3 ≤ s.length) (hz : argN s 2 = 0) :
    CallG Hvaf.prog 205 #[ptr cb 0] ⟨I, ⟨cb, sz, T, c⟩ :: G⟩ (SetP I G cb sz T c (pc + 1) gas (s.take (s.length - 3))) := by
  have hrn := mRunning (I := I) (G := G) (cb := cb) (T := T) hsz hK
  have hop := mOpcode (I := I) (G := G) (cb := cb) (T := T) hsz hK hM
  rw [ho] at hop
  have ha0 := mArg (I := I) (G := G) (cb := cb) (T := T) (i := 0) hsz hK.fsb hM (by decide)
  have ha1 := mArg (I := I) (G := G) (cb := cb) (T := T) (i := 1) hsz hK.fsb hM (by decide)
  have ha2 := mArg (I := I) (G := G) (cb := cb) (T := T) (i := 2) hsz hK.fsb hM (by decide)
  have hb1 : argN s 1 < 115792089237316195423570985008687907853269984665640564039457584007913129639936 := argN_lt hM.sb
  have hb2 : argN s 2 < 115792089237316195423570985008687907853269984665640564039457584007913129639936 := argN_lt hM.sb
  have hu := fun S => UIsZero_spec (S := S) hb2
  rw [decide_eq_true hz] at hu
  have hse := mSettleN (I := I) (G := G) (cb := cb) (T := T) (t := 3) (step := 1) (ws := [.int .u64 0, .int .u64 0, .int .u64 0, .int .u64 0]) hsz hM hs3 hpb rfl
  have hq1 : ∃ v, c 1856 = v := ⟨_, rfl⟩
  have hq2 : ∃ v, c 1857 = v := ⟨_, rfl⟩
  have hmr := hK.mRet
  obtain ⟨cv, hcv⟩ := hq1
  obtain ⟨iv, hiv⟩ := hq2
  generalize s.take (s.length - 3) = s' at *
  generalize argN s 0 = p at *
  generalize argN s 1 = q at *
  generalize argN s 2 = n at *
  refine CallG.start (C := mkC Hvaf.prog) cok (args := [ptr cb 0]) Hvaf.func205 rfl Hvaf.ntmps205 (by simp) (by kernel_rfl) ?_
  skip
  refine CallG.sameL [] hrn ?_
  repeat (first | refine SeqS.go cok ?_ | refine CondS.f rfl ?_)
  refine CallG.sameL [] ha0 ?_
  intro x1
  repeat (first | refine SeqS.go cok ?_ | (refine OpG.keep ?_; first | refine OpG.sL cok 0 rfl rfl rfl rfl rfl rfl rfl (by first | exact Nat.le_of_ble_eq_true rfl | omega | (dsimp only; omega) | (simp only [addS_eq, mulS_eq]; omega)) ?_))
  refine CallG.sameL [_] ha1 ?_
  intro x2
  repeat (first | refine SeqS.go cok ?_ | (refine OpG.keep ?_; first | refine OpG.sL cok 0 rfl rfl rfl rfl rfl rfl rfl (by first | exact Nat.le_of_ble_eq_true rfl | omega | (dsimp only; omega) | (simp only [addS_eq, mulS_eq]; omega)) ?_))
  refine CallG.sameL [_, _] ha2 ?_
  intro x3
  repeat (first | refine SeqS.go cok ?_ | (refine OpG.keep ?_; first | refine OpG.sL cok 0 rfl rfl rfl rfl rfl rfl rfl (by first | exact Nat.le_of_ble_eq_true rfl | omega | (dsimp only; omega) | (simp only [addS_eq, mulS_eq]; omega)) ?_))
  refine CallG.sameL [_, _, _] hop ?_
  repeat (first | (refine QuG.keep ?_; first | refine QuG.l1E cok 3 rfl rfl rfl rfl rfl (by first | exact Nat.le_of_ble_eq_true rfl | omega | (dsimp only; omega) | (simp only [addS_eq, mulS_eq]; omega)) (by assumption) ?_) | refine SeqS.go cok ?_ | refine CondS.t rfl ?_ | refine CondS.f rfl ?_ | (refine QuG.keep ?_; first | refine QuG.lN cok 0 rfl rfl rfl rfl rfl (by first | exact Nat.le_of_ble_eq_true rfl | omega | (dsimp only; omega) | (simp only [addS_eq, mulS_eq]; omega)) ?_))
  refine (hu _).mono ?_
  rintro r _ - ⟨rfl, rfl⟩
  repeat (first | refine SeqS.go cok ?_ | refine CondS.f rfl ?_ | refine And.intro (fillOk_of (Eq.refl true)) ?_)
  refine CallG.behind [_, _, _] hse ?_
  rintro r J G1 hs ⟨c', hS, h1, h2⟩
  cases hS
  skip
  exact Fin.drop (⟨cb, sz, T, c'⟩ :: G) [_, _, _] ⟨c', rfl, h1, h2⟩
/-- mach.Machine.OpCopy, 62, nothing to copy -/
theorem mCp62z {I : Ent → Prop} {G : List Ent} {cb sz pc gas : Nat} {T : TypeId} {c : Nat → Value} {K : YK} {s : List Nat} (hsz : 2435 ≤ sz) (hK : MK I cb c K) (hM : MV c pc gas s) (hpb : pc + 1 < 60000) (ho : K.code.getD pc 0 = 62) (hs3 : 3 ≤ s.length) (hz : argN s 2 = 0) :
    CallG Hvaf.prog 205 #[ptr cb 0] ⟨I, ⟨cb, sz, T, c⟩ :: G⟩ (SetP I G cb sz T c (pc + 1) gas (s.take (s.length - 3))) := by
  have hrn := mRunning (I := I) (G := G) (cb := cb) (T := T) hsz hK
  have hop := mOpcode (I := I) (G := G) (cb := cb) (T := T) hsz hK hM
  rw [ho] at hop
  have ha0 := mArg (I := I) (G := G) (cb := cb) (T := T) (i := 0) hsz hK.fsb hM (by decide)
  have ha1 := mArg (I := I) (G := G) (cb := cb) (T := T) (i := 1) hsz hK.fsb hM (by decide)
  have ha2 := mArg (I := I) (G := G) (cb := cb) (T := T) (i := 2) hsz hK.fsb hM (by decide)
  have hb1 : argN s 1 < 115792089237316195423570985008687907853269984665640564039457584007913129639936 := argN_lt hM.sb
  have hb2 : argN s 2 < 115792089237316195423570985008687907853269984665640564039457584007913129639936 := argN_lt hM.sb
  have hu := fun S => UIsZero_spec (S := S) hb2
  rw [decide_eq_true hz] at hu
  have hse := mSettleN (I := I) (G := G) (cb := cb) (T := T) (t := 3) (step := 1) (ws := [.int .u64 0, .int .u64 0, .int .u64 0, .int .u64 0]) hsz hM hs3 hpb rfl
  have hq1 : ∃ v, c 1856 = v := ⟨_, rfl⟩
  have hq2 : ∃ v, c 1857 = v := ⟨_, rfl⟩
  have hmr := hK.mRet
  obtain ⟨cv, hcv⟩ := hq1
  obtain ⟨iv, hiv⟩ := hq2
  generalize s.take (s.length - 3) = s' at *
  generalize argN s 0 = p at *
  generalize argN s 1 = q at *
  generalize argN s 2 = n at *
  refine CallG.start (C := mkC Hvaf.prog) cok (args := [ptr cb 0]) Hvaf.func205 rfl Hvaf.ntmps205 (by simp) (by kernel_rfl) ?_
  skip
  refine CallG.sameL [] hrn ?_
  repeat (first | refine SeqS.go cok ?_ | refine CondS.f rfl ?_)
  refine CallG.sameL [] ha0 ?_
  intro x1
  repeat (first | refine SeqS.go cok ?_ | (refine OpG.keep ?_; first | refine OpG.sL cok 0 rfl rfl rfl rfl rfl rfl rfl (by first | exact Nat.le_of_ble_eq_true rfl | omega | (dsimp only; omega) | (simp only [addS_eq, mulS_eq]; omega)) ?_))
  refine CallG.sameL [_] ha1 ?_
  intro x2
  repeat (first | refine SeqS.go cok ?_ | (refine OpG.keep ?_; first | refine OpG.sL cok 0 rfl rfl rfl rfl rfl rfl rfl (by first | exact Nat.le_of_ble_eq_true rfl | omega | (dsimp only; omega) | (simp only [addS_eq, mulS_eq]; omega)) ?_))
  refine CallG.sameL [_, _] ha2 ?_
  intro x3
  repeat (first | refine SeqS.go cok ?_ | (refine OpG.keep ?_; first | refine OpG.sL cok 0 rfl rfl rfl rfl rfl rfl rfl (by first | exact Nat.le_of_ble_eq_true rfl | omega | (dsimp only; omega) | (simp only [addS_eq, mulS_eq]; omega)) ?_))
  refine CallG.sameL [_, _, _] hop ?_
  repeat (first | (refine QuG.keep ?_; first | refine QuG.l1E cok 3 rfl rfl rfl rfl rfl (by first | exact Nat.le_of_ble_eq_true rfl | omega | (dsimp only; omega) | (simp only [addS_eq, mulS_eq]; omega)) (by assumption) ?_) | refine SeqS.go cok ?_ | refine CondS.t rfl ?_ | refine CondS.f rfl ?_ | (refine QuG.keep ?_; first | refine QuG.lN cok 0 rfl rfl rfl rfl rfl (by first | exact Nat.le_of_ble_eq_true rfl | omega | (dsimp only; omega) | (simp only [addS_eq, mulS_eq]; omega)) ?_))
  refine (hu _).mono ?_
  rintro r _ - ⟨rfl, rfl⟩
  repeat (first | refine SeqS.go cok ?_ | refine CondS.f rfl ?_ | refine And.intro (fillOk_of (Eq.refl true)) ?_)
  refine CallG.behind [_, _, _] hse ?_
  rintro r J G1 hs ⟨c', hS, h1, h2⟩
  cases hS
  skip
  exact Fin.drop (⟨cb, sz, T, c'⟩ :: G) [_, _, _] ⟨c', rfl, h1, h2⟩
/-- mach.Machine.OpCopy, 94, nothing to copy -/
theorem mCp94z {I : Ent → Prop} {G : List Ent} {cb sz pc gas : Nat} {T : TypeId} {c : Nat → Value} {K : YK} {s : List Nat} (hsz : 2435 ≤ sz) (hK : MK I cb c K) (hM : MV c pc gas s) (hpb : pc + 1 < 60000) (ho : K.code.getD pc 0 = 94) (hs3 : 3 ≤ s.length) (hz : argN s 2 = 0) :
    CallG Hvaf.prog 205 #[ptr cb 0] ⟨I, ⟨cb, sz, T, c⟩ :: G⟩ (SetP I G cb sz T c (pc + 1) gas (s.take (s.length - 3))) := by
  have hrn := mRunning (I := I) (G := G) (cb := cb) (T := T) hsz hK
  have hop := mOpcode (I := I) (G := G) (cb := cb) (T := T) hsz hK hM
  rw [ho] at hop
  have ha0 := mArg (I := I) (G := G) (cb := cb) (T := T) (i := 0) hsz hK.fsb hM (by decide)
  have ha1 := mArg (I := I) (G := G) (cb := cb) (T := T) (i := 1) hsz hK.fsb hM (by decide)
  have ha2 := mArg (I := I) (G := G) (cb := cb) (T := T) (i := 2) hsz hK.fsb hM (by decide)
  have hb1 : argN s 1 < 115792089237316195423570985008687907853269984665640564039457584007913129639936 := argN_lt hM.sb
  have hb2 : argN s 2 < 115792089237316195423570985008687907853269984665640564039457584007913129639936 := argN_lt hM.sb
  have hu := fun S => UIsZero_spec (S := S) hb2
  rw [decide_eq_true hz] at hu
  have hse := mSettleN (I := I) (G := G) (cb := cb) (T := T) (t := 3) (step := 1) (ws := [.int .u64 0, .int .u64 0, .int .u64 0, .int .u64 0]) hsz hM hs3 hpb rfl
  have hq1 : ∃ v, c 1856 = v := ⟨_, rfl⟩
  have hq2 : ∃ v, c 1857 = v := ⟨_, rfl⟩
  have hmr := hK.mRet
  obtain ⟨cv, hcv⟩ := hq1
  obtain ⟨iv, hiv⟩ := hq2
  generalize s.take (s.length - 3) = s' at *
  generalize argN s 0 = p at *
  generalize argN s 1 = q at *
  generalize argN s 2 = n at *
  refine CallG.start (C := mkC Hvaf.prog) cok (args := [ptr cb 0]) Hvaf.func205 rfl Hvaf.ntmps205 (by simp) (by kernel_rfl) ?_
  skip
  refine CallG.sameL [] hrn ?_
  repeat (first | refine SeqS.go cok ?_ | refine CondS.f rfl ?_)
  refine CallG.sameL [] ha0 ?_
  intro x1
  repeat (first | refine SeqS.go cok ?_ | (refine OpG.keep ?_; first | refine OpG.sL cok 0 rfl rfl rfl rfl rfl rfl rfl (by first | exact Nat.le_of_ble_eq_true rfl | omega | (dsimp only; omega) | (simp only [addS_eq, mulS_eq]; omega)) ?_))
  refine CallG.sameL [_] ha1 ?_
  intro x2
  repeat (first | refine SeqS.go cok ?_ | (refine OpG.keep ?_; first | refine OpG.sL cok 0 rfl rfl rfl rfl rfl rfl rfl (by first | exact Nat.le_of_ble_eq_true rfl | omega | (dsimp only; omega) | (simp only [addS_eq, mulS_eq]; omega)) ?_))
  refine CallG.sameL [_, _] ha2 ?_
  intro x3
  repeat (first | refine SeqS.go cok ?_ | (refine OpG.keep ?_; first | refine OpG.sL cok 0 rfl rfl rfl rfl rfl rfl rfl (by first | exact Nat.le_of_ble_eq_true rfl | omega | (dsimp only; omega) | (simp only [addS_eq, mulS_eq]; omega)) ?_))
  refine CallG.sameL [_, _, _] hop ?_
  repeat (first | refine SeqS.go cok ?_ | refine CondS.t rfl ?_ | refine CondS.f rfl ?_ | (refine QuG.keep ?_; first | refine QuG.lN cok 0 rfl rfl rfl rfl rfl (by first | exact Nat.le_of_ble_eq_true rfl | omega | (dsimp only; omega) | (simp only [addS_eq, mulS_eq]; omega)) ?_) | refine W.drawI 26 cok [0, 1, 3, 7, 15, 31, 7, 71, 7, 455, 7, 1991, 4095, 8191, 16383] [0, 1, 2, 3, 4, 5, 6, 8, 10, 7, 9, 11, 12, 13, 14] [0, 6, 8, 10] (by kernel_rfl) (by kernel_rfl) ?_)
  refine (hu _).mono ?_
  rintro r _ - ⟨rfl, rfl⟩
  repeat (first | refine SeqS.go cok ?_ | refine GuardS.no rfl ?_ | refine CondS.f rfl ?_ | refine And.intro (fillOk_of (Eq.refl true)) ?_ | (refine still_in ?_; first | refine still_drop (by decide) ?_))
  refine CallG.behind [_, _, _] hse ?_
  rintro r J G1 hs ⟨c', hS, h1, h2⟩
  cases hS
  skip
  exact Fin.drop (⟨cb, sz, T, c'⟩ :: G) [_, _, _] ⟨c', rfl, h1, h2⟩
/-- mach.Machine.OpCopy, 55 -/
theorem mCp55 {I : Ent → Prop} {G : List Ent} {cb sz pc gas b cap : Nat} {T : TypeId} {c cm : Nat → Value} {K : YK} {s mem : List Nat} (hsz : 2435 ≤ sz) (hA : ArI c mem [⟨b, mulS cap 1, 5, cm⟩]) (h1 : c 1 = sl b 0 mem.length cap) (h2 : mem.length ≤ cap) (h4 : Row cm 0 (bvs mem)) (hK : MK I cb c K) (hM : MV c pc gas s) (hpb : pc + 1 < 60000) (ho : K.code.getD pc 0 = 55) (hs3 : 3 ≤ s.length) (hz : argN s 2 ≠ 0) (hin : argN s 0 + argN s 2 ≤ mem.length) :
    CallG Hvaf.prog 205 #[ptr cb 0] ⟨I, ⟨cb, sz, T, c⟩ :: ⟨b, mulS cap 1, 5, cm⟩ :: G⟩ fun r S' => ∃ c' cm', S' = ⟨I, ⟨cb, sz, T, c'⟩ :: ⟨b, mulS cap 1, 5, cm'⟩ :: G⟩ ∧ MV c' (pc + 1) gas (s.take (s.length - 3)) ∧ Stk c c' ∧ Row cm' 0 (bvs (writeL mem (argN s 0) (cutL K.data (argN s 1) (argN s 2)))) := by
  have hrn := mRunning (I := I) (G := ⟨b, mulS cap 1, 5, cm⟩ :: G) (cb := cb) (T := T) hsz hK
  have hop := mOpcode (I := I) (G := ⟨b, mulS cap 1, 5, cm⟩ :: G) (cb := cb) (T := T) hsz hK hM
  rw [ho] at hop
  have ha0 := mArg (I := I) (G := ⟨b, mulS cap 1, 5, cm⟩ :: G) (cb := cb) (T := T) (i := 0) hsz hK.fsb hM (by decide)
  have ha1 := mArg (I := I) (G := ⟨b, mulS cap 1, 5, cm⟩ :: G) (cb := cb) (T := T) (i := 1) hsz hK.fsb hM (by decide)
  have ha2 := mArg (I := I) (G := ⟨b, mulS cap 1, 5, cm⟩ :: G) (cb := cb) (T := T) (i := 2) hsz hK.fsb hM (by decide)
  have hb1 : argN s 1 < 115792089237316195423570985008687907853269984665640564039457584007913129639936 := argN_lt hM.sb
  have hb2 : argN s 2 < 115792089237316195423570985008687907853269984665640564039457584007913129639936 := argN_lt hM.sb
  have hu := fun S => UIsZero_spec (S := S) hb2
  rw [decide_eq_false hz] at hu
  have hlen := hA.bf.len
  have hs0 := fun S => mSmall (S := S) (n := argN s 0) (by omega)
  have hs2 := fun S => mSmall (S := S) (n := argN s 2) (by omega)
  have hcl := hK.kb.data
  have hs1 := fun S => mSource (S := S) (n := argN s 1) hb1
  have hst := mWrite (I := I) (G := G) (cb := cb) (T := T) (off := argN s 0) (n := argN s 2) (fr := if argN s 1 < 18446744073709551616 then argN s 1 else 18446744073709551615) hsz hA h1 h2 h4 (by omega) hin hK.finp (by split <;> omega) (by omega)
  rw [cut_src2 (by omega)] at hst
  generalize hwr : bvs (writeL mem (argN s 0) (cutL K.data (argN s 1) (argN s 2))) = wr at *
  obtain ⟨cv, hcv⟩ : ∃ v, c 1857 = v := ⟨_, rfl⟩
  rw [hcv] at hst
  generalize (if argN s 1 < 18446744073709551616 then argN s 1 else 18446744073709551615) = fr at *
  have hse := fun cm' => mSettleN (I := I) (G := ⟨b, mulS cap 1, 5, cm'⟩ :: G) (cb := cb) (T := T) (t := 3) (step := 1) (ws := [.int .u64 0, .int .u64 0, .int .u64 0, .int .u64 0]) hsz hM hs3 hpb rfl
  generalize s.take (s.length - 3) = s' at *
  generalize argN s 0 = p at *
  generalize argN s 1 = q at *
  generalize argN s 2 = n at *
  refine CallG.start (C := mkC Hvaf.prog) cok (args := [ptr cb 0]) Hvaf.func205 rfl Hvaf.ntmps205 (by simp) (by kernel_rfl) ?_
  skip
  refine CallG.sameL [] hrn ?_
  repeat (first | refine SeqS.go cok ?_ | refine CondS.f rfl ?_)
  refine CallG.sameL [] ha0 ?_
  intro x1
  repeat (first | refine SeqS.go cok ?_ | (refine OpG.keep ?_; first | refine OpG.sL cok 0 rfl rfl rfl rfl rfl rfl rfl (by first | exact Nat.le_of_ble_eq_true rfl | omega | (dsimp only; omega) | (simp only [addS_eq, mulS_eq]; omega)) ?_))
  refine CallG.sameL [_] ha1 ?_
  intro x2
  repeat (first | refine SeqS.go cok ?_ | (refine OpG.keep ?_; first | refine OpG.sL cok 0 rfl rfl rfl rfl rfl rfl rfl (by first | exact Nat.le_of_ble_eq_true rfl | omega | (dsimp only; omega) | (simp only [addS_eq, mulS_eq]; omega)) ?_))
  refine CallG.sameL [_, _] ha2 ?_
  intro x3
  repeat (first | refine SeqS.go cok ?_ | (refine OpG.keep ?_; first | refine OpG.sL cok 0 rfl rfl rfl rfl rfl rfl rfl (by first | exact Nat.le_of_ble_eq_true rfl | omega | (dsimp only; omega) | (simp only [addS_eq, mulS_eq]; omega)) ?_))
  refine CallG.sameL [_, _, _] hop ?_
  repeat (first | (refine QuG.keep ?_; first | refine QuG.l1E cok 3 rfl rfl rfl rfl rfl (by first | exact Nat.le_of_ble_eq_true rfl | omega | (dsimp only; omega) | (simp only [addS_eq, mulS_eq]; omega)) (by assumption) ?_) | refine SeqS.go cok ?_ | refine CondS.t rfl ?_ | refine CondS.f rfl ?_ | (refine QuG.keep ?_; first | refine QuG.lN cok 0 rfl rfl rfl rfl rfl (by first | exact Nat.le_of_ble_eq_true rfl | omega | (dsimp only; omega) | (simp only [addS_eq, mulS_eq]; omega)) ?_))
  refine (hu _).mono ?_
  rintro r _ - ⟨rfl, rfl⟩
  repeat (first | refine SeqS.go cok ?_ | refine CondS.t rfl ?_ | (refine QuG.keep ?_; first | refine QuG.lN cok 0 rfl rfl rfl rfl rfl (by first | exact Nat.le_of_ble_eq_true rfl | omega | (dsimp only; omega) | (simp only [addS_eq, mulS_eq]; omega)) ?_ | refine QuG.lN cok 1 rfl rfl rfl rfl rfl (by first | exact Nat.le_of_ble_eq_true rfl | omega | (dsimp only; omega) | (simp only [addS_eq, mulS_eq]; omega)) ?_ | refine QuG.lN cok 2 rfl rfl rfl rfl rfl (by first | exact Nat.le_of_ble_eq_true rfl | omega | (dsimp only; omega) | (simp only [addS_eq, mulS_eq]; omega)) ?_) | refine W.drawI 28 cok [0, 1, 3, 0, 8, 0, 0, 88, 0, 472, 1023, 2047] [0, 1, 2, 3, 5, 6, 8, 4, 7, 9, 10, 11] [3, 6, 8] (by kernel_rfl) (by kernel_rfl) ?_)
  refine (hs0 _).mono ?_
  rintro r _ - ⟨rfl, rfl⟩
  repeat (first | (refine still_in ?_; first | refine still_nil ?_ | refine still_drop (by decide) ?_ | (refine still_keep (by decide) rfl ?_ ?_; first | exact QuV.lN cok 0 rfl rfl rfl rfl rfl (by first | exact Nat.le_of_ble_eq_true rfl | omega | (dsimp only; omega) | (simp only [addS_eq, mulS_eq]; omega)) rfl | exact QuV.lN cok 1 rfl rfl rfl rfl rfl (by first | exact Nat.le_of_ble_eq_true rfl | omega | (dsimp only; omega) | (simp only [addS_eq, mulS_eq]; omega)) rfl)))
  refine (hs1 _).mono ?_
  rintro r _ - ⟨rfl, rfl⟩
  repeat (first | (refine still_in ?_; first | refine still_nil ?_ | refine still_drop (by decide) ?_ | (refine still_keep (by decide) rfl ?_ ?_; first | exact QuV.lN cok 0 rfl rfl rfl rfl rfl (by first | exact Nat.le_of_ble_eq_true rfl | omega | (dsimp only; omega) | (simp only [addS_eq, mulS_eq]; omega)) rfl)))
  refine (hs2 _).mono ?_
  rintro r _ - ⟨rfl, rfl⟩
  repeat (first | (refine still_in ?_; first | refine still_nil ?_ | refine still_drop (by decide) ?_))
  refine CallG.behind [_, _, _] hst ?_
  rintro r J G1 hs ⟨rfl, cm', hS, hrow⟩
  cases hS
  repeat (first | refine SeqS.go cok ?_ | refine CondS.f rfl ?_ | refine And.intro (fillOk_of (Eq.refl true)) ?_ | (refine still_in ?_; first | refine still_drop (by decide) ?_))
  refine CallG.behind [_, _, _] (hse cm') ?_
  rintro r J G1 hs ⟨c', hS, g1, g2⟩
  cases hS
  skip
  exact Fin.drop (⟨cb, sz, T, c'⟩ :: ⟨b, mulS cap 1, 5, cm'⟩ :: G) [_, _, _] ⟨c', cm', rfl, g1, g2, hrow⟩
/-- mach.Machine.OpCopy, 57 -/
theorem mCp57 {I : Ent → Prop} {G : List Ent} {cb sz pc gas b cap : Nat} {T : TypeId} {c cm : Nat → Value} {K : YK} {s mem : List Nat} (hsz : 2435 ≤ sz) (hA : ArI c mem [⟨b, mulS cap 1, 5, cm⟩]) (h1 : c 1 = sl b 0 mem.length cap) (h2 : mem.length ≤ cap) (h4 : Row cm 0 (bvs mem)) (hK : MK I cb c K) (hM : MV c pc gas s) (hpb : pc + 1 < 60000) (ho : K.code.getD pc 0 = 57) (hs3 : 3 ≤ s.length) (hz : argN s 2 ≠ 0) (hin : argN s 0 + argN s 2 ≤ mem.length) :
    CallG Hvaf.prog 205 #[ptr cb 0] ⟨I, ⟨cb, sz, T, c⟩ :: ⟨b, mulS cap 1, 5, cm⟩ :: G⟩ fun r S' => ∃ c' cm', S' = ⟨I, ⟨cb, sz, T, c'⟩ :: ⟨b, mulS cap 1, 5, cm'⟩ :: G⟩ ∧ MV c' (pc + 1) gas (s.take (s.length - 3)) ∧ Stk c c' ∧ Row cm' 0 (bvs (writeL mem (argN s 0) (cutL K.code (argN s 1) (argN s 2)))) := by
  have hrn := mRunning (I := I) (G := ⟨b, mulS cap 1, 5, cm⟩ :: G) (cb := cb) (T := T) hsz hK
  have hop := mOpcode (I := I) (G := ⟨b, mulS cap 1, 5, cm⟩ :: G) (cb := cb) (T := T) hsz hK hM
  rw [ho] at hop
  have ha0 := mArg (I := I) (G := ⟨b, mulS cap 1, 5, cm⟩ :: G) (cb := cb) (T := T) (i := 0) hsz hK.fsb hM (by decide)
  have ha1 := mArg (I := I) (G := ⟨b, mulS cap 1, 5, cm⟩ :: G) (cb := cb) (T := T) (i := 1) hsz hK.fsb hM (by decide)
  have ha2 := mArg (I := I) (G := ⟨b, mulS cap 1, 5, cm⟩ :: G) (cb := cb) (T := T) (i := 2) hsz hK.fsb hM (by decide)
  have hb1 : argN s 1 < 115792089237316195423570985008687907853269984665640564039457584007913129639936 := argN_lt hM.sb
  have hb2 : argN s 2 < 115792089237316195423570985008687907853269984665640564039457584007913129639936 := argN_lt hM.sb
  have hu := fun S => UIsZero_spec (S := S) hb2
  rw [decide_eq_false hz] at hu
  have hlen := hA.bf.len
  have hs0 := fun S => mSmall (S := S) (n := argN s 0) (by omega)
  have hs2 := fun S => mSmall (S := S) (n := argN s 2) (by omega)
  have hcl := hK.kb.code
  have hs1 := fun S => mSource (S := S) (n := argN s 1) hb1
  have hst := mWrite (I := I) (G := G) (cb := cb) (T := T) (off := argN s 0) (n := argN s 2) (fr := if argN s 1 < 18446744073709551616 then argN s 1 else 18446744073709551615) hsz hA h1 h2 h4 (by omega) hin hK.fcode (by split <;> omega) (by omega)
  rw [cut_src2 (by omega)] at hst
  generalize hwr : bvs (writeL mem (argN s 0) (cutL K.code (argN s 1) (argN s 2))) = wr at *
  obtain ⟨cv, hcv⟩ : ∃ v, c 1856 = v := ⟨_, rfl⟩
  rw [hcv] at hst
  generalize (if argN s 1 < 18446744073709551616 then argN s 1 else 18446744073709551615) = fr at *
  have hse := fun cm' => mSettleN (I := I) (G := ⟨b, mulS cap 1, 5, cm'⟩ :: G) (cb := cb) (T := T) (t := 3) (step := 1) (ws := [.int .u64 0, .int .u64 0, .int .u64 0, .int .u64 0]) hsz hM hs3 hpb rfl
  generalize s.take (s.length - 3) = s' at *
  generalize argN s 0 = p at *
  generalize argN s 1 = q at *
  generalize argN s 2 = n at *
  refine CallG.start (C := mkC Hvaf.prog) cok (args := [ptr cb 0]) Hvaf.func205 rfl Hvaf.ntmps205 (by simp) (by kernel_rfl) ?_
  skip
  refine CallG.sameL [] hrn ?_
  repeat (first | refine SeqS.go cok ?_ | refine CondS.f rfl ?_)
  refine CallG.sameL [] ha0 ?_
  intro x1
  repeat (first | refine SeqS.go cok ?_ | (refine OpG.keep ?_; first | refine OpG.sL cok 0 rfl rfl rfl rfl rfl rfl rfl (by first | exact Nat.le_of_ble_eq_true rfl | omega | (dsimp only; omega) | (simp only [addS_eq, mulS_eq]; omega)) ?_))
  refine CallG.sameL [_] ha1 ?_
  intro x2
  repeat (first | refine SeqS.go cok ?_ | (refine OpG.keep ?_; first | refine OpG.sL cok 0 rfl rfl rfl rfl rfl rfl rfl (by first | exact Nat.le_of_ble_eq_true rfl | omega | (dsimp only; omega) | (simp only [addS_eq, mulS_eq]; omega)) ?_))
  refine CallG.sameL [_, _] ha2 ?_
  intro x3
  repeat (first | refine SeqS.go cok ?_ | (refine OpG.keep ?_; first | refine OpG.sL cok 0 rfl rfl rfl rfl rfl rfl rfl (by first | exact Nat.le_of_ble_eq_true rfl | omega | (dsimp only; omega) | (simp only [addS_eq, mulS_eq]; omega)) ?_))
  refine CallG.sameL [_, _, _] hop ?_
  repeat (first | (refine QuG.keep ?_; first | refine QuG.l1E cok 3 rfl rfl rfl rfl rfl (by first | exact Nat.le_of_ble_eq_true rfl | omega | (dsimp only; omega) | (simp only [addS_eq, mulS_eq]; omega)) (by assumption) ?_) | refine SeqS.go cok ?_ | refine CondS.t rfl ?_ | refine CondS.f rfl ?_ | (refine QuG.keep ?_; first | refine QuG.lN cok 0 rfl rfl rfl rfl rfl (by first | exact Nat.le_of_ble_eq_true rfl | omega | (dsimp only; omega) | (simp only [addS_eq, mulS_eq]; omega)) ?_))
  refine (hu _).mono ?_
  rintro r _ - ⟨rfl, rfl⟩
  repeat (first | refine SeqS.go cok ?_ | refine CondS.t rfl ?_ | (refine QuG.keep ?_; first | refine QuG.lN cok 0 rfl rfl rfl rfl rfl (by first | exact Nat.le_of_ble_eq_true rfl | omega | (dsimp only; omega) | (simp only [addS_eq, mulS_eq]; omega)) ?_ | refine QuG.lN cok 1 rfl rfl rfl rfl rfl (by first | exact Nat.le_of_ble_eq_true rfl | omega | (dsimp only; omega) | (simp only [addS_eq, mulS_eq]; omega)) ?_ | refine QuG.lN cok 2 rfl rfl rfl rfl rfl (by first | exact Nat.le_of_ble_eq_true rfl | omega | (dsimp only; omega) | (simp only [addS_eq, mulS_eq]; omega)) ?_) | refine W.drawI 28 cok [0, 1, 3, 0, 8, 0, 0, 88, 0, 472, 1023, 2047] [0, 1, 2, 3, 5, 6, 8, 4, 7, 9, 10, 11] [3, 6, 8] (by kernel_rfl) (by kernel_rfl) ?_)
  refine (hs0 _).mono ?_
  rintro r _ - ⟨rfl, rfl⟩
  repeat (first | (refine still_in ?_; first | refine still_nil ?_ | refine still_drop (by decide) ?_ | (refine still_keep (by decide) rfl ?_ ?_; first | exact QuV.lN cok 0 rfl rfl rfl rfl rfl (by first | exact Nat.le_of_ble_eq_true rfl | omega | (dsimp only; omega) | (simp only [addS_eq, mulS_eq]; omega)) rfl | exact QuV.lN cok 1 rfl rfl rfl rfl rfl (by first | exact Nat.le_of_ble_eq_true rfl | omega | (dsimp only; omega) | (simp only [addS_eq, mulS_eq]; omega)) rfl)))
  refine (hs1 _).mono ?_
  rintro r _ - ⟨rfl, rfl⟩
  repeat (first | (refine still_in ?_; first | refine still_nil ?_ | refine still_drop (by decide) ?_ | (refine still_keep (by decide) rfl ?_ ?_; first | exact QuV.lN cok 0 rfl rfl rfl rfl rfl (by first | exact Nat.le_of_ble_eq_true rfl | omega | (dsimp only; omega) | (simp only [addS_eq, mulS_eq]; omega)) rfl)))
  refine (hs2 _).mono ?_
  rintro r _ - ⟨rfl, rfl⟩
  repeat (first | (refine still_in ?_; first | refine still_nil ?_ | refine still_drop (by decide) ?_))
  refine CallG.behind [_, _, _] hst ?_
  rintro r J G1 hs ⟨rfl, cm', hS, hrow⟩
  cases hS
  repeat (first | refine SeqS.go cok ?_ | refine CondS.f rfl ?_ | refine And.intro (fillOk_of (Eq.refl true)) ?_ | (refine still_in ?_; first | refine still_drop (by decide) ?_))
  refine CallG.behind [_, _, _] (hse cm') ?_
  rintro r J G1 hs ⟨c', hS, g1, g2⟩
  cases hS
  skip
  exact Fin.drop (⟨cb, sz, T, c'⟩ :: ⟨b, mulS cap 1, 5, cm'⟩ :: G) [_, _, _] ⟨c', cm', rfl, g1, g2, hrow⟩
/-- mach.Machine.OpCopy, 94 -/
theorem mCp94 {I : Ent → Prop} {G : List Ent} {cb sz pc gas b cap : Nat} {T : TypeId} {c cm : Nat → Value} {K : YK} {s mem : List Nat} (hsz : 2435 ≤ sz) (hA : ArI c mem [⟨b, mulS cap 1, 5, cm⟩]) (h1 : c 1 = sl b 0 mem.length cap) (h2 : mem.length ≤ cap) (h4 : Row cm 0 (bvs mem)) (hK : MK I cb c K) (hM : MV c pc gas s) (hpb : pc + 1 < 60000) (ho : K.code.getD pc 0 = 94) (hs3 : 3 ≤ s.length) (hz : argN s 2 ≠ 0) (hin : argN s 0 + argN s 2 ≤ mem.length) (hin2 : argN s 1 + argN s 2 ≤ mem.length) :
    CallG Hvaf.prog 205 #[ptr cb 0] ⟨I, ⟨cb, sz, T, c⟩ :: ⟨b, mulS cap 1, 5, cm⟩ :: G⟩ fun r S' => ∃ c' cm', S' = ⟨I, ⟨cb, sz, T, c'⟩ :: ⟨b, mulS cap 1, 5, cm'⟩ :: G⟩ ∧ MV c' (pc + 1) gas (s.take (s.length - 3)) ∧ Stk c c' ∧ Row cm' 0 (bvs (writeL mem (argN s 0) (cutL mem (argN s 1) (argN s 2)))) := by
  have hrn := mRunning (I := I) (G := ⟨b, mulS cap 1, 5, cm⟩ :: G) (cb := cb) (T := T) hsz hK
  have hop := mOpcode (I := I) (G := ⟨b, mulS cap 1, 5, cm⟩ :: G) (cb := cb) (T := T) hsz hK hM
  rw [ho] at hop
  have ha0 := mArg (I := I) (G := ⟨b, mulS cap 1, 5, cm⟩ :: G) (cb := cb) (T := T) (i := 0) hsz hK.fsb hM (by decide)
  have ha1 := mArg (I := I) (G := ⟨b, mulS cap 1, 5, cm⟩ :: G) (cb := cb) (T := T) (i := 1) hsz hK.fsb hM (by decide)
  have ha2 := mArg (I := I) (G := ⟨b, mulS cap 1, 5, cm⟩ :: G) (cb := cb) (T := T) (i := 2) hsz hK.fsb hM (by decide)
  have hb1 : argN s 1 < 115792089237316195423570985008687907853269984665640564039457584007913129639936 := argN_lt hM.sb
  have hb2 : argN s 2 < 115792089237316195423570985008687907853269984665640564039457584007913129639936 := argN_lt hM.sb
  have hu := fun S => UIsZero_spec (S := S) hb2
  rw [decide_eq_false hz] at hu
  have hlen := hA.bf.len
  have hs0 := fun S => mSmall (S := S) (n := argN s 0) (by omega)
  have hs2 := fun S => mSmall (S := S) (n := argN s 2) (by omega)
  have hs1 := fun S => mSmall (S := S) (n := argN s 1) (by omega)
  have hst := mMove (I := I) (G := G) (cb := cb) (T := T) (dst := argN s 0) (src := argN s 1) (n := argN s 2) hsz hA h1 h2 h4 (by omega) hin hin2
  generalize hwr : bvs (writeL mem (argN s 0) (cutL mem (argN s 1) (argN s 2))) = wr at *
  have hse := fun cm' => mSettleN (I := I) (G := ⟨b, mulS cap 1, 5, cm'⟩ :: G) (cb := cb) (T := T) (t := 3) (step := 1) (ws := [.int .u64 0, .int .u64 0, .int .u64 0, .int .u64 0]) hsz hM hs3 hpb rfl
  generalize s.take (s.length - 3) = s' at *
  generalize argN s 0 = p at *
  generalize argN s 1 = q at *
  generalize argN s 2 = n at *
  refine CallG.start (C := mkC Hvaf.prog) cok (args := [ptr cb 0]) Hvaf.func205 rfl Hvaf.ntmps205 (by simp) (by kernel_rfl) ?_
  skip
  refine CallG.sameL [] hrn ?_
  repeat (first | refine SeqS.go cok ?_ | refine CondS.f rfl ?_)
  refine CallG.sameL [] ha0 ?_
  intro x1
  repeat (first | refine SeqS.go cok ?_ | (refine OpG.keep ?_; first | refine OpG.sL cok 0 rfl rfl rfl rfl rfl rfl rfl (by first | exact Nat.le_of_ble_eq_true rfl | omega | (dsimp only; omega) | (simp only [addS_eq, mulS_eq]; omega)) ?_))
  refine CallG.sameL [_] ha1 ?_
  intro x2
  repeat (first | refine SeqS.go cok ?_ | (refine OpG.keep ?_; first | refine OpG.sL cok 0 rfl rfl rfl rfl rfl rfl rfl (by first | exact Nat.le_of_ble_eq_true rfl | omega | (dsimp only; omega) | (simp only [addS_eq, mulS_eq]; omega)) ?_))
  refine CallG.sameL [_, _] ha2 ?_
  intro x3
  repeat (first | refine SeqS.go cok ?_ | (refine OpG.keep ?_; first | refine OpG.sL cok 0 rfl rfl rfl rfl rfl rfl rfl (by first | exact Nat.le_of_ble_eq_true rfl | omega | (dsimp only; omega) | (simp only [addS_eq, mulS_eq]; omega)) ?_))
  refine CallG.sameL [_, _, _] hop ?_
  repeat (first | refine SeqS.go cok ?_ | refine CondS.t rfl ?_ | refine CondS.f rfl ?_ | (refine QuG.keep ?_; first | refine QuG.lN cok 0 rfl rfl rfl rfl rfl (by first | exact Nat.le_of_ble_eq_true rfl | omega | (dsimp only; omega) | (simp only [addS_eq, mulS_eq]; omega)) ?_) | refine W.drawI 26 cok [0, 1, 3, 7, 15, 31, 7, 71, 7, 455, 7, 1991, 4095, 8191, 16383] [0, 1, 2, 3, 4, 5, 6, 8, 10, 7, 9, 11, 12, 13, 14] [0, 6, 8, 10] (by kernel_rfl) (by kernel_rfl) ?_)
  refine (hu _).mono ?_
  rintro r _ - ⟨rfl, rfl⟩
  repeat (first | refine GuardS.yes rfl ?_ | (refine QuG.keep ?_; first | refine QuG.lN cok 0 rfl rfl rfl rfl rfl (by first | exact Nat.le_of_ble_eq_true rfl | omega | (dsimp only; omega) | (simp only [addS_eq, mulS_eq]; omega)) ?_ | refine QuG.lN cok 1 rfl rfl rfl rfl rfl (by first | exact Nat.le_of_ble_eq_true rfl | omega | (dsimp only; omega) | (simp only [addS_eq, mulS_eq]; omega)) ?_ | refine QuG.lN cok 2 rfl rfl rfl rfl rfl (by first | exact Nat.le_of_ble_eq_true rfl | omega | (dsimp only; omega) | (simp only [addS_eq, mulS_eq]; omega)) ?_) | (refine still_in ?_; first | refine still_drop (by decide) ?_))
  refine (hs0 _).mono ?_
  rintro r _ - ⟨rfl, rfl⟩
  repeat (first | refine GuardS.yes rfl ?_ | (refine still_in ?_; first | refine still_drop (by decide) ?_ | (refine still_keep (by decide) rfl ?_ ?_; first | exact QuV.lN cok 0 rfl rfl rfl rfl rfl (by first | exact Nat.le_of_ble_eq_true rfl | omega | (dsimp only; omega) | (simp only [addS_eq, mulS_eq]; omega)) rfl | exact QuV.lN cok 1 rfl rfl rfl rfl rfl (by first | exact Nat.le_of_ble_eq_true rfl | omega | (dsimp only; omega) | (simp only [addS_eq, mulS_eq]; omega)) rfl)))
  refine (hs1 _).mono ?_
  rintro r _ - ⟨rfl, rfl⟩
  repeat (first | refine GuardS.yes rfl ?_ | (refine still_in ?_; first | refine still_drop (by decide) ?_ | (refine still_keep (by decide) rfl ?_ ?_; first | exact QuV.lN cok 0 rfl rfl rfl rfl rfl (by first | exact Nat.le_of_ble_eq_true rfl | omega | (dsimp only; omega) | (simp only [addS_eq, mulS_eq]; omega)) rfl)))
  refine (hs2 _).mono ?_
  rintro r _ - ⟨rfl, rfl⟩
  repeat (first | refine GuardS.yes rfl ?_ | (refine still_in ?_; first | refine still_drop (by decide) ?_))
  refine CallG.behind [_, _, _] hst ?_
  rintro r J G1 hs ⟨rfl, cm', hS, hrow⟩
  cases hS
  repeat (first | refine SeqS.go cok ?_ | refine CondS.f rfl ?_ | refine And.intro (fillOk_of (Eq.refl true)) ?_ | (refine still_in ?_; first | refine still_drop (by decide) ?_))
  refine CallG.behind [_, _, _] (hse cm') ?_
  rintro r J G1 hs ⟨c', hS, g1, g2⟩
  cases hS
  skip
  exact Fin.drop (⟨cb, sz, T, c'⟩ :: ⟨b, mulS cap 1, 5, cm'⟩ :: G) [_, _, _] ⟨c', cm', rfl, g1, g2, hrow⟩
end Go.Proofs.YgvafwGreat
