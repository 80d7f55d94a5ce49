import Derived.Test.YgvafwGreatE31
set_option exponentiation.threshold 1000
set_option maxRecDepth 100000
set_option maxHeartbeats 4000000
set_option linter.unusedVariables false
set_option linter.unusedSimpArgs false
-- v2
-- v4
-- v5
-- v6
-- v7
namespace Go.Proofs.YgvafwGreat
open Go.HL Go.Proofs
theorem out_trans {a b c : Nat → Value} (h1 : Out a b) (h2 : Out b c) : Out a c := fun k hk => (h2 k hk).trans (h1 k hk)
theorem setS_len (V : Vl) (k : Nat) (t : Nat → Int) (x : VSl) (e : VE) : (V.setS k t x e).sl.length ≤ V.sl.length + 1 ∧ (V.setS k t x e).jr.length = V.jr.length + 1 := by
  refine ⟨?_, by show (V.jr ++ [e]).length = _; simp⟩
  show ((V.ens k t).sl.set _ _).length ≤ _
  rw [List.length_set]
  unfold Vl.ens
  split
  · omega
  · simp
theorem setS_jlt {V : Vl} {k n : Nat} {t : Nat → Int} {x : VSl} {e : VE} (h : V.jr.length + 1 < n) : (V.setS k t x e).jr.length < n := by rw [(setS_len V k t x e).2]; exact h
theorem setS_sln {V : Vl} {k n : Nat} {t : Nat → Int} {x : VSl} {e : VE} (h : V.sl.length + 1 < n) : (V.setS k t x e).sl.length < n := Nat.lt_of_le_of_lt (setS_len V k t x e).1 h
theorem setS_rle {V : Vl} {k n : Nat} {t : Nat → Int} {x : VSl} {e : VE} (h : V.rf ≤ n) : (V.setS k t x e).rf ≤ n := by rw [(setS_ac V k t x e).2.2.1]; exact h
theorem setS_rle2 {V : Vl} {k : Nat} {t : Nat → Int} {x : VSl} {e : VE} (h : 19900 ≤ 209715200 - V.rf) : 19900 ≤ 209715200 - (V.setS k t x e).rf := by rw [(setS_ac V k t x e).2.2.1]; exact h
theorem setS_h0 {V : Vl} {k : Nat} {t : Nat → Int} {x : VSl} {e : VE} {a : List Nat} (h : V.ix a = 0) : (V.setS k t x e).ix a = 0 := by unfold Vl.ix; rw [(setS_ac V k t x e).1]; exact h
theorem setS_h1 {V : Vl} {k : Nat} {t : Nat → Int} {x : VSl} {e : VE} (h : 0 < V.ac.length) : 0 < (V.setS k t x e).ac.length := by rw [(setS_ac V k t x e).1]; exact h
theorem setS_ix (V : Vl) (k : Nat) (t : Nat → Int) (x : VSl) (e : VE) (a : List Nat) : (V.setS k t x e).ix a = V.ix a ∧ (V.setS k t x e).ac.length = V.ac.length := by
  unfold Vl.ix; rw [(setS_ac V k t x e).1]; exact ⟨rfl, rfl⟩
/-- mach.Machine.OpStorage, 85, the slot is warm, case A -/
theorem mSs85wA {I : Ent → Prop} {R G : List Ent} {cb sz pc gas : Nat} {T : TypeId} {c : Nat → Value} {K : YK} {V : Vl} {s : List Nat} (hV : VI I c V G) (hO : VOk V) (h0 : V.ix K.self = 0) (h1 : 0 < V.ac.length) (hor : (V.slt (argN s 0)).orig = 0) (hsz : 27019 ≤ sz) (hK : MK I cb c K) (hM : MV c pc gas s) (hpb : pc + 1 < 60000) (ho : K.code.getD pc 0 = 85) (hs2 : 2 ≤ s.length) (hw : (V.slt (argN s 0)).warm = true) (hroom : V.sl.length < 1980) (hj : V.jr.length < 59980) (hq : argN s 1 = (V.slt (argN s 0)).val) :
    CallG Hvaf.prog 208 #[ptr cb 0] ⟨I, ⟨cb, sz, T, c⟩ :: (R ++ G)⟩ (SetP I (R ++ G) cb sz T c (pc + 1) gas (s.take (s.length - 2))) := by
  have hsz' : 2435 ≤ sz := by omega
  have hrn := mRunning (I := I) (G := R ++ G) (cb := cb) (T := T) hsz' hK
  have hmS := hK.mS
  have hrow := hK.fself
  have hA := hK.kb.kself
  have hwl : (bvs K.self).length = 20 := by rw [bvs_len]; exact hA.len
  have hfit : 1812 + 20 ≤ sz := by omega
  have ha0 := mArg (I := I) (G := R ++ G) (cb := cb) (T := T) (i := 0) hsz' hK.fsb hM (by decide)
  have hb0 : argN s 0 < 115792089237316195423570985008687907853269984665640564039457584007913129639936 := argN_lt hM.sb
  have hpk := vPeek (R := R) (cb := cb) (T := T) hsz hV hO hA h0 h1 hb0
  rw [hor] at hpk
  have hlt : (V.slt (argN s 0)).val < 115792089237316195423570985008687907853269984665640564039457584007913129639936 := Vl.slt_lt hO _
  rw [hw] at hpk
  have hb1 : argN s 1 < 115792089237316195423570985008687907853269984665640564039457584007913129639936 := argN_lt hM.sb
  have hop := fun c1 G1 (h : Out c c1) => mOpcode (I := I) (G := R ++ G1) (cb := cb) (T := T) hsz' (hK.out h) (hM.out h)
  rw [ho] at hop
  have ha1 := fun c1 G1 (h : Out c c1) => mArg (I := I) (G := R ++ G1) (cb := cb) (T := T) (i := 1) hsz' (hK.out h).fsb (hM.out h) (by decide)
  have hse := fun c1 G1 (h : Out c c1) => mSettleN (I := I) (G := R ++ G1) (cb := cb) (T := T) (t := 2) (step := 1) (ws := [.int .u64 0, .int .u64 0, .int .u64 0, .int .u64 0]) hsz' (hM.out h) hs2 hpb rfl
  have hss := fun S => mSstore (S := S) (cold := false) hlt hb1
  rw [sst_A hq] at hss
  have hne : (!decide (wl (argN s 1) = wl (V.slt (argN s 0)).val)) = false := by rw [wlT hb1 hlt hq]; rfl
  generalize s.take (s.length - 2) = s' at *
  generalize (V.slt (argN s 0)).val = w at *
  generalize argN s 1 = a1 at *
  generalize argN s 0 = a0 at *
  have hrd2 : ∀ y : Ent, Rd ⟨I, y :: ⟨cb, sz, T, c⟩ :: (R ++ G)⟩ ⟨cb, sz, T, c⟩ := fun y => .inr (List.mem_cons_of_mem _ List.mem_cons_self)
  have hrd4 : ∀ x y z : Ent, Rd ⟨I, x :: y :: z :: ⟨cb, sz, T, c⟩ :: (R ++ G)⟩ ⟨cb, sz, T, c⟩ := fun x y z => .inr (by simp)
  refine CallG.start (C := mkC Hvaf.prog) cok (args := [ptr cb 0]) Hvaf.func208 rfl Hvaf.ntmps208 (by simp) (by kernel_rfl) ?_
  skip
  refine CallG.sameL [] hrn ?_
  repeat (first | refine SeqS.go cok ?_ | refine CondS.f rfl ?_)
  refine CallG.sameL [] ha0 ?_
  intro x1
  repeat (first | (refine QuG.keep ?_; refine QuG.rowE cok hrow (hrd2 _) rfl rfl rfl rfl rfl hwl hfit ?_) | (refine QuG.keep ?_; first | refine QuG.l1E cok 1 rfl rfl rfl rfl rfl (by first | exact Nat.le_of_ble_eq_true rfl | omega | (dsimp only; omega) | (simp only [addS_eq, mulS_eq]; omega)) (by assumption) ?_) | refine SeqS.go cok ?_ | (refine QuG.keep ?_; first | refine QuG.lN cok 0 rfl rfl rfl rfl rfl (by first | exact Nat.le_of_ble_eq_true rfl | omega | (dsimp only; omega) | (simp only [addS_eq, mulS_eq]; omega)) ?_) | (refine OpG.keep ?_; first | refine OpG.sL cok 0 rfl rfl rfl rfl rfl rfl rfl (by first | exact Nat.le_of_ble_eq_true rfl | omega | (dsimp only; omega) | (simp only [addS_eq, mulS_eq]; omega)) ?_) | refine W.drawI 3 cok [0, 1, 3, 7, 0, 16, 48, 112, 0, 511, 1023, 2047, 2047, 2047, 0, 0, 53247, 122879, 262143] [0, 1, 2, 3, 4, 5, 6, 7, 8, 9, 10, 11, 12, 13, 14, 15, 16, 17, 18] [3, 7, 8] (by kernel_rfl) (by kernel_rfl) ?_)
  refine CallG.sameL [_] hpk ?_
  repeat (first | (refine still_in ?_; first | refine still_nil ?_ | refine still_drop (by decide) ?_))
  intro x2 x3
  repeat (first | refine SeqS.go cok ?_ | refine GuardS.no rfl ?_ | refine CondS.f rfl ?_ | (refine still_in ?_; first | refine still_nil ?_ | refine still_drop (by decide) ?_) | (refine OpG.keep ?_; first | refine OpG.sL cok 0 rfl rfl rfl rfl rfl rfl rfl (by first | exact Nat.le_of_ble_eq_true rfl | omega | (dsimp only; omega) | (simp only [addS_eq, mulS_eq]; omega)) ?_ | refine OpG.sL cok 1 rfl rfl rfl rfl rfl rfl rfl (by first | exact Nat.le_of_ble_eq_true rfl | omega | (dsimp only; omega) | (simp only [addS_eq, mulS_eq]; omega)) ?_) | refine W.drawI 4 cok [0, 1, 3, 7, 15, 31, 63, 7, 135, 391, 903, 7, 4095, 8191, 16383] [0, 1, 2, 3, 4, 5, 6, 7, 8, 9, 10, 11, 12, 13, 14] [6, 10, 11] (by kernel_rfl) (by kernel_rfl) ?_)
  refine CallG.sameL [_, _, _] (hop c G (out_refl c)) ?_
  repeat (first | refine SeqS.go cok ?_ | refine CondS.f rfl ?_)
  refine CallG.sameL [_, _, _] (ha1 c G (out_refl c)) ?_
  intro x4
  repeat (first | refine SeqS.go cok ?_ | (refine QuG.keep ?_; first | refine QuG.lN cok 0 rfl rfl rfl rfl rfl (by first | exact Nat.le_of_ble_eq_true rfl | omega | (dsimp only; omega) | (simp only [addS_eq, mulS_eq]; omega)) ?_ | refine QuG.lN cok 1 rfl rfl rfl rfl rfl (by first | exact Nat.le_of_ble_eq_true rfl | omega | (dsimp only; omega) | (simp only [addS_eq, mulS_eq]; omega)) ?_ | refine QuG.lN cok 2 rfl rfl rfl rfl rfl (by first | exact Nat.le_of_ble_eq_true rfl | omega | (dsimp only; omega) | (simp only [addS_eq, mulS_eq]; omega)) ?_) | (refine OpG.keep ?_; first | refine OpG.sL cok 0 rfl rfl rfl rfl rfl rfl rfl (by first | exact Nat.le_of_ble_eq_true rfl | omega | (dsimp only; omega) | (simp only [addS_eq, mulS_eq]; omega)) ?_))
  refine (hss _).mono ?_
  rintro r _ - ⟨rfl, rfl⟩
  repeat (first | (refine QuG.keep ?_; refine QuG.neV cok (xs := wl a1) (ys := wl w) hne .u64 rfl rfl rfl rfl rfl (by decide +kernel) rfl rfl rfl rfl ?_) | refine SeqS.go cok ?_ | refine GuardS.yes rfl ?_ | refine GuardS.no rfl ?_ | refine CondS.f rfl ?_ | refine And.intro (fillOk_of (Eq.refl true)) ?_ | (refine QuG.keep ?_; first | refine QuG.lN cok 0 rfl rfl rfl rfl rfl (by first | exact Nat.le_of_ble_eq_true rfl | omega | (dsimp only; omega) | (simp only [addS_eq, mulS_eq]; omega)) ?_ | refine QuG.lN cok 2 rfl rfl rfl rfl rfl (by first | exact Nat.le_of_ble_eq_true rfl | omega | (dsimp only; omega) | (simp only [addS_eq, mulS_eq]; omega)) ?_) | refine W.drawI 10 cok [0, 0, 3, 7, 15, 31, 63, 127, 15, 271, 783, 1807, 15, 15, 16383, 32767, 65535, 131071, 262143, 524287, 1048575, 2097151, 4194303, 8388607, 16777215, 2097151, 67108863, 134217727, 268435455, 536870911, 1073741823, 2147483647, 4294967295, 8589934591, 17179869183, 34359738367, 68719476735, 137438953471, 17179869183, 549755813887, 1099511627775, 2199023255551, 4398046511103] [0, 1, 2, 3, 4, 5, 6, 7, 8, 9, 10, 11, 12, 13, 14, 15, 16, 17, 18, 19, 20, 21, 22, 23, 24, 25, 26, 27, 28, 29, 30, 31, 32, 33, 34, 35, 36, 37, 38, 39, 40, 41, 42] [0, 1, 7, 11, 12, 13, 24, 37] (by kernel_rfl) (by kernel_rfl) ?_)
  refine CallG.behind [_, _, _, _] (hse c G (out_refl c)) ?_
  rintro r J G1 hs ⟨c', hS, k1, k2⟩
  cases hS
  skip
  exact Fin.drop (⟨cb, sz, T, c'⟩ :: (R ++ G)) [_, _, _, _] ⟨c', rfl, k1, k2⟩
/-- mach.Machine.OpStorage, 85, the slot is warm, case B -/
theorem mSs85wB {I : Ent → Prop} {R G : List Ent} {cb sz pc gas : Nat} {T : TypeId} {c : Nat → Value} {K : YK} {V : Vl} {s : List Nat} (hV : VI I c V G) (hO : VOk V) (h0 : V.ix K.self = 0) (h1 : 0 < V.ac.length) (hor : (V.slt (argN s 0)).orig = 0) (hsz : 27019 ≤ sz) (hK : MK I cb c K) (hM : MV c pc gas s) (hpb : pc + 1 < 60000) (ho : K.code.getD pc 0 = 85) (hs2 : 2 ≤ s.length) (hw : (V.slt (argN s 0)).warm = true) (hroom : V.sl.length < 1980) (hj : V.jr.length < 59980) (hq : argN s 1 ≠ (V.slt (argN s 0)).val) (hup : (sstN 0 (V.slt (argN s 0)).val (argN s 1) false).2 = (0, 0)) :
    CallG Hvaf.prog 208 #[ptr cb 0] ⟨I, ⟨cb, sz, T, c⟩ :: (R ++ G)⟩ (SetV I R cb sz T c (pc + 1) gas (s.take (s.length - 2)) fun V' => ∃ V1 t2, V1 = V ∧ V' = V1.setS (argN s 0) t2 { V1.slt' (argN s 0) with val := argN s 1 } ⟨3, V1.is (argN s 0), 0, (V1.slt' (argN s 0)).val, false⟩) := by
  have hsz' : 2435 ≤ sz := by omega
  have hrn := mRunning (I := I) (G := R ++ G) (cb := cb) (T := T) hsz' hK
  have hmS := hK.mS
  have hrow := hK.fself
  have hA := hK.kb.kself
  have hwl : (bvs K.self).length = 20 := by rw [bvs_len]; exact hA.len
  have hfit : 1812 + 20 ≤ sz := by omega
  have ha0 := mArg (I := I) (G := R ++ G) (cb := cb) (T := T) (i := 0) hsz' hK.fsb hM (by decide)
  have hb0 : argN s 0 < 115792089237316195423570985008687907853269984665640564039457584007913129639936 := argN_lt hM.sb
  have hpk := vPeek (R := R) (cb := cb) (T := T) hsz hV hO hA h0 h1 hb0
  rw [hor] at hpk
  have hlt : (V.slt (argN s 0)).val < 115792089237316195423570985008687907853269984665640564039457584007913129639936 := Vl.slt_lt hO _
  rw [hw] at hpk
  have hb1 : argN s 1 < 115792089237316195423570985008687907853269984665640564039457584007913129639936 := argN_lt hM.sb
  have hop := fun c1 G1 (h : Out c c1) => mOpcode (I := I) (G := R ++ G1) (cb := cb) (T := T) hsz' (hK.out h) (hM.out h)
  rw [ho] at hop
  have ha1 := fun c1 G1 (h : Out c c1) => mArg (I := I) (G := R ++ G1) (cb := cb) (T := T) (i := 1) hsz' (hK.out h).fsb (hM.out h) (by decide)
  have hse := fun c1 G1 (h : Out c c1) => mSettleN (I := I) (G := R ++ G1) (cb := cb) (T := T) (t := 2) (step := 1) (ws := [.int .u64 0, .int .u64 0, .int .u64 0, .int .u64 0]) hsz' (hM.out h) hs2 hpb rfl
  have hss := fun S => mSstore (S := S) (cold := false) hlt hb1
  rw [hup] at hss
  generalize (sstN 0 (V.slt (argN s 0)).val (argN s 1) false).1 = cost at *
  have hne : (!decide (wl (argN s 1) = wl (V.slt (argN s 0)).val)) = true := by rw [wlF hb1 hlt hq]; rfl
  have hst := fun c1 G1 V1 (hV1 : VI I c1 V1 G1) (hO1 : VOk V1) (h0' : V1.ix K.self = 0) (h1' : 0 < V1.ac.length) (hr' : V1.sl.length < 1990) (hj' : V1.jr.length < 59990) => vStore (R := R) (cb := cb) (T := T) (v := argN s 1) hsz hV1 hO1 hA h0' h1' hb0 hr' hj' hb1
  simp only [wcs_word] at hst
  generalize s.take (s.length - 2) = s' at *
  generalize (V.slt (argN s 0)).val = w at *
  generalize argN s 1 = a1 at *
  generalize argN s 0 = a0 at *
  have hrd2 : ∀ y : Ent, Rd ⟨I, y :: ⟨cb, sz, T, c⟩ :: (R ++ G)⟩ ⟨cb, sz, T, c⟩ := fun y => .inr (List.mem_cons_of_mem _ List.mem_cons_self)
  have hrd4 : ∀ x y z : Ent, Rd ⟨I, x :: y :: z :: ⟨cb, sz, T, c⟩ :: (R ++ G)⟩ ⟨cb, sz, T, c⟩ := fun x y z => .inr (by simp)
  refine CallG.start (C := mkC Hvaf.prog) cok (args := [ptr cb 0]) Hvaf.func208 rfl Hvaf.ntmps208 (by simp) (by kernel_rfl) ?_
  skip
  refine CallG.sameL [] hrn ?_
  repeat (first | refine SeqS.go cok ?_ | refine CondS.f rfl ?_)
  refine CallG.sameL [] ha0 ?_
  intro x1
  repeat (first | (refine QuG.keep ?_; refine QuG.rowE cok hrow (hrd2 _) rfl rfl rfl rfl rfl hwl hfit ?_) | (refine QuG.keep ?_; first | refine QuG.l1E cok 1 rfl rfl rfl rfl rfl (by first | exact Nat.le_of_ble_eq_true rfl | omega | (dsimp only; omega) | (simp only [addS_eq, mulS_eq]; omega)) (by assumption) ?_) | refine SeqS.go cok ?_ | (refine QuG.keep ?_; first | refine QuG.lN cok 0 rfl rfl rfl rfl rfl (by first | exact Nat.le_of_ble_eq_true rfl | omega | (dsimp only; omega) | (simp only [addS_eq, mulS_eq]; omega)) ?_) | (refine OpG.keep ?_; first | refine OpG.sL cok 0 rfl rfl rfl rfl rfl rfl rfl (by first | exact Nat.le_of_ble_eq_true rfl | omega | (dsimp only; omega) | (simp only [addS_eq, mulS_eq]; omega)) ?_) | refine W.drawI 3 cok [0, 1, 3, 7, 0, 16, 48, 112, 0, 511, 1023, 2047, 2047, 2047, 0, 0, 53247, 122879, 262143] [0, 1, 2, 3, 4, 5, 6, 7, 8, 9, 10, 11, 12, 13, 14, 15, 16, 17, 18] [3, 7, 8] (by kernel_rfl) (by kernel_rfl) ?_)
  refine CallG.sameL [_] hpk ?_
  repeat (first | (refine still_in ?_; first | refine still_nil ?_ | refine still_drop (by decide) ?_))
  intro x2 x3
  repeat (first | refine SeqS.go cok ?_ | refine GuardS.no rfl ?_ | refine CondS.f rfl ?_ | (refine still_in ?_; first | refine still_nil ?_ | refine still_drop (by decide) ?_) | (refine OpG.keep ?_; first | refine OpG.sL cok 0 rfl rfl rfl rfl rfl rfl rfl (by first | exact Nat.le_of_ble_eq_true rfl | omega | (dsimp only; omega) | (simp only [addS_eq, mulS_eq]; omega)) ?_ | refine OpG.sL cok 1 rfl rfl rfl rfl rfl rfl rfl (by first | exact Nat.le_of_ble_eq_true rfl | omega | (dsimp only; omega) | (simp only [addS_eq, mulS_eq]; omega)) ?_) | refine W.drawI 4 cok [0, 1, 3, 7, 15, 31, 63, 7, 135, 391, 903, 7, 4095, 8191, 16383] [0, 1, 2, 3, 4, 5, 6, 7, 8, 9, 10, 11, 12, 13, 14] [6, 10, 11] (by kernel_rfl) (by kernel_rfl) ?_)
  refine CallG.sameL [_, _, _] (hop c G (out_refl c)) ?_
  repeat (first | refine SeqS.go cok ?_ | refine CondS.f rfl ?_)
  refine CallG.sameL [_, _, _] (ha1 c G (out_refl c)) ?_
  intro x4
  repeat (first | refine SeqS.go cok ?_ | (refine QuG.keep ?_; first | refine QuG.lN cok 0 rfl rfl rfl rfl rfl (by first | exact Nat.le_of_ble_eq_true rfl | omega | (dsimp only; omega) | (simp only [addS_eq, mulS_eq]; omega)) ?_ | refine QuG.lN cok 1 rfl rfl rfl rfl rfl (by first | exact Nat.le_of_ble_eq_true rfl | omega | (dsimp only; omega) | (simp only [addS_eq, mulS_eq]; omega)) ?_ | refine QuG.lN cok 2 rfl rfl rfl rfl rfl (by first | exact Nat.le_of_ble_eq_true rfl | omega | (dsimp only; omega) | (simp only [addS_eq, mulS_eq]; omega)) ?_) | (refine OpG.keep ?_; first | refine OpG.sL cok 0 rfl rfl rfl rfl rfl rfl rfl (by first | exact Nat.le_of_ble_eq_true rfl | omega | (dsimp only; omega) | (simp only [addS_eq, mulS_eq]; omega)) ?_))
  refine (hss _).mono ?_
  rintro r _ - ⟨rfl, rfl⟩
  have hrow1 := (hK.out (out_refl c)).fself
  have hmS1 := (hK.out (out_refl c)).mS
  have hrd5 : ∀ x y z w : Ent, Rd ⟨I, x :: y :: z :: w :: ⟨cb, sz, T, c⟩ :: (R ++ G)⟩ ⟨cb, sz, T, c⟩ := fun x y z w => .inr (by simp)
  repeat (first | (refine QuG.keep ?_; refine QuG.neV cok (xs := wl a1) (ys := wl w) hne .u64 rfl rfl rfl rfl rfl (by decide +kernel) rfl rfl rfl rfl ?_) | (refine QuG.keep ?_; refine QuG.rowE cok hrow1 (hrd5 _ _ _ _) rfl rfl rfl rfl rfl hwl hfit ?_) | (refine QuG.keep ?_; first | refine QuG.l1E cok 4 rfl rfl rfl rfl rfl (by first | exact Nat.le_of_ble_eq_true rfl | omega | (dsimp only; omega) | (simp only [addS_eq, mulS_eq]; omega)) (by assumption) ?_) | refine SeqS.go cok ?_ | refine GuardS.yes rfl ?_ | (refine QuG.keep ?_; first | refine QuG.lN cok 0 rfl rfl rfl rfl rfl (by first | exact Nat.le_of_ble_eq_true rfl | omega | (dsimp only; omega) | (simp only [addS_eq, mulS_eq]; omega)) ?_ | refine QuG.lN cok 2 rfl rfl rfl rfl rfl (by first | exact Nat.le_of_ble_eq_true rfl | omega | (dsimp only; omega) | (simp only [addS_eq, mulS_eq]; omega)) ?_ | refine QuG.lN cok 3 rfl rfl rfl rfl rfl (by first | exact Nat.le_of_ble_eq_true rfl | omega | (dsimp only; omega) | (simp only [addS_eq, mulS_eq]; omega)) ?_) | refine W.drawI 10 cok [0, 0, 3, 7, 15, 31, 63, 127, 15, 271, 783, 1807, 15, 15, 16383, 32767, 65535, 131071, 262143, 524287, 1048575, 2097151, 4194303, 8388607, 16777215, 2097151, 67108863, 134217727, 268435455, 536870911, 1073741823, 2147483647, 4294967295, 8589934591, 17179869183, 34359738367, 68719476735, 137438953471, 17179869183, 549755813887, 1099511627775, 2199023255551, 4398046511103] [0, 1, 2, 3, 4, 5, 6, 7, 8, 9, 10, 11, 12, 13, 14, 15, 16, 17, 18, 19, 20, 21, 22, 23, 24, 25, 26, 27, 28, 29, 30, 31, 32, 33, 34, 35, 36, 37, 38, 39, 40, 41, 42] [0, 1, 7, 11, 12, 13, 24, 37] (by kernel_rfl) (by kernel_rfl) ?_)
  refine CallG.behind [_, _, _, _] (hst c G _ hV hO h0 h1 (by omega) (by omega)) ?_
  rintro r J G1 hs ⟨rfl, c2, G3, t2, hS, m1, m2, m3⟩
  cases hS
  repeat (first | refine SeqS.go cok ?_ | refine GuardS.yes rfl ?_ | refine GuardS.no rfl ?_ | refine CondS.f rfl ?_ | refine And.intro (fillOk_of (Eq.refl true)) ?_ | (refine still_in ?_; first | refine still_drop (by decide) ?_))
  refine CallG.behind [_, _, _, _] (hse c2 G3 m3) ?_
  rintro r J G1 hs ⟨c', hS, k1, k2⟩
  cases hS
  skip
  exact Fin.drop (⟨cb, sz, T, c'⟩ :: (R ++ G3)) [_, _, _, _] ⟨c', G3, _, rfl, k1, StkV.mk m3 k2, m1.stk k2, m2, _, t2, rfl, rfl⟩
/-- mach.Machine.OpStorage, 85, the slot is warm, case C -/
theorem mSs85wC {I : Ent → Prop} {R G : List Ent} {cb sz pc gas : Nat} {T : TypeId} {c : Nat → Value} {K : YK} {V : Vl} {s : List Nat} (hV : VI I c V G) (hO : VOk V) (h0 : V.ix K.self = 0) (h1 : 0 < V.ac.length) (hor : (V.slt (argN s 0)).orig = 0) (hsz : 27019 ≤ sz) (hK : MK I cb c K) (hM : MV c pc gas s) (hpb : pc + 1 < 60000) (ho : K.code.getD pc 0 = 85) (hs2 : 2 ≤ s.length) (hw : (V.slt (argN s 0)).warm = true) (hroom : V.sl.length < 1980) (hj : V.jr.length < 59980) (hq : argN s 1 ≠ (V.slt (argN s 0)).val) (hup : (sstN 0 (V.slt (argN s 0)).val (argN s 1) false).2 = (19900, 0)) (hrf : V.rf ≤ 209600000) :
    CallG Hvaf.prog 208 #[ptr cb 0] ⟨I, ⟨cb, sz, T, c⟩ :: (R ++ G)⟩ (SetV I R cb sz T c (pc + 1) gas (s.take (s.length - 2)) fun V' => ∃ V1 t2, V1 = V ∧ ∃ V2, V2 = V1.setS (argN s 0) t2 { V1.slt' (argN s 0) with val := argN s 1 } ⟨3, V1.is (argN s 0), 0, (V1.slt' (argN s 0)).val, false⟩ ∧ V' = { V2 with jr := V2.jr ++ [⟨6, 0, V2.rf, 0, false⟩], rf := V2.rf + 19900 }) := by
  have hsz' : 2435 ≤ sz := by omega
  have hrn := mRunning (I := I) (G := R ++ G) (cb := cb) (T := T) hsz' hK
  have hmS := hK.mS
  have hrow := hK.fself
  have hA := hK.kb.kself
  have hwl : (bvs K.self).length = 20 := by rw [bvs_len]; exact hA.len
  have hfit : 1812 + 20 ≤ sz := by omega
  have ha0 := mArg (I := I) (G := R ++ G) (cb := cb) (T := T) (i := 0) hsz' hK.fsb hM (by decide)
  have hb0 : argN s 0 < 115792089237316195423570985008687907853269984665640564039457584007913129639936 := argN_lt hM.sb
  have hpk := vPeek (R := R) (cb := cb) (T := T) hsz hV hO hA h0 h1 hb0
  rw [hor] at hpk
  have hlt : (V.slt (argN s 0)).val < 115792089237316195423570985008687907853269984665640564039457584007913129639936 := Vl.slt_lt hO _
  rw [hw] at hpk
  have hb1 : argN s 1 < 115792089237316195423570985008687907853269984665640564039457584007913129639936 := argN_lt hM.sb
  have hop := fun c1 G1 (h : Out c c1) => mOpcode (I := I) (G := R ++ G1) (cb := cb) (T := T) hsz' (hK.out h) (hM.out h)
  rw [ho] at hop
  have ha1 := fun c1 G1 (h : Out c c1) => mArg (I := I) (G := R ++ G1) (cb := cb) (T := T) (i := 1) hsz' (hK.out h).fsb (hM.out h) (by decide)
  have hse := fun c1 G1 (h : Out c c1) => mSettleN (I := I) (G := R ++ G1) (cb := cb) (T := T) (t := 2) (step := 1) (ws := [.int .u64 0, .int .u64 0, .int .u64 0, .int .u64 0]) hsz' (hM.out h) hs2 hpb rfl
  have hss := fun S => mSstore (S := S) (cold := false) hlt hb1
  rw [hup] at hss
  generalize (sstN 0 (V.slt (argN s 0)).val (argN s 1) false).1 = cost at *
  have hne : (!decide (wl (argN s 1) = wl (V.slt (argN s 0)).val)) = true := by rw [wlF hb1 hlt hq]; rfl
  have hst := fun c1 G1 V1 (hV1 : VI I c1 V1 G1) (hO1 : VOk V1) (h0' : V1.ix K.self = 0) (h1' : 0 < V1.ac.length) (hr' : V1.sl.length < 1990) (hj' : V1.jr.length < 59990) => vStore (R := R) (cb := cb) (T := T) (v := argN s 1) hsz hV1 hO1 hA h0' h1' hb0 hr' hj' hb1
  simp only [wcs_word] at hst
  have hru := fun c1 G1 V1 (hV1 : VI I c1 V1 G1) (hO1 : VOk V1) (hj' : V1.jr.length < 59990) (hr1 : V1.rf ≤ 209715200) (hr2 : 19900 ≤ 209715200 - V1.rf) => vRefundUp (R := R) (cb := cb) (T := T) (n := 19900) hsz hV1 hO1 hj' hr1 hr2
  generalize s.take (s.length - 2) = s' at *
  generalize (V.slt (argN s 0)).val = w at *
  generalize argN s 1 = a1 at *
  generalize argN s 0 = a0 at *
  have hrd2 : ∀ y : Ent, Rd ⟨I, y :: ⟨cb, sz, T, c⟩ :: (R ++ G)⟩ ⟨cb, sz, T, c⟩ := fun y => .inr (List.mem_cons_of_mem _ List.mem_cons_self)
  have hrd4 : ∀ x y z : Ent, Rd ⟨I, x :: y :: z :: ⟨cb, sz, T, c⟩ :: (R ++ G)⟩ ⟨cb, sz, T, c⟩ := fun x y z => .inr (by simp)
  refine CallG.start (C := mkC Hvaf.prog) cok (args := [ptr cb 0]) Hvaf.func208 rfl Hvaf.ntmps208 (by simp) (by kernel_rfl) ?_
  skip
  refine CallG.sameL [] hrn ?_
  repeat (first | refine SeqS.go cok ?_ | refine CondS.f rfl ?_)
  refine CallG.sameL [] ha0 ?_
  intro x1
  repeat (first | (refine QuG.keep ?_; refine QuG.rowE cok hrow (hrd2 _) rfl rfl rfl rfl rfl hwl hfit ?_) | (refine QuG.keep ?_; first | refine QuG.l1E cok 1 rfl rfl rfl rfl rfl (by first | exact Nat.le_of_ble_eq_true rfl | omega | (dsimp only; omega) | (simp only [addS_eq, mulS_eq]; omega)) (by assumption) ?_) | refine SeqS.go cok ?_ | (refine QuG.keep ?_; first | refine QuG.lN cok 0 rfl rfl rfl rfl rfl (by first | exact Nat.le_of_ble_eq_true rfl | omega | (dsimp only; omega) | (simp only [addS_eq, mulS_eq]; omega)) ?_) | (refine OpG.keep ?_; first | refine OpG.sL cok 0 rfl rfl rfl rfl rfl rfl rfl (by first | exact Nat.le_of_ble_eq_true rfl | omega | (dsimp only; omega) | (simp only [addS_eq, mulS_eq]; omega)) ?_) | refine W.drawI 3 cok [0, 1, 3, 7, 0, 16, 48, 112, 0, 511, 1023, 2047, 2047, 2047, 0, 0, 53247, 122879, 262143] [0, 1, 2, 3, 4, 5, 6, 7, 8, 9, 10, 11, 12, 13, 14, 15, 16, 17, 18] [3, 7, 8] (by kernel_rfl) (by kernel_rfl) ?_)
  refine CallG.sameL [_] hpk ?_
  repeat (first | (refine still_in ?_; first | refine still_nil ?_ | refine still_drop (by decide) ?_))
  intro x2 x3
  repeat (first | refine SeqS.go cok ?_ | refine GuardS.no rfl ?_ | refine CondS.f rfl ?_ | (refine still_in ?_; first | refine still_nil ?_ | refine still_drop (by decide) ?_) | (refine OpG.keep ?_; first | refine OpG.sL cok 0 rfl rfl rfl rfl rfl rfl rfl (by first | exact Nat.le_of_ble_eq_true rfl | omega | (dsimp only; omega) | (simp only [addS_eq, mulS_eq]; omega)) ?_ | refine OpG.sL cok 1 rfl rfl rfl rfl rfl rfl rfl (by first | exact Nat.le_of_ble_eq_true rfl | omega | (dsimp only; omega) | (simp only [addS_eq, mulS_eq]; omega)) ?_) | refine W.drawI 4 cok [0, 1, 3, 7, 15, 31, 63, 7, 135, 391, 903, 7, 4095, 8191, 16383] [0, 1, 2, 3, 4, 5, 6, 7, 8, 9, 10, 11, 12, 13, 14] [6, 10, 11] (by kernel_rfl) (by kernel_rfl) ?_)
  refine CallG.sameL [_, _, _] (hop c G (out_refl c)) ?_
  repeat (first | refine SeqS.go cok ?_ | refine CondS.f rfl ?_)
  refine CallG.sameL [_, _, _] (ha1 c G (out_refl c)) ?_
  intro x4
  repeat (first | refine SeqS.go cok ?_ | (refine QuG.keep ?_; first | refine QuG.lN cok 0 rfl rfl rfl rfl rfl (by first | exact Nat.le_of_ble_eq_true rfl | omega | (dsimp only; omega) | (simp only [addS_eq, mulS_eq]; omega)) ?_ | refine QuG.lN cok 1 rfl rfl rfl rfl rfl (by first | exact Nat.le_of_ble_eq_true rfl | omega | (dsimp only; omega) | (simp only [addS_eq, mulS_eq]; omega)) ?_ | refine QuG.lN cok 2 rfl rfl rfl rfl rfl (by first | exact Nat.le_of_ble_eq_true rfl | omega | (dsimp only; omega) | (simp only [addS_eq, mulS_eq]; omega)) ?_) | (refine OpG.keep ?_; first | refine OpG.sL cok 0 rfl rfl rfl rfl rfl rfl rfl (by first | exact Nat.le_of_ble_eq_true rfl | omega | (dsimp only; omega) | (simp only [addS_eq, mulS_eq]; omega)) ?_))
  refine (hss _).mono ?_
  rintro r _ - ⟨rfl, rfl⟩
  have hrow1 := (hK.out (out_refl c)).fself
  have hmS1 := (hK.out (out_refl c)).mS
  have hrd5 : ∀ x y z w : Ent, Rd ⟨I, x :: y :: z :: w :: ⟨cb, sz, T, c⟩ :: (R ++ G)⟩ ⟨cb, sz, T, c⟩ := fun x y z w => .inr (by simp)
  repeat (first | (refine QuG.keep ?_; refine QuG.neV cok (xs := wl a1) (ys := wl w) hne .u64 rfl rfl rfl rfl rfl (by decide +kernel) rfl rfl rfl rfl ?_) | (refine QuG.keep ?_; refine QuG.rowE cok hrow1 (hrd5 _ _ _ _) rfl rfl rfl rfl rfl hwl hfit ?_) | (refine QuG.keep ?_; first | refine QuG.l1E cok 4 rfl rfl rfl rfl rfl (by first | exact Nat.le_of_ble_eq_true rfl | omega | (dsimp only; omega) | (simp only [addS_eq, mulS_eq]; omega)) (by assumption) ?_) | refine SeqS.go cok ?_ | refine GuardS.yes rfl ?_ | (refine QuG.keep ?_; first | refine QuG.lN cok 0 rfl rfl rfl rfl rfl (by first | exact Nat.le_of_ble_eq_true rfl | omega | (dsimp only; omega) | (simp only [addS_eq, mulS_eq]; omega)) ?_ | refine QuG.lN cok 2 rfl rfl rfl rfl rfl (by first | exact Nat.le_of_ble_eq_true rfl | omega | (dsimp only; omega) | (simp only [addS_eq, mulS_eq]; omega)) ?_ | refine QuG.lN cok 3 rfl rfl rfl rfl rfl (by first | exact Nat.le_of_ble_eq_true rfl | omega | (dsimp only; omega) | (simp only [addS_eq, mulS_eq]; omega)) ?_) | refine W.drawI 10 cok [0, 0, 3, 7, 15, 31, 63, 127, 15, 271, 783, 1807, 15, 15, 16383, 32767, 65535, 131071, 262143, 524287, 1048575, 2097151, 4194303, 8388607, 16777215, 2097151, 67108863, 134217727, 268435455, 536870911, 1073741823, 2147483647, 4294967295, 8589934591, 17179869183, 34359738367, 68719476735, 137438953471, 17179869183, 549755813887, 1099511627775, 2199023255551, 4398046511103] [0, 1, 2, 3, 4, 5, 6, 7, 8, 9, 10, 11, 12, 13, 14, 15, 16, 17, 18, 19, 20, 21, 22, 23, 24, 25, 26, 27, 28, 29, 30, 31, 32, 33, 34, 35, 36, 37, 38, 39, 40, 41, 42] [0, 1, 7, 11, 12, 13, 24, 37] (by kernel_rfl) (by kernel_rfl) ?_)
  refine CallG.behind [_, _, _, _] (hst c G _ hV hO h0 h1 (by omega) (by omega)) ?_
  rintro r J G1 hs ⟨rfl, c2, G3, t2, hS, m1, m2, m3⟩
  cases hS
  have hmS2 := (hK.out m3).mS
  repeat (first | (refine QuG.keep ?_; first | refine QuG.l1E cok 4 rfl rfl rfl rfl rfl (by first | exact Nat.le_of_ble_eq_true rfl | omega | (dsimp only; omega) | (simp only [addS_eq, mulS_eq]; omega)) (by assumption) ?_) | refine GuardS.yes rfl ?_ | refine GuardS.no rfl ?_ | (refine still_in ?_; first | refine still_drop (by decide) ?_))
  refine CallG.behind [_, _, _, _] (hru c2 G3 _ m1 m2 (setS_jlt (by omega)) (setS_rle (by omega)) (setS_rle2 (by omega))) ?_
  rintro r J G1 hs ⟨rfl, c3, G4, hS, n1, n2, n3⟩
  cases hS
  repeat (first | refine SeqS.go cok ?_ | refine GuardS.yes rfl ?_ | refine CondS.f rfl ?_ | refine And.intro (fillOk_of (Eq.refl true)) ?_ | (refine still_in ?_; first | refine still_drop (by decide) ?_))
  refine CallG.behind [_, _, _, _] (hse c3 G4 (out_trans m3 n3)) ?_
  rintro r J G1 hs ⟨c', hS, k1, k2⟩
  cases hS
  skip
  exact Fin.drop (⟨cb, sz, T, c'⟩ :: (R ++ G4)) [_, _, _, _] ⟨c', G4, _, rfl, k1, StkV.mk (out_trans m3 n3) k2, n1.stk k2, n2, _, t2, rfl, _, rfl, rfl⟩
/-- mach.Machine.OpStorage, 85, the slot is cold, case A -/
theorem mSs85cA {I : Ent → Prop} {R G : List Ent} {cb sz pc gas : Nat} {T : TypeId} {c : Nat → Value} {K : YK} {V : Vl} {s : List Nat} (hV : VI I c V G) (hO : VOk V) (h0 : V.ix K.self = 0) (h1 : 0 < V.ac.length) (hor : (V.slt (argN s 0)).orig = 0) (hsz : 27019 ≤ sz) (hK : MK I cb c K) (hM : MV c pc gas s) (hpb : pc + 1 < 60000) (ho : K.code.getD pc 0 = 85) (hs2 : 2 ≤ s.length) (hw : (V.slt (argN s 0)).warm = false) (hroom : V.sl.length < 1980) (hj : V.jr.length < 59980) (hq : argN s 1 = (V.slt (argN s 0)).val) :
    CallG Hvaf.prog 208 #[ptr cb 0] ⟨I, ⟨cb, sz, T, c⟩ :: (R ++ G)⟩ (SetV I R cb sz T c (pc + 1) gas (s.take (s.length - 2)) fun V' => ∃ t, V' = V.setS (argN s 0) t { V.slt' (argN s 0) with warm := true } ⟨5, V.is (argN s 0), 0, 0, (V.slt' (argN s 0)).warm⟩) := by
  have hsz' : 2435 ≤ sz := by omega
  have hrn := mRunning (I := I) (G := R ++ G) (cb := cb) (T := T) hsz' hK
  have hmS := hK.mS
  have hrow := hK.fself
  have hA := hK.kb.kself
  have hwl : (bvs K.self).length = 20 := by rw [bvs_len]; exact hA.len
  have hfit : 1812 + 20 ≤ sz := by omega
  have ha0 := mArg (I := I) (G := R ++ G) (cb := cb) (T := T) (i := 0) hsz' hK.fsb hM (by decide)
  have hb0 : argN s 0 < 115792089237316195423570985008687907853269984665640564039457584007913129639936 := argN_lt hM.sb
  have hpk := vPeek (R := R) (cb := cb) (T := T) hsz hV hO hA h0 h1 hb0
  rw [hor] at hpk
  have hlt : (V.slt (argN s 0)).val < 115792089237316195423570985008687907853269984665640564039457584007913129639936 := Vl.slt_lt hO _
  rw [hw] at hpk
  have hb1 : argN s 1 < 115792089237316195423570985008687907853269984665640564039457584007913129639936 := argN_lt hM.sb
  have hop := fun c1 G1 (h : Out c c1) => mOpcode (I := I) (G := R ++ G1) (cb := cb) (T := T) hsz' (hK.out h) (hM.out h)
  rw [ho] at hop
  have ha1 := fun c1 G1 (h : Out c c1) => mArg (I := I) (G := R ++ G1) (cb := cb) (T := T) (i := 1) hsz' (hK.out h).fsb (hM.out h) (by decide)
  have hse := fun c1 G1 (h : Out c c1) => mSettleN (I := I) (G := R ++ G1) (cb := cb) (T := T) (t := 2) (step := 1) (ws := [.int .u64 0, .int .u64 0, .int .u64 0, .int .u64 0]) hsz' (hM.out h) hs2 hpb rfl
  have hss := fun S => mSstore (S := S) (cold := true) hlt hb1
  have hws := vWarmSlot (R := R) (cb := cb) (T := T) hsz hV hO hA h0 h1 hb0 (by omega) (by omega)
  rw [wcs_word] at hws
  rw [sst_A hq] at hss
  have hne : (!decide (wl (argN s 1) = wl (V.slt (argN s 0)).val)) = false := by rw [wlT hb1 hlt hq]; rfl
  generalize s.take (s.length - 2) = s' at *
  generalize (V.slt (argN s 0)).val = w at *
  generalize argN s 1 = a1 at *
  generalize argN s 0 = a0 at *
  have hrd2 : ∀ y : Ent, Rd ⟨I, y :: ⟨cb, sz, T, c⟩ :: (R ++ G)⟩ ⟨cb, sz, T, c⟩ := fun y => .inr (List.mem_cons_of_mem _ List.mem_cons_self)
  have hrd4 : ∀ x y z : Ent, Rd ⟨I, x :: y :: z :: ⟨cb, sz, T, c⟩ :: (R ++ G)⟩ ⟨cb, sz, T, c⟩ := fun x y z => .inr (by simp)
  refine CallG.start (C := mkC Hvaf.prog) cok (args := [ptr cb 0]) Hvaf.func208 rfl Hvaf.ntmps208 (by simp) (by kernel_rfl) ?_
  skip
  refine CallG.sameL [] hrn ?_
  repeat (first | refine SeqS.go cok ?_ | refine CondS.f rfl ?_)
  refine CallG.sameL [] ha0 ?_
  intro x1
  repeat (first | (refine QuG.keep ?_; refine QuG.rowE cok hrow (hrd2 _) rfl rfl rfl rfl rfl hwl hfit ?_) | (refine QuG.keep ?_; first | refine QuG.l1E cok 1 rfl rfl rfl rfl rfl (by first | exact Nat.le_of_ble_eq_true rfl | omega | (dsimp only; omega) | (simp only [addS_eq, mulS_eq]; omega)) (by assumption) ?_) | refine SeqS.go cok ?_ | (refine QuG.keep ?_; first | refine QuG.lN cok 0 rfl rfl rfl rfl rfl (by first | exact Nat.le_of_ble_eq_true rfl | omega | (dsimp only; omega) | (simp only [addS_eq, mulS_eq]; omega)) ?_) | (refine OpG.keep ?_; first | refine OpG.sL cok 0 rfl rfl rfl rfl rfl rfl rfl (by first | exact Nat.le_of_ble_eq_true rfl | omega | (dsimp only; omega) | (simp only [addS_eq, mulS_eq]; omega)) ?_) | refine W.drawI 3 cok [0, 1, 3, 7, 0, 16, 48, 112, 0, 511, 1023, 2047, 2047, 2047, 0, 0, 53247, 122879, 262143] [0, 1, 2, 3, 4, 5, 6, 7, 8, 9, 10, 11, 12, 13, 14, 15, 16, 17, 18] [3, 7, 8] (by kernel_rfl) (by kernel_rfl) ?_)
  refine CallG.sameL [_] hpk ?_
  repeat (first | (refine still_in ?_; first | refine still_nil ?_ | refine still_drop (by decide) ?_))
  intro x2 x3
  repeat (first | (refine QuG.keep ?_; refine QuG.rowE cok hrow (hrd4 _ _ _) rfl rfl rfl rfl rfl hwl hfit ?_) | (refine QuG.keep ?_; first | refine QuG.l1E cok 3 rfl rfl rfl rfl rfl (by first | exact Nat.le_of_ble_eq_true rfl | omega | (dsimp only; omega) | (simp only [addS_eq, mulS_eq]; omega)) (by assumption) ?_) | refine SeqS.go cok ?_ | refine GuardS.yes rfl ?_ | (refine QuG.keep ?_; first | refine QuG.lN cok 2 rfl rfl rfl rfl rfl (by first | exact Nat.le_of_ble_eq_true rfl | omega | (dsimp only; omega) | (simp only [addS_eq, mulS_eq]; omega)) ?_) | (refine still_in ?_; first | refine still_nil ?_ | refine still_drop (by decide) ?_) | (refine OpG.keep ?_; first | refine OpG.sL cok 0 rfl rfl rfl rfl rfl rfl rfl (by first | exact Nat.le_of_ble_eq_true rfl | omega | (dsimp only; omega) | (simp only [addS_eq, mulS_eq]; omega)) ?_ | refine OpG.sL cok 1 rfl rfl rfl rfl rfl rfl rfl (by first | exact Nat.le_of_ble_eq_true rfl | omega | (dsimp only; omega) | (simp only [addS_eq, mulS_eq]; omega)) ?_) | refine W.drawI 4 cok [0, 1, 3, 7, 15, 31, 63, 7, 135, 391, 903, 7, 4095, 8191, 16383] [0, 1, 2, 3, 4, 5, 6, 7, 8, 9, 10, 11, 12, 13, 14] [6, 10, 11] (by kernel_rfl) (by kernel_rfl) ?_)
  refine CallG.behind [_, _, _] hws ?_
  rintro r J G1 hs ⟨rfl, c1, G2, t1, hS, g1, g2, g3⟩
  cases hS
  repeat (first | refine SeqS.go cok ?_ | refine GuardS.yes rfl ?_ | refine CondS.f rfl ?_ | (refine still_in ?_; first | refine still_drop (by decide) ?_))
  refine CallG.sameL [_, _, _] (hop c1 G2 g3) ?_
  repeat (first | refine SeqS.go cok ?_ | refine CondS.f rfl ?_)
  refine CallG.sameL [_, _, _] (ha1 c1 G2 g3) ?_
  intro x4
  repeat (first | refine SeqS.go cok ?_ | (refine QuG.keep ?_; first | refine QuG.lN cok 0 rfl rfl rfl rfl rfl (by first | exact Nat.le_of_ble_eq_true rfl | omega | (dsimp only; omega) | (simp only [addS_eq, mulS_eq]; omega)) ?_ | refine QuG.lN cok 1 rfl rfl rfl rfl rfl (by first | exact Nat.le_of_ble_eq_true rfl | omega | (dsimp only; omega) | (simp only [addS_eq, mulS_eq]; omega)) ?_ | refine QuG.lN cok 2 rfl rfl rfl rfl rfl (by first | exact Nat.le_of_ble_eq_true rfl | omega | (dsimp only; omega) | (simp only [addS_eq, mulS_eq]; omega)) ?_) | (refine OpG.keep ?_; first | refine OpG.sL cok 0 rfl rfl rfl rfl rfl rfl rfl (by first | exact Nat.le_of_ble_eq_true rfl | omega | (dsimp only; omega) | (simp only [addS_eq, mulS_eq]; omega)) ?_))
  refine (hss _).mono ?_
  rintro r _ - ⟨rfl, rfl⟩
  repeat (first | (refine QuG.keep ?_; refine QuG.neV cok (xs := wl a1) (ys := wl w) hne .u64 rfl rfl rfl rfl rfl (by decide +kernel) rfl rfl rfl rfl ?_) | refine SeqS.go cok ?_ | refine GuardS.yes rfl ?_ | refine GuardS.no rfl ?_ | refine CondS.f rfl ?_ | refine And.intro (fillOk_of (Eq.refl true)) ?_ | (refine QuG.keep ?_; first | refine QuG.lN cok 0 rfl rfl rfl rfl rfl (by first | exact Nat.le_of_ble_eq_true rfl | omega | (dsimp only; omega) | (simp only [addS_eq, mulS_eq]; omega)) ?_ | refine QuG.lN cok 2 rfl rfl rfl rfl rfl (by first | exact Nat.le_of_ble_eq_true rfl | omega | (dsimp only; omega) | (simp only [addS_eq, mulS_eq]; omega)) ?_) | refine W.drawI 10 cok [0, 0, 3, 7, 15, 31, 63, 127, 15, 271, 783, 1807, 15, 15, 16383, 32767, 65535, 131071, 262143, 524287, 1048575, 2097151, 4194303, 8388607, 16777215, 2097151, 67108863, 134217727, 268435455, 536870911, 1073741823, 2147483647, 4294967295, 8589934591, 17179869183, 34359738367, 68719476735, 137438953471, 17179869183, 549755813887, 1099511627775, 2199023255551, 4398046511103] [0, 1, 2, 3, 4, 5, 6, 7, 8, 9, 10, 11, 12, 13, 14, 15, 16, 17, 18, 19, 20, 21, 22, 23, 24, 25, 26, 27, 28, 29, 30, 31, 32, 33, 34, 35, 36, 37, 38, 39, 40, 41, 42] [0, 1, 7, 11, 12, 13, 24, 37] (by kernel_rfl) (by kernel_rfl) ?_)
  refine CallG.behind [_, _, _, _] (hse c1 G2 g3) ?_
  rintro r J G1 hs ⟨c', hS, k1, k2⟩
  cases hS
  skip
  exact Fin.drop (⟨cb, sz, T, c'⟩ :: (R ++ G2)) [_, _, _, _] ⟨c', G2, _, rfl, k1, StkV.mk g3 k2, g1.stk k2, g2, t1, rfl⟩
/-- mach.Machine.OpStorage, 85, the slot is cold, case B -/
theorem mSs85cB {I : Ent → Prop} {R G : List Ent} {cb sz pc gas : Nat} {T : TypeId} {c : Nat → Value} {K : YK} {V : Vl} {s : List Nat} (hV : VI I c V G) (hO : VOk V) (h0 : V.ix K.self = 0) (h1 : 0 < V.ac.length) (hor : (V.slt (argN s 0)).orig = 0) (hsz : 27019 ≤ sz) (hK : MK I cb c K) (hM : MV c pc gas s) (hpb : pc + 1 < 60000) (ho : K.code.getD pc 0 = 85) (hs2 : 2 ≤ s.length) (hw : (V.slt (argN s 0)).warm = false) (hroom : V.sl.length < 1980) (hj : V.jr.length < 59980) (hq : argN s 1 ≠ (V.slt (argN s 0)).val) (hup : (sstN 0 (V.slt (argN s 0)).val (argN s 1) true).2 = (0, 0)) :
    CallG Hvaf.prog 208 #[ptr cb 0] ⟨I, ⟨cb, sz, T, c⟩ :: (R ++ G)⟩ (SetV I R cb sz T c (pc + 1) gas (s.take (s.length - 2)) fun V' => ∃ t V1 t2, V1 = V.setS (argN s 0) t { V.slt' (argN s 0) with warm := true } ⟨5, V.is (argN s 0), 0, 0, (V.slt' (argN s 0)).warm⟩ ∧ V' = V1.setS (argN s 0) t2 { V1.slt' (argN s 0) with val := argN s 1 } ⟨3, V1.is (argN s 0), 0, (V1.slt' (argN s 0)).val, false⟩) := by
  have hsz' : 2435 ≤ sz := by omega
  have hrn := mRunning (I := I) (G := R ++ G) (cb := cb) (T := T) hsz' hK
  have hmS := hK.mS
  have hrow := hK.fself
  have hA := hK.kb.kself
  have hwl : (bvs K.self).length = 20 := by rw [bvs_len]; exact hA.len
  have hfit : 1812 + 20 ≤ sz := by omega
  have ha0 := mArg (I := I) (G := R ++ G) (cb := cb) (T := T) (i := 0) hsz' hK.fsb hM (by decide)
  have hb0 : argN s 0 < 115792089237316195423570985008687907853269984665640564039457584007913129639936 := argN_lt hM.sb
  have hpk := vPeek (R := R) (cb := cb) (T := T) hsz hV hO hA h0 h1 hb0
  rw [hor] at hpk
  have hlt : (V.slt (argN s 0)).val < 115792089237316195423570985008687907853269984665640564039457584007913129639936 := Vl.slt_lt hO _
  rw [hw] at hpk
  have hb1 : argN s 1 < 115792089237316195423570985008687907853269984665640564039457584007913129639936 := argN_lt hM.sb
  have hop := fun c1 G1 (h : Out c c1) => mOpcode (I := I) (G := R ++ G1) (cb := cb) (T := T) hsz' (hK.out h) (hM.out h)
  rw [ho] at hop
  have ha1 := fun c1 G1 (h : Out c c1) => mArg (I := I) (G := R ++ G1) (cb := cb) (T := T) (i := 1) hsz' (hK.out h).fsb (hM.out h) (by decide)
  have hse := fun c1 G1 (h : Out c c1) => mSettleN (I := I) (G := R ++ G1) (cb := cb) (T := T) (t := 2) (step := 1) (ws := [.int .u64 0, .int .u64 0, .int .u64 0, .int .u64 0]) hsz' (hM.out h) hs2 hpb rfl
  have hss := fun S => mSstore (S := S) (cold := true) hlt hb1
  have hws := vWarmSlot (R := R) (cb := cb) (T := T) hsz hV hO hA h0 h1 hb0 (by omega) (by omega)
  rw [wcs_word] at hws
  rw [hup] at hss
  generalize (sstN 0 (V.slt (argN s 0)).val (argN s 1) true).1 = cost at *
  have hne : (!decide (wl (argN s 1) = wl (V.slt (argN s 0)).val)) = true := by rw [wlF hb1 hlt hq]; rfl
  have hst := fun c1 G1 V1 (hV1 : VI I c1 V1 G1) (hO1 : VOk V1) (h0' : V1.ix K.self = 0) (h1' : 0 < V1.ac.length) (hr' : V1.sl.length < 1990) (hj' : V1.jr.length < 59990) => vStore (R := R) (cb := cb) (T := T) (v := argN s 1) hsz hV1 hO1 hA h0' h1' hb0 hr' hj' hb1
  simp only [wcs_word] at hst
  generalize s.take (s.length - 2) = s' at *
  generalize (V.slt (argN s 0)).val = w at *
  generalize argN s 1 = a1 at *
  generalize argN s 0 = a0 at *
  have hrd2 : ∀ y : Ent, Rd ⟨I, y :: ⟨cb, sz, T, c⟩ :: (R ++ G)⟩ ⟨cb, sz, T, c⟩ := fun y => .inr (List.mem_cons_of_mem _ List.mem_cons_self)
  have hrd4 : ∀ x y z : Ent, Rd ⟨I, x :: y :: z :: ⟨cb, sz, T, c⟩ :: (R ++ G)⟩ ⟨cb, sz, T, c⟩ := fun x y z => .inr (by simp)
  refine CallG.start (C := mkC Hvaf.prog) cok (args := [ptr cb 0]) Hvaf.func208 rfl Hvaf.ntmps208 (by simp) (by kernel_rfl) ?_
  skip
  refine CallG.sameL [] hrn ?_
  repeat (first | refine SeqS.go cok ?_ | refine CondS.f rfl ?_)
  refine CallG.sameL [] ha0 ?_
  intro x1
  repeat (first | (refine QuG.keep ?_; refine QuG.rowE cok hrow (hrd2 _) rfl rfl rfl rfl rfl hwl hfit ?_) | (refine QuG.keep ?_; first | refine QuG.l1E cok 1 rfl rfl rfl rfl rfl (by first | exact Nat.le_of_ble_eq_true rfl | omega | (dsimp only; omega) | (simp only [addS_eq, mulS_eq]; omega)) (by assumption) ?_) | refine SeqS.go cok ?_ | (refine QuG.keep ?_; first | refine QuG.lN cok 0 rfl rfl rfl rfl rfl (by first | exact Nat.le_of_ble_eq_true rfl | omega | (dsimp only; omega) | (simp only [addS_eq, mulS_eq]; omega)) ?_) | (refine OpG.keep ?_; first | refine OpG.sL cok 0 rfl rfl rfl rfl rfl rfl rfl (by first | exact Nat.le_of_ble_eq_true rfl | omega | (dsimp only; omega) | (simp only [addS_eq, mulS_eq]; omega)) ?_) | refine W.drawI 3 cok [0, 1, 3, 7, 0, 16, 48, 112, 0, 511, 1023, 2047, 2047, 2047, 0, 0, 53247, 122879, 262143] [0, 1, 2, 3, 4, 5, 6, 7, 8, 9, 10, 11, 12, 13, 14, 15, 16, 17, 18] [3, 7, 8] (by kernel_rfl) (by kernel_rfl) ?_)
  refine CallG.sameL [_] hpk ?_
  repeat (first | (refine still_in ?_; first | refine still_nil ?_ | refine still_drop (by decide) ?_))
  intro x2 x3
  repeat (first | (refine QuG.keep ?_; refine QuG.rowE cok hrow (hrd4 _ _ _) rfl rfl rfl rfl rfl hwl hfit ?_) | (refine QuG.keep ?_; first | refine QuG.l1E cok 3 rfl rfl rfl rfl rfl (by first | exact Nat.le_of_ble_eq_true rfl | omega | (dsimp only; omega) | (simp only [addS_eq, mulS_eq]; omega)) (by assumption) ?_) | refine SeqS.go cok ?_ | refine GuardS.yes rfl ?_ | (refine QuG.keep ?_; first | refine QuG.lN cok 2 rfl rfl rfl rfl rfl (by first | exact Nat.le_of_ble_eq_true rfl | omega | (dsimp only; omega) | (simp only [addS_eq, mulS_eq]; omega)) ?_) | (refine still_in ?_; first | refine still_nil ?_ | refine still_drop (by decide) ?_) | (refine OpG.keep ?_; first | refine OpG.sL cok 0 rfl rfl rfl rfl rfl rfl rfl (by first | exact Nat.le_of_ble_eq_true rfl | omega | (dsimp only; omega) | (simp only [addS_eq, mulS_eq]; omega)) ?_ | refine OpG.sL cok 1 rfl rfl rfl rfl rfl rfl rfl (by first | exact Nat.le_of_ble_eq_true rfl | omega | (dsimp only; omega) | (simp only [addS_eq, mulS_eq]; omega)) ?_) | refine W.drawI 4 cok [0, 1, 3, 7, 15, 31, 63, 7, 135, 391, 903, 7, 4095, 8191, 16383] [0, 1, 2, 3, 4, 5, 6, 7, 8, 9, 10, 11, 12, 13, 14] [6, 10, 11] (by kernel_rfl) (by kernel_rfl) ?_)
  refine CallG.behind [_, _, _] hws ?_
  rintro r J G1 hs ⟨rfl, c1, G2, t1, hS, g1, g2, g3⟩
  cases hS
  repeat (first | refine SeqS.go cok ?_ | refine GuardS.yes rfl ?_ | refine CondS.f rfl ?_ | (refine still_in ?_; first | refine still_drop (by decide) ?_))
  refine CallG.sameL [_, _, _] (hop c1 G2 g3) ?_
  repeat (first | refine SeqS.go cok ?_ | refine CondS.f rfl ?_)
  refine CallG.sameL [_, _, _] (ha1 c1 G2 g3) ?_
  intro x4
  repeat (first | refine SeqS.go cok ?_ | (refine QuG.keep ?_; first | refine QuG.lN cok 0 rfl rfl rfl rfl rfl (by first | exact Nat.le_of_ble_eq_true rfl | omega | (dsimp only; omega) | (simp only [addS_eq, mulS_eq]; omega)) ?_ | refine QuG.lN cok 1 rfl rfl rfl rfl rfl (by first | exact Nat.le_of_ble_eq_true rfl | omega | (dsimp only; omega) | (simp only [addS_eq, mulS_eq]; omega)) ?_ | refine QuG.lN cok 2 rfl rfl rfl rfl rfl (by first | exact Nat.le_of_ble_eq_true rfl | omega | (dsimp only; omega) | (simp only [addS_eq, mulS_eq]; omega)) ?_) | (refine OpG.keep ?_; first | refine OpG.sL cok 0 rfl rfl rfl rfl rfl rfl rfl (by first | exact Nat.le_of_ble_eq_true rfl | omega | (dsimp only; omega) | (simp only [addS_eq, mulS_eq]; omega)) ?_))
  refine (hss _).mono ?_
  rintro r _ - ⟨rfl, rfl⟩
  have hrow1 := (hK.out g3).fself
  have hmS1 := (hK.out g3).mS
  have hrd5 : ∀ x y z w : Ent, Rd ⟨I, x :: y :: z :: w :: ⟨cb, sz, T, c1⟩ :: (R ++ G2)⟩ ⟨cb, sz, T, c1⟩ := fun x y z w => .inr (by simp)
  repeat (first | (refine QuG.keep ?_; refine QuG.neV cok (xs := wl a1) (ys := wl w) hne .u64 rfl rfl rfl rfl rfl (by decide +kernel) rfl rfl rfl rfl ?_) | (refine QuG.keep ?_; refine QuG.rowE cok hrow1 (hrd5 _ _ _ _) rfl rfl rfl rfl rfl hwl hfit ?_) | (refine QuG.keep ?_; first | refine QuG.l1E cok 4 rfl rfl rfl rfl rfl (by first | exact Nat.le_of_ble_eq_true rfl | omega | (dsimp only; omega) | (simp only [addS_eq, mulS_eq]; omega)) (by assumption) ?_) | refine SeqS.go cok ?_ | refine GuardS.yes rfl ?_ | (refine QuG.keep ?_; first | refine QuG.lN cok 0 rfl rfl rfl rfl rfl (by first | exact Nat.le_of_ble_eq_true rfl | omega | (dsimp only; omega) | (simp only [addS_eq, mulS_eq]; omega)) ?_ | refine QuG.lN cok 2 rfl rfl rfl rfl rfl (by first | exact Nat.le_of_ble_eq_true rfl | omega | (dsimp only; omega) | (simp only [addS_eq, mulS_eq]; omega)) ?_ | refine QuG.lN cok 3 rfl rfl rfl rfl rfl (by first | exact Nat.le_of_ble_eq_true rfl | omega | (dsimp only; omega) | (simp only [addS_eq, mulS_eq]; omega)) ?_) | refine W.drawI 10 cok [0, 0, 3, 7, 15, 31, 63, 127, 15, 271, 783, 1807, 15, 15, 16383, 32767, 65535, 131071, 262143, 524287, 1048575, 2097151, 4194303, 8388607, 16777215, 2097151, 67108863, 134217727, 268435455, 536870911, 1073741823, 2147483647, 4294967295, 8589934591, 17179869183, 34359738367, 68719476735, 137438953471, 17179869183, 549755813887, 1099511627775, 2199023255551, 4398046511103] [0, 1, 2, 3, 4, 5, 6, 7, 8, 9, 10, 11, 12, 13, 14, 15, 16, 17, 18, 19, 20, 21, 22, 23, 24, 25, 26, 27, 28, 29, 30, 31, 32, 33, 34, 35, 36, 37, 38, 39, 40, 41, 42] [0, 1, 7, 11, 12, 13, 24, 37] (by kernel_rfl) (by kernel_rfl) ?_)
  refine CallG.behind [_, _, _, _] (hst c1 G2 _ g1 g2 (setS_h0 h0) (setS_h1 h1) (setS_sln (by omega)) (setS_jlt (by omega))) ?_
  rintro r J G1 hs ⟨rfl, c2, G3, t2, hS, m1, m2, m3⟩
  cases hS
  repeat (first | refine SeqS.go cok ?_ | refine GuardS.yes rfl ?_ | refine GuardS.no rfl ?_ | refine CondS.f rfl ?_ | refine And.intro (fillOk_of (Eq.refl true)) ?_ | (refine still_in ?_; first | refine still_drop (by decide) ?_))
  refine CallG.behind [_, _, _, _] (hse c2 G3 (out_trans g3 m3)) ?_
  rintro r J G1 hs ⟨c', hS, k1, k2⟩
  cases hS
  skip
  exact Fin.drop (⟨cb, sz, T, c'⟩ :: (R ++ G3)) [_, _, _, _] ⟨c', G3, _, rfl, k1, StkV.mk (out_trans g3 m3) k2, m1.stk k2, m2, t1, _, t2, rfl, rfl⟩
/-- mach.Machine.OpStorage, 85, the slot is cold, case C -/
theorem mSs85cC {I : Ent → Prop} {R G : List Ent} {cb sz pc gas : Nat} {T : TypeId} {c : Nat → Value} {K : YK} {V : Vl} {s : List Nat} (hV : VI I c V G) (hO : VOk V) (h0 : V.ix K.self = 0) (h1 : 0 < V.ac.length) (hor : (V.slt (argN s 0)).orig = 0) (hsz : 27019 ≤ sz) (hK : MK I cb c K) (hM : MV c pc gas s) (hpb : pc + 1 < 60000) (ho : K.code.getD pc 0 = 85) (hs2 : 2 ≤ s.length) (hw : (V.slt (argN s 0)).warm = false) (hroom : V.sl.length < 1980) (hj : V.jr.length < 59980) (hq : argN s 1 ≠ (V.slt (argN s 0)).val) (hup : (sstN 0 (V.slt (argN s 0)).val (argN s 1) true).2 = (19900, 0)) (hrf : V.rf ≤ 209600000) :
    CallG Hvaf.prog 208 #[ptr cb 0] ⟨I, ⟨cb, sz, T, c⟩ :: (R ++ G)⟩ (SetV I R cb sz T c (pc + 1) gas (s.take (s.length - 2)) fun V' => ∃ t V1 t2, V1 = V.setS (argN s 0) t { V.slt' (argN s 0) with warm := true } ⟨5, V.is (argN s 0), 0, 0, (V.slt' (argN s 0)).warm⟩ ∧ ∃ V2, V2 = V1.setS (argN s 0) t2 { V1.slt' (argN s 0) with val := argN s 1 } ⟨3, V1.is (argN s 0), 0, (V1.slt' (argN s 0)).val, false⟩ ∧ V' = { V2 with jr := V2.jr ++ [⟨6, 0, V2.rf, 0, false⟩], rf := V2.rf + 19900 }) := by
  have hsz' : 2435 ≤ sz := by omega
  have hrn := mRunning (I := I) (G := R ++ G) (cb := cb) (T := T) hsz' hK
  have hmS := hK.mS
  have hrow := hK.fself
  have hA := hK.kb.kself
  have hwl : (bvs K.self).length = 20 := by rw [bvs_len]; exact hA.len
  have hfit : 1812 + 20 ≤ sz := by omega
  have ha0 := mArg (I := I) (G := R ++ G) (cb := cb) (T := T) (i := 0) hsz' hK.fsb hM (by decide)
  have hb0 : argN s 0 < 115792089237316195423570985008687907853269984665640564039457584007913129639936 := argN_lt hM.sb
  have hpk := vPeek (R := R) (cb := cb) (T := T) hsz hV hO hA h0 h1 hb0
  rw [hor] at hpk
  have hlt : (V.slt (argN s 0)).val < 115792089237316195423570985008687907853269984665640564039457584007913129639936 := Vl.slt_lt hO _
  rw [hw] at hpk
  have hb1 : argN s 1 < 115792089237316195423570985008687907853269984665640564039457584007913129639936 := argN_lt hM.sb
  have hop := fun c1 G1 (h : Out c c1) => mOpcode (I := I) (G := R ++ G1) (cb := cb) (T := T) hsz' (hK.out h) (hM.out h)
  rw [ho] at hop
  have ha1 := fun c1 G1 (h : Out c c1) => mArg (I := I) (G := R ++ G1) (cb := cb) (T := T) (i := 1) hsz' (hK.out h).fsb (hM.out h) (by decide)
  have hse := fun c1 G1 (h : Out c c1) => mSettleN (I := I) (G := R ++ G1) (cb := cb) (T := T) (t := 2) (step := 1) (ws := [.int .u64 0, .int .u64 0, .int .u64 0, .int .u64 0]) hsz' (hM.out h) hs2 hpb rfl
  have hss := fun S => mSstore (S := S) (cold := true) hlt hb1
  have hws := vWarmSlot (R := R) (cb := cb) (T := T) hsz hV hO hA h0 h1 hb0 (by omega) (by omega)
  rw [wcs_word] at hws
  rw [hup] at hss
  generalize (sstN 0 (V.slt (argN s 0)).val (argN s 1) true).1 = cost at *
  have hne : (!decide (wl (argN s 1) = wl (V.slt (argN s 0)).val)) = true := by rw [wlF hb1 hlt hq]; rfl
  have hst := fun c1 G1 V1 (hV1 : VI I c1 V1 G1) (hO1 : VOk V1) (h0' : V1.ix K.self = 0) (h1' : 0 < V1.ac.length) (hr' : V1.sl.length < 1990) (hj' : V1.jr.length < 59990) => vStore (R := R) (cb := cb) (T := T) (v := argN s 1) hsz hV1 hO1 hA h0' h1' hb0 hr' hj' hb1
  simp only [wcs_word] at hst
  have hru := fun c1 G1 V1 (hV1 : VI I c1 V1 G1) (hO1 : VOk V1) (hj' : V1.jr.length < 59990) (hr1 : V1.rf ≤ 209715200) (hr2 : 19900 ≤ 209715200 - V1.rf) => vRefundUp (R := R) (cb := cb) (T := T) (n := 19900) hsz hV1 hO1 hj' hr1 hr2
  generalize s.take (s.length - 2) = s' at *
  generalize (V.slt (argN s 0)).val = w at *
  generalize argN s 1 = a1 at *
  generalize argN s 0 = a0 at *
  have hrd2 : ∀ y : Ent, Rd ⟨I, y :: ⟨cb, sz, T, c⟩ :: (R ++ G)⟩ ⟨cb, sz, T, c⟩ := fun y => .inr (List.mem_cons_of_mem _ List.mem_cons_self)
  have hrd4 : ∀ x y z : Ent, Rd ⟨I, x :: y :: z :: ⟨cb, sz, T, c⟩ :: (R ++ G)⟩ ⟨cb, sz, T, c⟩ := fun x y z => .inr (by simp)
  refine CallG.start (C := mkC Hvaf.prog) cok (args := [ptr cb 0]) Hvaf.func208 rfl Hvaf.ntmps208 (by simp) (by kernel_rfl) ?_
  skip
  refine CallG.sameL [] hrn ?_
  repeat (first | refine SeqS.go cok ?_ | refine CondS.f rfl ?_)
  refine CallG.sameL [] ha0 ?_
  intro x1
  repeat (first | (refine QuG.keep ?_; refine QuG.rowE cok hrow (hrd2 _) rfl rfl rfl rfl rfl hwl hfit ?_) | (refine QuG.keep ?_; first | refine QuG.l1E cok 1 rfl rfl rfl rfl rfl (by first | exact Nat.le_of_ble_eq_true rfl | omega | (dsimp only; omega) | (simp only [addS_eq, mulS_eq]; omega)) (by assumption) ?_) | refine SeqS.go cok ?_ | (refine QuG.keep ?_; first | refine QuG.lN cok 0 rfl rfl rfl rfl rfl (by first | exact Nat.le_of_ble_eq_true rfl | omega | (dsimp only; omega) | (simp only [addS_eq, mulS_eq]; omega)) ?_) | (refine OpG.keep ?_; first | refine OpG.sL cok 0 rfl rfl rfl rfl rfl rfl rfl (by first | exact Nat.le_of_ble_eq_true rfl | omega | (dsimp only; omega) | (simp only [addS_eq, mulS_eq]; omega)) ?_) | refine W.drawI 3 cok [0, 1, 3, 7, 0, 16, 48, 112, 0, 511, 1023, 2047, 2047, 2047, 0, 0, 53247, 122879, 262143] [0, 1, 2, 3, 4, 5, 6, 7, 8, 9, 10, 11, 12, 13, 14, 15, 16, 17, 18] [3, 7, 8] (by kernel_rfl) (by kernel_rfl) ?_)
  refine CallG.sameL [_] hpk ?_
  repeat (first | (refine still_in ?_; first | refine still_nil ?_ | refine still_drop (by decide) ?_))
  intro x2 x3
  repeat (first | (refine QuG.keep ?_; refine QuG.rowE cok hrow (hrd4 _ _ _) rfl rfl rfl rfl rfl hwl hfit ?_) | (refine QuG.keep ?_; first | refine QuG.l1E cok 3 rfl rfl rfl rfl rfl (by first | exact Nat.le_of_ble_eq_true rfl | omega | (dsimp only; omega) | (simp only [addS_eq, mulS_eq]; omega)) (by assumption) ?_) | refine SeqS.go cok ?_ | refine GuardS.yes rfl ?_ | (refine QuG.keep ?_; first | refine QuG.lN cok 2 rfl rfl rfl rfl rfl (by first | exact Nat.le_of_ble_eq_true rfl | omega | (dsimp only; omega) | (simp only [addS_eq, mulS_eq]; omega)) ?_) | (refine still_in ?_; first | refine still_nil ?_ | refine still_drop (by decide) ?_) | (refine OpG.keep ?_; first | refine OpG.sL cok 0 rfl rfl rfl rfl rfl rfl rfl (by first | exact Nat.le_of_ble_eq_true rfl | omega | (dsimp only; omega) | (simp only [addS_eq, mulS_eq]; omega)) ?_ | refine OpG.sL cok 1 rfl rfl rfl rfl rfl rfl rfl (by first | exact Nat.le_of_ble_eq_true rfl | omega | (dsimp only; omega) | (simp only [addS_eq, mulS_eq]; omega)) ?_) | refine W.drawI 4 cok [0, 1, 3, 7, 15, 31, 63, 7, 135, 391, 903, 7, 4095, 8191, 16383] [0, 1, 2, 3, 4, 5, 6, 7, 8, 9, 10, 11, 12, 13, 14] [6, 10, 11] (by kernel_rfl) (by kernel_rfl) ?_)
  refine CallG.behind [_, _, _] hws ?_
  rintro r J G1 hs ⟨rfl, c1, G2, t1, hS, g1, g2, g3⟩
  cases hS
  repeat (first | refine SeqS.go cok ?_ | refine GuardS.yes rfl ?_ | refine CondS.f rfl ?_ | (refine still_in ?_; first | refine still_drop (by decide) ?_))
  refine CallG.sameL [_, _, _] (hop c1 G2 g3) ?_
  repeat (first | refine SeqS.go cok ?_ | refine CondS.f rfl ?_)
  refine CallG.sameL [_, _, _] (ha1 c1 G2 g3) ?_
  intro x4
  repeat (first | refine SeqS.go cok ?_ | (refine QuG.keep ?_; first | refine QuG.lN cok 0 rfl rfl rfl rfl rfl (by first | exact Nat.le_of_ble_eq_true rfl | omega | (dsimp only; omega) | (simp only [addS_eq, mulS_eq]; omega)) ?_ | refine QuG.lN cok 1 rfl rfl rfl rfl rfl (by first | exact Nat.le_of_ble_eq_true rfl | omega | (dsimp only; omega) | (simp only [addS_eq, mulS_eq]; omega)) ?_ | refine QuG.lN cok 2 rfl rfl rfl rfl rfl (by first | exact Nat.le_of_ble_eq_true rfl | omega | (dsimp only; omega) | (simp only [addS_eq, mulS_eq]; omega)) ?_) | (refine OpG.keep ?_; first | refine OpG.sL cok 0 rfl rfl rfl rfl rfl rfl rfl (by first | exact Nat.le_of_ble_eq_true rfl | omega | (dsimp only; omega) | (simp only [addS_eq, mulS_eq]; omega)) ?_))
  refine (hss _).mono ?_
  rintro r _ - ⟨rfl, rfl⟩
  have hrow1 := (hK.out g3).fself
  have hmS1 := (hK.out g3).mS
  have hrd5 : ∀ x y z w : Ent, Rd ⟨I, x :: y :: z :: w :: ⟨cb, sz, T, c1⟩ :: (R ++ G2)⟩ ⟨cb, sz, T, c1⟩ := fun x y z w => .inr (by simp)
  repeat (first | (refine QuG.keep ?_; refine QuG.neV cok (xs := wl a1) (ys := wl w) hne .u64 rfl rfl rfl rfl rfl (by decide +kernel) rfl rfl rfl rfl ?_) | (refine QuG.keep ?_; refine QuG.rowE cok hrow1 (hrd5 _ _ _ _) rfl rfl rfl rfl rfl hwl hfit ?_) | (refine QuG.keep ?_; first | refine QuG.l1E cok 4 rfl rfl rfl rfl rfl (by first | exact Nat.le_of_ble_eq_true rfl | omega | (dsimp only; omega) | (simp only [addS_eq, mulS_eq]; omega)) (by assumption) ?_) | refine SeqS.go cok ?_ | refine GuardS.yes rfl ?_ | (refine QuG.keep ?_; first | refine QuG.lN cok 0 rfl rfl rfl rfl rfl (by first | exact Nat.le_of_ble_eq_true rfl | omega | (dsimp only; omega) | (simp only [addS_eq, mulS_eq]; omega)) ?_ | refine QuG.lN cok 2 rfl rfl rfl rfl rfl (by first | exact Nat.le_of_ble_eq_true rfl | omega | (dsimp only; omega) | (simp only [addS_eq, mulS_eq]; omega)) ?_ | refine QuG.lN cok 3 rfl rfl rfl rfl rfl (by first | exact Nat.le_of_ble_eq_true rfl | omega | (dsimp only; omega) | (simp only [addS_eq, mulS_eq]; omega)) ?_) | refine W.drawI 10 cok [0, 0, 3, 7, 15, 31, 63, 127, 15, 271, 783, 1807, 15, 15, 16383, 32767, 65535, 131071, 262143, 524287, 1048575, 2097151, 4194303, 8388607, 16777215, 2097151, 67108863, 134217727, 268435455, 536870911, 1073741823, 2147483647, 4294967295, 8589934591, 17179869183, 34359738367, 68719476735, 137438953471, 17179869183, 549755813887, 1099511627775, 2199023255551, 4398046511103] [0, 1, 2, 3, 4, 5, 6, 7, 8, 9, 10, 11, 12, 13, 14, 15, 16, 17, 18, 19, 20, 21, 22, 23, 24, 25, 26, 27, 28, 29, 30, 31, 32, 33, 34, 35, 36, 37, 38, 39, 40, 41, 42] [0, 1, 7, 11, 12, 13, 24, 37] (by kernel_rfl) (by kernel_rfl) ?_)
  refine CallG.behind [_, _, _, _] (hst c1 G2 _ g1 g2 (setS_h0 h0) (setS_h1 h1) (setS_sln (by omega)) (setS_jlt (by omega))) ?_
  rintro r J G1 hs ⟨rfl, c2, G3, t2, hS, m1, m2, m3⟩
  cases hS
  have hmS2 := (hK.out (out_trans g3 m3)).mS
  repeat (first | (refine QuG.keep ?_; first | refine QuG.l1E cok 4 rfl rfl rfl rfl rfl (by first | exact Nat.le_of_ble_eq_true rfl | omega | (dsimp only; omega) | (simp only [addS_eq, mulS_eq]; omega)) (by assumption) ?_) | refine GuardS.yes rfl ?_ | refine GuardS.no rfl ?_ | (refine still_in ?_; first | refine still_drop (by decide) ?_))
  refine CallG.behind [_, _, _, _] (hru c2 G3 _ m1 m2 (setS_jlt (by rw [(setS_len V _ _ _ _).2]; omega)) (setS_rle (setS_rle (by omega))) (setS_rle2 (setS_rle2 (by omega)))) ?_
  rintro r J G1 hs ⟨rfl, c3, G4, hS, n1, n2, n3⟩
  cases hS
  repeat (first | refine SeqS.go cok ?_ | refine GuardS.yes rfl ?_ | refine CondS.f rfl ?_ | refine And.intro (fillOk_of (Eq.refl true)) ?_ | (refine still_in ?_; first | refine still_drop (by decide) ?_))
  refine CallG.behind [_, _, _, _] (hse c3 G4 (out_trans (out_trans g3 m3) n3)) ?_
  rintro r J G1 hs ⟨c', hS, k1, k2⟩
  cases hS
  skip
  exact Fin.drop (⟨cb, sz, T, c'⟩ :: (R ++ G4)) [_, _, _, _] ⟨c', G4, _, rfl, k1, StkV.mk (out_trans (out_trans g3 m3) n3) k2, n1.stk k2, n2, t1, _, t2, rfl, _, rfl, rfl⟩
end Go.Proofs.YgvafwGreat
