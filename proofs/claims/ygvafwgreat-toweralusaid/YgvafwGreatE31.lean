import Derived.Test.YgvafwGreatE30
import Derived.Test.YgvafwGreatV12
import Derived.Test.YgvafwGreatR1
set_option exponentiation.threshold 1000
set_option maxRecDepth 100000
set_option maxHeartbeats 4000000
set_option linter.unusedVariables false
set_option linter.unusedSimpArgs false
-- v2
-- v4
-- v5
-- v6
-- v7
namespace Go.Proofs.YgvafwGreat
open Go.HL Go.Proofs
/-- mach.Machine.OpStorage, 84, the slot is warm -/
theorem mSl84w {I : Ent → Prop} {R G : List Ent} {cb sz pc gas : Nat} {T : TypeId} {c : Nat → Value} {K : YK} {V : Vl} {s : List Nat} (hV : VI I c V G) (hO : VOk V) (h0 : V.ix K.self = 0) (h1 : 0 < V.ac.length) (hor : (V.slt (argN s 0)).orig = 0) (hsz : 27019 ≤ sz) (hK : MK I cb c K) (hM : MV c pc gas s) (hpb : pc + 1 < 60000) (ho : K.code.getD pc 0 = 84) (hs1 : 1 ≤ s.length) (hw : (V.slt (argN s 0)).warm = true) :
    CallG Hvaf.prog 208 #[ptr cb 0] ⟨I, ⟨cb, sz, T, c⟩ :: (R ++ G)⟩ (SetP I (R ++ G) cb sz T c (pc + 1) gas (s.take (s.length - 1) ++ [(V.slt (argN s 0)).val])) := by
  have hsz' : 2435 ≤ sz := by omega
  have hrn := mRunning (I := I) (G := R ++ G) (cb := cb) (T := T) hsz' hK
  have hmS := hK.mS
  have hrow := hK.fself
  have hA := hK.kb.kself
  have hwl : (bvs K.self).length = 20 := by rw [bvs_len]; exact hA.len
  have hfit : 1812 + 20 ≤ sz := by omega
  have ha0 := mArg (I := I) (G := R ++ G) (cb := cb) (T := T) (i := 0) hsz' hK.fsb hM (by decide)
  have hb0 : argN s 0 < 115792089237316195423570985008687907853269984665640564039457584007913129639936 := argN_lt hM.sb
  have hpk := vPeek (R := R) (cb := cb) (T := T) hsz hV hO hA h0 h1 hb0
  rw [hor] at hpk
  have hlt : (V.slt (argN s 0)).val < 115792089237316195423570985008687907853269984665640564039457584007913129639936 := Vl.slt_lt hO _
  rw [hw] at hpk
  have hop := mOpcode (I := I) (G := R ++ G) (cb := cb) (T := T) hsz' hK hM
  rw [ho] at hop
  have hse := mSettleG (I := I) (G := R ++ G) (cb := cb) (T := T) (t := 1) (step := 1) (w := (V.slt (argN s 0)).val) hsz' hK.fsb hM hs1 hpb (by have := hM.sl; omega) hlt
  rw [wcs_word] at hse
  generalize s.take (s.length - 1) ++ [(V.slt (argN s 0)).val] = s' at *
  generalize (V.slt (argN s 0)).val = w at *
  generalize argN s 0 = a0 at *
  have hrd2 : ∀ y : Ent, Rd ⟨I, y :: ⟨cb, sz, T, c⟩ :: (R ++ G)⟩ ⟨cb, sz, T, c⟩ := fun y => .inr (List.mem_cons_of_mem _ List.mem_cons_self)
  have hrd4 : ∀ x y z : Ent, Rd ⟨I, x :: y :: z :: ⟨cb, sz, T, c⟩ :: (R ++ G)⟩ ⟨cb, sz, T, c⟩ := fun x y z => .inr (by simp)
  refine CallG.start (C := mkC Hvaf.prog) cok (args := [ptr cb 0]) Hvaf.func208 rfl Hvaf.ntmps208 (by simp) (by kernel_rfl) ?_
  skip
  refine CallG.sameL [] hrn ?_
  repeat (first | refine SeqS.go cok ?_ | refine CondS.f rfl ?_)
  refine CallG.sameL [] ha0 ?_
  intro x1
  repeat (first | (refine QuG.keep ?_; refine QuG.rowE cok hrow (hrd2 _) rfl rfl rfl rfl rfl hwl hfit ?_) | (refine QuG.keep ?_; first | refine QuG.l1E cok 1 rfl rfl rfl rfl rfl (by first | exact Nat.le_of_ble_eq_true rfl | omega | (dsimp only; omega) | (simp only [addS_eq, mulS_eq]; omega)) (by assumption) ?_) | refine SeqS.go cok ?_ | (refine QuG.keep ?_; first | refine QuG.lN cok 0 rfl rfl rfl rfl rfl (by first | exact Nat.le_of_ble_eq_true rfl | omega | (dsimp only; omega) | (simp only [addS_eq, mulS_eq]; omega)) ?_) | (refine OpG.keep ?_; first | refine OpG.sL cok 0 rfl rfl rfl rfl rfl rfl rfl (by first | exact Nat.le_of_ble_eq_true rfl | omega | (dsimp only; omega) | (simp only [addS_eq, mulS_eq]; omega)) ?_) | refine W.drawI 3 cok [0, 1, 3, 7, 0, 16, 48, 112, 0, 511, 1023, 2047, 2047, 2047, 0, 0, 53247, 122879, 262143] [0, 1, 2, 3, 4, 5, 6, 7, 8, 9, 10, 11, 12, 13, 14, 15, 16, 17, 18] [3, 7, 8] (by kernel_rfl) (by kernel_rfl) ?_)
  refine CallG.sameL [_] hpk ?_
  repeat (first | (refine still_in ?_; first | refine still_nil ?_ | refine still_drop (by decide) ?_))
  intro x2 x3
  repeat (first | refine SeqS.go cok ?_ | refine GuardS.no rfl ?_ | refine CondS.f rfl ?_ | (refine still_in ?_; first | refine still_nil ?_ | refine still_drop (by decide) ?_) | (refine OpG.keep ?_; first | refine OpG.sL cok 0 rfl rfl rfl rfl rfl rfl rfl (by first | exact Nat.le_of_ble_eq_true rfl | omega | (dsimp only; omega) | (simp only [addS_eq, mulS_eq]; omega)) ?_ | refine OpG.sL cok 1 rfl rfl rfl rfl rfl rfl rfl (by first | exact Nat.le_of_ble_eq_true rfl | omega | (dsimp only; omega) | (simp only [addS_eq, mulS_eq]; omega)) ?_) | refine W.drawI 4 cok [0, 1, 3, 7, 15, 31, 63, 7, 135, 391, 903, 7, 4095, 8191, 16383] [0, 1, 2, 3, 4, 5, 6, 7, 8, 9, 10, 11, 12, 13, 14] [6, 10, 11] (by kernel_rfl) (by kernel_rfl) ?_)
  refine CallG.sameL [_, _, _] hop ?_
  repeat (first | refine SeqS.go cok ?_ | refine CondS.t rfl ?_ | (refine QuG.keep ?_; first | refine QuG.lN cok 1 rfl rfl rfl rfl rfl (by first | exact Nat.le_of_ble_eq_true rfl | omega | (dsimp only; omega) | (simp only [addS_eq, mulS_eq]; omega)) ?_))
  refine CallG.behind [_, _, _] hse ?_
  rintro r J G1 hs ⟨c', hS, k1, k2⟩
  cases hS
  repeat (first | refine SeqS.go cok ?_)
  exact Fin.drop (⟨cb, sz, T, c'⟩ :: (R ++ G)) [_, _, _] ⟨c', rfl, k1, k2⟩
/-- mach.Machine.OpStorage, 84, the slot is cold -/
theorem mSl84c {I : Ent → Prop} {R G : List Ent} {cb sz pc gas : Nat} {T : TypeId} {c : Nat → Value} {K : YK} {V : Vl} {s : List Nat} (hV : VI I c V G) (hO : VOk V) (h0 : V.ix K.self = 0) (h1 : 0 < V.ac.length) (hor : (V.slt (argN s 0)).orig = 0) (hsz : 27019 ≤ sz) (hK : MK I cb c K) (hM : MV c pc gas s) (hpb : pc + 1 < 60000) (ho : K.code.getD pc 0 = 84) (hs1 : 1 ≤ s.length) (hw : (V.slt (argN s 0)).warm = false) (hroom : V.sl.length < 1990) (hj : V.jr.length < 59990) :
    CallG Hvaf.prog 208 #[ptr cb 0] ⟨I, ⟨cb, sz, T, c⟩ :: (R ++ G)⟩ (SetV I R cb sz T c (pc + 1) gas (s.take (s.length - 1) ++ [(V.slt (argN s 0)).val]) fun V' => ∃ t, V' = V.setS (argN s 0) t { V.slt' (argN s 0) with warm := true } ⟨5, V.is (argN s 0), 0, 0, (V.slt' (argN s 0)).warm⟩) := by
  have hsz' : 2435 ≤ sz := by omega
  have hrn := mRunning (I := I) (G := R ++ G) (cb := cb) (T := T) hsz' hK
  have hmS := hK.mS
  have hrow := hK.fself
  have hA := hK.kb.kself
  have hwl : (bvs K.self).length = 20 := by rw [bvs_len]; exact hA.len
  have hfit : 1812 + 20 ≤ sz := by omega
  have ha0 := mArg (I := I) (G := R ++ G) (cb := cb) (T := T) (i := 0) hsz' hK.fsb hM (by decide)
  have hb0 : argN s 0 < 115792089237316195423570985008687907853269984665640564039457584007913129639936 := argN_lt hM.sb
  have hpk := vPeek (R := R) (cb := cb) (T := T) hsz hV hO hA h0 h1 hb0
  rw [hor] at hpk
  have hlt : (V.slt (argN s 0)).val < 115792089237316195423570985008687907853269984665640564039457584007913129639936 := Vl.slt_lt hO _
  rw [hw] at hpk
  have hws := vWarmSlot (R := R) (cb := cb) (T := T) hsz hV hO hA h0 h1 hb0 hroom hj
  rw [wcs_word] at hws
  have hop := fun c1 G1 (h : Out c c1) => mOpcode (I := I) (G := R ++ G1) (cb := cb) (T := T) hsz' (hK.out h) (hM.out h)
  rw [ho] at hop
  have hse := fun c1 G1 (h : Out c c1) => mSettleG (I := I) (G := R ++ G1) (cb := cb) (T := T) (t := 1) (step := 1) (w := (V.slt (argN s 0)).val) hsz' (hK.out h).fsb (hM.out h) hs1 hpb (by have := hM.sl; omega) hlt
  simp only [wcs_word] at hse
  generalize s.take (s.length - 1) ++ [(V.slt (argN s 0)).val] = s' at *
  generalize (V.slt (argN s 0)).val = w at *
  generalize argN s 0 = a0 at *
  have hrd2 : ∀ y : Ent, Rd ⟨I, y :: ⟨cb, sz, T, c⟩ :: (R ++ G)⟩ ⟨cb, sz, T, c⟩ := fun y => .inr (List.mem_cons_of_mem _ List.mem_cons_self)
  have hrd4 : ∀ x y z : Ent, Rd ⟨I, x :: y :: z :: ⟨cb, sz, T, c⟩ :: (R ++ G)⟩ ⟨cb, sz, T, c⟩ := fun x y z => .inr (by simp)
  refine CallG.start (C := mkC Hvaf.prog) cok (args := [ptr cb 0]) Hvaf.func208 rfl Hvaf.ntmps208 (by simp) (by kernel_rfl) ?_
  skip
  refine CallG.sameL [] hrn ?_
  repeat (first | refine SeqS.go cok ?_ | refine CondS.f rfl ?_)
  refine CallG.sameL [] ha0 ?_
  intro x1
  repeat (first | (refine QuG.keep ?_; refine QuG.rowE cok hrow (hrd2 _) rfl rfl rfl rfl rfl hwl hfit ?_) | (refine QuG.keep ?_; first | refine QuG.l1E cok 1 rfl rfl rfl rfl rfl (by first | exact Nat.le_of_ble_eq_true rfl | omega | (dsimp only; omega) | (simp only [addS_eq, mulS_eq]; omega)) (by assumption) ?_) | refine SeqS.go cok ?_ | (refine QuG.keep ?_; first | refine QuG.lN cok 0 rfl rfl rfl rfl rfl (by first | exact Nat.le_of_ble_eq_true rfl | omega | (dsimp only; omega) | (simp only [addS_eq, mulS_eq]; omega)) ?_) | (refine OpG.keep ?_; first | refine OpG.sL cok 0 rfl rfl rfl rfl rfl rfl rfl (by first | exact Nat.le_of_ble_eq_true rfl | omega | (dsimp only; omega) | (simp only [addS_eq, mulS_eq]; omega)) ?_) | refine W.drawI 3 cok [0, 1, 3, 7, 0, 16, 48, 112, 0, 511, 1023, 2047, 2047, 2047, 0, 0, 53247, 122879, 262143] [0, 1, 2, 3, 4, 5, 6, 7, 8, 9, 10, 11, 12, 13, 14, 15, 16, 17, 18] [3, 7, 8] (by kernel_rfl) (by kernel_rfl) ?_)
  refine CallG.sameL [_] hpk ?_
  repeat (first | (refine still_in ?_; first | refine still_nil ?_ | refine still_drop (by decide) ?_))
  intro x2 x3
  repeat (first | (refine QuG.keep ?_; refine QuG.rowE cok hrow (hrd4 _ _ _) rfl rfl rfl rfl rfl hwl hfit ?_) | (refine QuG.keep ?_; first | refine QuG.l1E cok 3 rfl rfl rfl rfl rfl (by first | exact Nat.le_of_ble_eq_true rfl | omega | (dsimp only; omega) | (simp only [addS_eq, mulS_eq]; omega)) (by assumption) ?_) | refine SeqS.go cok ?_ | refine GuardS.yes rfl ?_ | (refine QuG.keep ?_; first | refine QuG.lN cok 2 rfl rfl rfl rfl rfl (by first | exact Nat.le_of_ble_eq_true rfl | omega | (dsimp only; omega) | (simp only [addS_eq, mulS_eq]; omega)) ?_) | (refine still_in ?_; first | refine still_nil ?_ | refine still_drop (by decide) ?_) | (refine OpG.keep ?_; first | refine OpG.sL cok 0 rfl rfl rfl rfl rfl rfl rfl (by first | exact Nat.le_of_ble_eq_true rfl | omega | (dsimp only; omega) | (simp only [addS_eq, mulS_eq]; omega)) ?_ | refine OpG.sL cok 1 rfl rfl rfl rfl rfl rfl rfl (by first | exact Nat.le_of_ble_eq_true rfl | omega | (dsimp only; omega) | (simp only [addS_eq, mulS_eq]; omega)) ?_) | refine W.drawI 4 cok [0, 1, 3, 7, 15, 31, 63, 7, 135, 391, 903, 7, 4095, 8191, 16383] [0, 1, 2, 3, 4, 5, 6, 7, 8, 9, 10, 11, 12, 13, 14] [6, 10, 11] (by kernel_rfl) (by kernel_rfl) ?_)
  refine CallG.behind [_, _, _] hws ?_
  rintro r J G1 hs ⟨rfl, c1, G2, t1, hS, g1, g2, g3⟩
  cases hS
  repeat (first | refine SeqS.go cok ?_ | refine GuardS.yes rfl ?_ | refine CondS.f rfl ?_ | (refine still_in ?_; first | refine still_drop (by decide) ?_))
  refine CallG.sameL [_, _, _] (hop c1 G2 g3) ?_
  repeat (first | refine SeqS.go cok ?_ | refine CondS.t rfl ?_ | (refine QuG.keep ?_; first | refine QuG.lN cok 1 rfl rfl rfl rfl rfl (by first | exact Nat.le_of_ble_eq_true rfl | omega | (dsimp only; omega) | (simp only [addS_eq, mulS_eq]; omega)) ?_))
  refine CallG.behind [_, _, _] (hse c1 G2 g3) ?_
  rintro r J G1 hs ⟨c', hS, k1, k2⟩
  cases hS
  repeat (first | refine SeqS.go cok ?_)
  exact Fin.drop (⟨cb, sz, T, c'⟩ :: (R ++ G2)) [_, _, _] ⟨c', G2, _, rfl, k1, StkV.mk g3 k2, g1.stk k2, g2, t1, rfl⟩
end Go.Proofs.YgvafwGreat
