import Derived.Test.YgvafwGreatE82
import Derived.Test.YgvafwGreatE34
import Derived.Test.YgvafwGreatE37
import Derived.Test.YgvafwGreatE46
import Derived.Test.YgvafwGreatE29
import Derived.Test.YgvafwGreatE61
set_option exponentiation.threshold 1000
set_option maxRecDepth 100000
set_option maxHeartbeats 4000000
set_option linter.unusedVariables false
set_option linter.unusedSimpArgs false
-- v2
-- v4
-- v5
-- v6
-- v7
-- still: exact QuV.of (QuG.upL cok 0 rfl rfl rfl rfl rfl rfl (by assumption) (by first | exact Nat.le_of_ble_eq_true rfl | omega) rfl)
-- still: exact QuV.of (QuG.rowE cok hrow1 (hrd2 _) rfl rfl rfl rfl rfl hwl hfit rfl)
namespace Go.Proofs.YgvafwGreat
open Go.HL Go.Proofs

theorem WmP.oth {V V1 : Vl} {a : List Nat} (h : WmP V a V1) (b : List Nat) : (V1.acc b).bal = (V.acc b).bal ∧ (V1.acc b).made = (V.acc b).made := by
  rcases h with ⟨_, rfl⟩ | ⟨_, t, rfl⟩
  · exact ⟨rfl, rfl⟩
  · rw [setA_acc (V := V) (t := t) (x := { V.acc' a with warm := true }) (V.acc'_ad a) b]
    by_cases hb : a = b
    · subst hb
      obtain ⟨e1, e2, e3, e4, e5, e6⟩ := V.acc'_eq a
      rw [if_pos rfl]; exact ⟨e2, e5⟩
    · rw [if_neg hb]; exact ⟨rfl, rfl⟩
theorem Out.mk {I : Ent → Prop} {cb : Nat} {c c' : Nat → Value} {K : YK} (h : Out c c') (hK : MK I cb c K) : MK I cb c' K := hK.congr (fun _ h => h) fun k h1 _ _ _ _ => h k (.inl h1)
theorem Out.mv {c c' : Nat → Value} {pc gas : Nat} {s : List Nat} (h : Out c c') (hM : MV c pc gas s) : MV c' pc gas s := hM.congr fun k _ h2 => h k (.inl (by omega))
/-- mach.Machine.OpDestruct -/
theorem mOpDst {I : Ent → Prop} {R G : List Ent} {cb sz pc gas : Nat} {T : TypeId} {c : Nat → Value} {K : YK} {V : Vl} {s : List Nat} (hsz : 27019 ≤ sz) (h10 : c 10 = .int .u8 ((1 : Nat) : Int)) (hK : MK I cb c K) (hM : MV c pc gas s) (hV : VI I c V G) (hO : VOk V) (hroom : V.ac.length < 1990) (hj : V.jr.length < 59990) (hb : (V.acc K.self).bal = 0) (hmd : (V.acc K.self).made = false) :
    CallG Hvaf.prog 212 #[ptr cb 0] ⟨I, ⟨cb, sz, T, c⟩ :: (R ++ G)⟩ fun r S' => ∃ c1 G1 V1, S' = ⟨I, ⟨cb, sz, T, endC c1 0 gas (.slice none 0 0)⟩ :: (R ++ G1)⟩ ∧ VI I c1 V1 G1 ∧ VOk V1 ∧ Out c c1 ∧ WmP V (adN (argN s 0)) V1 := by
  have hsz' : 2435 ≤ sz := by omega
  have hmS := hK.mS
  have hrn := mRunning (I := I) (G := R ++ G) (cb := cb) (T := T) hsz' hK
  have ha := mArg (I := I) (G := R ++ G) (cb := cb) (T := T) (i := 0) hsz' hK.fsb hM (by decide)
  have hba : argN s 0 < 115792089237316195423570985008687907853269984665640564039457584007913129639936 := argN_lt hM.sb
  have had := fun S => mAddrOf (S := S) hba
  have hA := adN_ok (argN s 0)
  have hal := hA.len
  have hab := hA.bv
  have hwm := mWarm (R := R) (cb := cb) (T := T) hsz hmS hV hO hA hroom hj
  have hrow := hK.fself
  have hwl : (bvs K.self).length = 20 := by rw [bvs_len]; exact hK.kb.kself.len
  have hfit : 1812 + 20 ≤ sz := by omega
  have hsl := hK.kb.kself.len
  generalize adN (argN s 0) = ad at *
  generalize argN s 0 = a at *
  refine CallG.start (C := mkC Hvaf.prog) cok (args := [ptr cb 0]) Hvaf.func212 rfl Hvaf.ntmps212 (by simp) (by kernel_rfl) ?_
  skip
  refine CallG.sameL [] hrn ?_
  repeat (first | refine SeqS.go cok ?_ | refine CondS.f rfl ?_)
  refine CallG.sameL [] ha ?_
  skip
  refine (had _).mono ?_
  rintro r _ - ⟨rfl, rfl⟩
  intro x1
  repeat (first | (refine QuG.keep ?_; first | refine QuG.upL cok 0 rfl rfl rfl rfl rfl rfl (by assumption) (by first | exact Nat.le_of_ble_eq_true rfl | omega) ?_) | (refine OpG.keep ?_; first | refine OpG.upS cok 0 rfl rfl rfl rfl rfl (by assumption) (by first | assumption | exact one_bvs _) (by first | exact Nat.le_of_ble_eq_true rfl | omega) ?_) | refine SeqS.go cok ?_)
  refine CallG.behind [_] hwm ?_
  rintro r J G1 hs ⟨rfl, c1, G2, V1, hS, hV1, hO1, hOut, hW⟩
  cases hS
  have hk1 := hOut.mk hK
  have hmS1 := hk1.mS
  have hrow1 := hk1.fself
  have hrd2 : ∀ y : Ent, Rd ⟨I, y :: ⟨cb, sz, T, c1⟩ :: (R ++ G2)⟩ ⟨cb, sz, T, c1⟩ := fun y => .inr (List.mem_cons_of_mem _ List.mem_cons_self)
  have hbl := vBalance (R := R) (cb := cb) (T := T) hsz hV1 hO1 hK.kb.kself
  rw [(hW.oth K.self).1.trans hb] at hbl
  have him := vIsMade (R := R) (cb := cb) (T := T) hsz hV1 hO1 hK.kb.kself
  rw [(hW.oth K.self).2.trans hmd] at him
  have hmv := fun (G : List Ent) => mMove0 (I := I) (G := G) (cb := cb) (a := K.self) (b := ad) hK.kb.kself.len hal
  have hen := mEndS (I := I) (R := []) (G := R ++ G2) (cb := cb) (T := T) (ad := none) (n := 0) (cap := 0) hsz' ((hOut 10 (.inl (by decide))).trans h10) hk1 (hOut.mv hM)
  repeat (first | (refine QuG.keep ?_; refine QuG.rowE cok hrow1 (hrd2 _) rfl rfl rfl rfl rfl hwl hfit ?_) | (refine QuG.keep ?_; first | refine QuG.upL cok 0 rfl rfl rfl rfl rfl rfl (by assumption) (by first | exact Nat.le_of_ble_eq_true rfl | omega) ?_ | refine QuG.neA cok .u8 rfl rfl rfl rfl rfl (by kernel_rfl) rfl rfl (by assumption) (by assumption) ?_) | refine SeqS.go cok ?_ | refine GuardS.yes rfl ?_ | refine W.drawI 4 cok [0, 1, 3, 3, 11, 27, 59, 127, 255] [0, 1, 2, 3, 4, 5, 6, 7, 8] [2, 6] (by kernel_rfl) (by kernel_rfl) ?_)
  (first | refine CondS.nd rfl (fun heq => ?_) (fun heq => ?_))
  · repeat (first | (refine QuG.keep ?_; refine QuG.rowE cok hrow1 (hrd2 _) rfl rfl rfl rfl rfl hwl hfit ?_) | (refine QuG.keep ?_; first | refine QuG.l1E cok 1 rfl rfl rfl rfl rfl (by first | exact Nat.le_of_ble_eq_true rfl | omega | (dsimp only; omega) | (simp only [addS_eq, mulS_eq]; omega)) (by assumption) ?_ | refine QuG.upL cok 0 rfl rfl rfl rfl rfl rfl (by assumption) (by first | exact Nat.le_of_ble_eq_true rfl | omega) ?_) | refine W.drawI 5 cok [0, 0, 2, 6, 14, 0, 0, 64, 192, 448, 0, 1024, 3072, 7168, 16320, 32767, 65535] [0, 1, 2, 3, 4, 5, 6, 7, 8, 9, 10, 11, 12, 13, 14, 15, 16] [4, 5, 9, 13] (by kernel_rfl) (by kernel_rfl) ?_)
    refine CallG.sameL [_] hbl ?_
    repeat (first | (refine still_in ?_; first | refine still_nil ?_ | refine still_drop (by decide) ?_ | (refine still_keep (by decide) rfl ?_ ?_; first | exact QuV.of (QuG.rowA cok 1 rfl rfl rfl rfl rfl (by assumption) (by assumption) (by first | exact Nat.le_of_ble_eq_true rfl | omega | (dsimp only; omega)) rfl) | exact QuV.of (QuG.upL cok 0 rfl rfl rfl rfl rfl rfl (by assumption) (by first | exact Nat.le_of_ble_eq_true rfl | omega) rfl))))
    refine (hmv _).mono ?_
    rintro r _ - ⟨rfl, rfl⟩
    repeat (first | (refine QuG.keep ?_; refine QuG.rowE cok hrow1 (hrd2 _) rfl rfl rfl rfl rfl hwl hfit ?_) | (refine QuG.keep ?_; first | refine QuG.l1E cok 1 rfl rfl rfl rfl rfl (by first | exact Nat.le_of_ble_eq_true rfl | omega | (dsimp only; omega) | (simp only [addS_eq, mulS_eq]; omega)) (by assumption) ?_) | refine SeqS.go cok ?_ | refine GuardS.yes rfl ?_ | (refine still_in ?_; first | refine still_drop (by decide) ?_) | refine W.drawI 6 cok [0, 1, 3, 7, 15, 31, 3, 67, 195, 451, 1023, 2047, 4095, 8191, 16383, 32767, 65535, 8191, 139263, 401407, 925695, 2097151, 4194303, 8388607] [0, 1, 2, 3, 4, 5, 6, 7, 8, 9, 10, 11, 12, 13, 14, 15, 16, 17, 18, 19, 20, 21, 22, 23] [5, 9, 16, 20] (by kernel_rfl) (by kernel_rfl) ?_)
    refine CallG.sameL [_] him ?_
    repeat (first | refine SeqS.go cok ?_ | refine GuardS.no rfl ?_ | refine CondS.f rfl ?_ | (refine still_in ?_; first | refine still_drop (by decide) ?_))
    refine CallG.behind [_] hen ?_
    rintro r J2 G3 hs2 hS2
    cases hS2
    skip
    exact Fin.drop (⟨cb, sz, T, endC c1 0 gas (.slice none 0 0)⟩ :: (R ++ G2)) [_] ⟨c1, G2, V1, rfl, hV1, hO1, hOut, hW⟩
  · repeat (first | (refine QuG.keep ?_; refine QuG.rowE cok hrow1 (hrd2 _) rfl rfl rfl rfl rfl hwl hfit ?_) | (refine QuG.keep ?_; first | refine QuG.l1E cok 1 rfl rfl rfl rfl rfl (by first | exact Nat.le_of_ble_eq_true rfl | omega | (dsimp only; omega) | (simp only [addS_eq, mulS_eq]; omega)) (by assumption) ?_) | refine SeqS.go cok ?_ | refine GuardS.yes rfl ?_ | refine W.drawI 6 cok [0, 1, 3, 7, 15, 31, 3, 67, 195, 451, 1023, 2047, 4095, 8191, 16383, 32767, 65535, 8191, 139263, 401407, 925695, 2097151, 4194303, 8388607] [0, 1, 2, 3, 4, 5, 6, 7, 8, 9, 10, 11, 12, 13, 14, 15, 16, 17, 18, 19, 20, 21, 22, 23] [5, 9, 16, 20] (by kernel_rfl) (by kernel_rfl) ?_)
    refine CallG.sameL [_] him ?_
    repeat (first | refine SeqS.go cok ?_ | refine GuardS.no rfl ?_ | refine CondS.f rfl ?_ | (refine still_in ?_; first | refine still_drop (by decide) ?_))
    refine CallG.behind [_] hen ?_
    rintro r J2 G3 hs2 hS2
    cases hS2
    skip
    exact Fin.drop (⟨cb, sz, T, endC c1 0 gas (.slice none 0 0)⟩ :: (R ++ G2)) [_] ⟨c1, G2, V1, rfl, hV1, hO1, hOut, hW⟩
end Go.Proofs.YgvafwGreat
