import Derived.Test.YgvafwGreatE68u
set_option exponentiation.threshold 1000
set_option maxRecDepth 100000
set_option maxHeartbeats 40000000
set_option linter.unusedVariables false
set_option linter.unusedSimpArgs false
-- v2
-- v4
-- v5
-- v6
-- v7
namespace Go.Proofs.YgvafwGreat
open Go.HL Go.Proofs

/-- engine.pay -/
theorem ePayA {I : Ent → Prop} {M G : List Ent} {cb sz gas g st rn rc : Nat} {T : TypeId} {c : Nat → Value} {K : YK} {V : Vl} {w : YW} {ra : Option Addr} {out : List Nat} (hsz : 27019 ≤ sz) (hF : PayF cb c gas g st ra rn rc) (hV : VI I c V G) (hO : VOk V) (hR : RW K V w) (hB : VB V) (hrt : Byt ⟨I, []⟩ (.slice ra rn rc) out) (hg : gas ≤ 1048576) (hgg : g ≤ gas) (hst : st < 256) (hz : st = 0) (h5 : ∀ t ∈ w.lg, t.2.1.length < 5)
    (hbal : (getA w.al (adNo 240)).bal = 2 ^ 128) (had : (getA w.al (adNo 240)).addr = adNo 240) (hcb : (getA (putA { getA w.al (adNo 240) with bal := 2 ^ 128 } w.al) (adNo 192)).bal = 0) (hcd : (getA (putA { getA w.al (adNo 240) with bal := 2 ^ 128 } w.al) (adNo 192)).addr = adNo 192) :
    CallG Hvaf.prog 47 #[ptr cb 0] ⟨I, ⟨cb, sz, T, c⟩ :: (M ++ G)⟩ (PayP cb sz T M c K w gas g st out) := by
  have hmS := hF.mS
  have hph := hF.ph
  have hgs := hF.gs
  have hlm := hF.lim
  have hpr := hF.pr
  have hog := hF.og
  have hwl : (wcs 0).length = 4 := rfl
  have h240 : (bvs (adNo 240)).length = 20 := rfl
  have h192 : (bvs (adNo 192)).length = 20 := rfl
  have hzl : (bvs z32).length = 32 := rfl
  have hbf : Row c 2347 (bvs z32) := row_sub (p := 87) (us := bvs z32) hF.env rfl
  have hba := hB.ac
  have hbj := hB.jr
  have hrfb := hO.rfl'
  have hsi := vSizes (R := M) (cb := cb) (T := T) hsz hV hO
  have hre := vRefund (R := M) (cb := cb) (T := T) hsz hV
  rw [← hR.rf] at hre
  have hrf2 : w.rf < 2 ^ 40 := by rw [hR.rf]; exact hrfb
  have hmu := fun S n (hn : n < 18446744073709551616) => mMul0 (S := S) (g := n) hn
  have hb1 : (V.acc (adNo 240)).bal = 2 ^ 128 := (hR.acc (adNo 240)).2.1.symm.trans hbal
  have hbl := vBalance (R := M) (cb := cb) (T := T) hsz hV hO (a := adNo 240) ⟨rfl, by decide⟩
  rw [hb1] at hbl
  have hpb := vPutBalR (M := M) (cb := cb) (T := T) (n := 2 ^ 128) hsz hV hO hR (a := adNo 240) ⟨rfl, by decide⟩ (by omega) (by omega) (by decide) had
  unfold PayP
  refine CallG.start (C := mkC Hvaf.prog) cok (args := [ptr cb 0]) Hvaf.func47 rfl Hvaf.ntmps47 (by simp) (by kernel_rfl) ?_
  intro b2
  repeat (first | (refine QuG.keep ?_; first | refine QuG.l1E cok 1 rfl rfl rfl rfl rfl (by first | exact Nat.le_of_ble_eq_true rfl | omega | (dsimp only; omega) | (simp only [addS_eq, mulS_eq]; omega)) (by assumption) ?_ | refine QuG.rowA cok 1 rfl rfl rfl rfl rfl (by assumption) (by assumption) (by first | exact Nat.le_of_ble_eq_true rfl | omega | (dsimp only; omega) | (simp only [addS_eq, mulS_eq]; omega)) ?_) | refine SeqS.go cok ?_ | refine GuardS.yes rfl ?_ | refine And.intro (by dsimp only; omega) ?_ | (refine NatS.keep ?_; first | with_reducible refine NatS.lit ?_) | refine W.drawI 1 cok [0, 1, 3, 7, 15, 31, 63, 127, 255, 511, 1023, 2047, 4095, 8191, 16383, 32767, 65535, 131071, 262143, 8191, 532479, 1581055, 3678207, 8388607, 16777215, 33554431, 67108863, 134217727, 268435455, 536870911, 67108863, 1140850687, 3288334335, 7583301631, 16173236223, 33353105407, 68719476735, 137438953471] [0, 1, 2, 3, 4, 5, 6, 7, 8, 9, 10, 11, 12, 13, 14, 15, 16, 17, 18, 19, 20, 21, 22, 23, 24, 25, 26, 27, 28, 29, 30, 31, 32, 33, 34, 35, 36, 37] [3, 9, 18, 22, 29, 34] (by kernel_rfl) (by kernel_rfl) ?_ | (refine GuardS.keep ?_; first | refine GuardS.F0 rfl (by omega) ?_))
  refine mFB0.mono ?_
  rintro r _ - ⟨rfl, rfl⟩
  repeat (first | refine GuardS.yes rfl ?_ | (refine still_in ?_; first | refine still_drop (by decide) ?_ | (refine still_keep (by decide) rfl ?_ ?_; first | exact QuV.of (QuG.rowA cok 1 rfl rfl rfl rfl rfl (by assumption) (by assumption) (by first | exact Nat.le_of_ble_eq_true rfl | omega | (dsimp only; omega)) rfl))))
  refine (ULt_spec (a := 0) (b := 0) (by decide) (by decide)).mono ?_
  rintro r _ - ⟨rfl, rfl⟩
  repeat (first | (refine QuG.keep ?_; first | refine QuG.l1E cok 1 rfl rfl rfl rfl rfl (by first | exact Nat.le_of_ble_eq_true rfl | omega | (dsimp only; omega) | (simp only [addS_eq, mulS_eq]; omega)) (by assumption) ?_) | refine SeqS.go cok ?_ | refine CondS.f rfl ?_ | (refine still_in ?_; first | refine still_drop (by decide) ?_))
  refine CallG.behind [_] hsi ?_
  rintro r J1 _ hs1 ⟨e1, rfl⟩
  cases e1
  repeat (first | (refine QuG.keep ?_; first | refine QuG.l1E cok 1 rfl rfl rfl rfl rfl (by first | exact Nat.le_of_ble_eq_true rfl | omega | (dsimp only; omega) | (simp only [addS_eq, mulS_eq]; omega)) (by assumption) ?_) | refine SeqS.go cok ?_ | refine GuardS.yes rfl ?_ | refine And.intro (by dsimp only; omega) ?_ | (refine NatS.keep ?_; first | with_reducible refine NatS.lit ?_) | (refine ValS.keep ?_; first | (with_reducible refine ValS.kU64 ?_; first | (with_reducible refine ValS.subU64 ?_ ?_ ?_ ; omega; omega))) | refine W.drawI 6 cok [0, 1, 3, 7, 0, 16, 48, 112, 240, 496, 1023, 2047] [0, 1, 2, 3, 4, 5, 6, 7, 8, 9, 10, 11] [3, 9] (by kernel_rfl) (by kernel_rfl) ?_ | (refine GuardS.keep ?_; first | refine GuardS.F0 rfl (by omega) ?_) | (refine CondS.keep ?_; first | refine CondS.d0 rfl (by omega) ?_))
  refine CallG.behind [_] hre ?_
  rintro r J2 _ hs2 ⟨e2, rfl⟩
  cases e2
  repeat (first | (refine SeqS.slots cok [(0, ptr cb 0), (2, ptr b2 0), (8, .int .u64 ((_ : Nat) : Int))] ⟨rfl, rfl, rfl, trivial⟩ fun e => ?_) | (refine QuG.keep ?_; first | refine QuG.l1E cok 1 rfl rfl rfl rfl rfl (by first | exact Nat.le_of_ble_eq_true rfl | omega | (dsimp only; omega) | (simp only [addS_eq, mulS_eq]; omega)) (by assumption) ?_ | refine QuG.rowA cok 1 rfl rfl rfl rfl rfl (by assumption) (by assumption) (by first | exact Nat.le_of_ble_eq_true rfl | omega | (dsimp only; omega) | (simp only [addS_eq, mulS_eq]; omega)) ?_) | refine And.intro (fillOk_of (Eq.refl true)) ?_ | refine And.intro (by omega) ?_ | (refine ValS.keep ?_; first | (with_reducible refine ValS.kU64 ?_; first | (with_reducible refine ValS.subU64 ?_ ?_ ?_ ; omega; omega) | (with_reducible refine ValS.quoU64_L ?_ ?_ ; omega) | with_reducible refine ValS.minN ?_)) | refine W.drawI 8 cok [0, 1, 3, 7, 0, 31, 63, 0, 128, 384, 896, 2047, 0, 8191] [0, 1, 2, 3, 4, 5, 6, 7, 8, 9, 10, 11, 12, 13] [3, 10] (by kernel_rfl) (by kernel_rfl) ?_)
  refine (hmu _ _ (by omega)).mono ?_
  rintro r _ - ⟨rfl, rfl⟩
  repeat (first | (refine still_in ?_; first | refine still_nil ?_ | refine still_drop (by decide) ?_))
  intro b9
  repeat (first | (refine SeqS.slots cok [(0, ptr cb 0), (2, ptr b2 0), (8, .int .u64 ((_ : Nat) : Int)), (9, ptr b9 0)] ⟨rfl, rfl, rfl, rfl, trivial⟩ fun e => ?_) | (refine QuG.keep ?_; first | refine QuG.rowA cok 2 rfl rfl rfl rfl rfl (by assumption) (by assumption) (by first | exact Nat.le_of_ble_eq_true rfl | omega | (dsimp only; omega) | (simp only [addS_eq, mulS_eq]; omega)) ?_) | refine And.intro (fillOk_of (Eq.refl true)) ?_ | (refine still_in ?_; first | refine still_drop (by decide) ?_) | (refine OpG.keep ?_; first | refine OpG.sL cok 0 rfl rfl rfl rfl rfl rfl rfl (by first | exact Nat.le_of_ble_eq_true rfl | omega | (dsimp only; omega) | (simp only [addS_eq, mulS_eq]; omega)) ?_) | refine W.drawI 9 cok [0, 1, 0, 4, 12, 28, 0, 64, 192, 448, 960, 1984, 4092, 8191, 0, 32767] [0, 1, 2, 3, 4, 5, 6, 7, 8, 9, 10, 11, 12, 13, 14, 15] [5, 10] (by kernel_rfl) (by kernel_rfl) ?_)
  refine mFB0.mono ?_
  rintro r _ - ⟨rfl, rfl⟩
  repeat (first | (refine still_in ?_; first | refine still_nil ?_ | refine still_drop (by decide) ?_ | (refine still_keep (by decide) rfl ?_ ?_; first | exact QuV.of (QuG.rowA cok 2 rfl rfl rfl rfl rfl (by assumption) (by assumption) (by first | exact Nat.le_of_ble_eq_true rfl | omega | (dsimp only; omega)) rfl))))
  refine mSubZ.mono ?_
  rintro r _ - ⟨rfl, rfl⟩
  repeat (first | (refine still_in ?_; first | refine still_nil ?_ | refine still_drop (by decide) ?_))
  refine (hmu _ _ (by omega)).mono ?_
  rintro r _ - ⟨rfl, rfl⟩
  repeat (first | (refine still_in ?_; first | refine still_nil ?_ | refine still_drop (by decide) ?_))
  intro b10
  repeat (first | (refine SeqS.slots cok [(0, ptr cb 0), (2, ptr b2 0), (8, .int .u64 ((_ : Nat) : Int)), (9, ptr b9 0), (10, ptr b10 0)] ⟨rfl, rfl, rfl, rfl, rfl, trivial⟩ fun e => ?_) | (refine QuG.keep ?_; first | refine QuG.l1E cok 3 rfl rfl rfl rfl rfl (by first | exact Nat.le_of_ble_eq_true rfl | omega | (dsimp only; omega) | (simp only [addS_eq, mulS_eq]; omega)) (by assumption) ?_ | refine QuG.upL cok 1 rfl rfl rfl rfl rfl rfl (by assumption) (by first | exact Nat.le_of_ble_eq_true rfl | omega) ?_ | refine QuG.rowA cok 3 rfl rfl rfl rfl rfl (by assumption) (by assumption) (by first | exact Nat.le_of_ble_eq_true rfl | omega | (dsimp only; omega) | (simp only [addS_eq, mulS_eq]; omega)) ?_) | (refine still_in ?_; first | refine still_drop (by decide) ?_) | (refine OpG.keep ?_; first | refine OpG.sL cok 0 rfl rfl rfl rfl rfl rfl rfl (by first | exact Nat.le_of_ble_eq_true rfl | omega | (dsimp only; omega) | (simp only [addS_eq, mulS_eq]; omega)) ?_) | refine W.drawI 10 cok [0, 1, 3, 7, 0, 16, 48, 112, 0, 256, 768, 1792, 0, 4096, 12288, 28672, 65280, 0, 261888, 524287] [0, 1, 2, 3, 4, 5, 6, 7, 8, 9, 10, 11, 12, 13, 14, 15, 17, 16, 18, 19] [3, 7, 11, 15, 17] (by kernel_rfl) (by kernel_rfl) ?_)
  refine CallG.behind [_, _, _] hbl ?_
  rintro r J3 _ hs3 ⟨e3, rfl⟩
  cases e3
  repeat (first | (refine still_in ?_; first | refine still_nil ?_ | refine still_drop (by decide) ?_ | (refine still_keep (by decide) rfl ?_ ?_; first | exact QuV.lN cok 1 rfl rfl rfl rfl rfl (by first | exact Nat.le_of_ble_eq_true rfl | omega | (dsimp only; omega) | (simp only [addS_eq, mulS_eq]; omega)) rfl | exact QuV.l1 cok 3 rfl rfl rfl rfl rfl (by first | exact Nat.le_of_ble_eq_true rfl | omega | (dsimp only; omega) | (simp only [addS_eq, mulS_eq]; omega)) (by assumption) | exact QuV.of (QuG.rowA cok 3 rfl rfl rfl rfl rfl (by assumption) (by assumption) (by first | exact Nat.le_of_ble_eq_true rfl | omega | (dsimp only; omega)) rfl))))
  refine (mAdd0 (n := 2 ^ 128) (by decide)).mono ?_
  rintro r _ - ⟨rfl, rfl⟩
  repeat (first | (refine still_in ?_; first | refine still_nil ?_ | refine still_drop (by decide) ?_ | (refine still_keep (by decide) rfl ?_ ?_; first | exact QuV.l1 cok 3 rfl rfl rfl rfl rfl (by first | exact Nat.le_of_ble_eq_true rfl | omega | (dsimp only; omega) | (simp only [addS_eq, mulS_eq]; omega)) (by assumption) | exact QuV.of (QuG.rowA cok 3 rfl rfl rfl rfl rfl (by assumption) (by assumption) (by first | exact Nat.le_of_ble_eq_true rfl | omega | (dsimp only; omega)) rfl))))
  refine CallG.behind [_, _, _] hpb ?_
  rintro r J4 _ hs4 ⟨rfl, c1, G1, V1, e4, hV1, hO1, hR1, ha1, hj1, ho1⟩
  cases e4
  have hF1 := hF.out ho1
  have k1 := hF1.mS
  have hcb1 : Row c1 2260 (bvs (adNo 192)) := row_sub (p := 0) (us := bvs (adNo 192)) hF1.env rfl
  have hb2 : (V1.acc (adNo 192)).bal = 0 := (hR1.acc (adNo 192)).2.1.symm.trans hcb
  have hbl2 := vBalance (R := M) (cb := cb) (T := T) hsz hV1 hO1 (a := adNo 192) ⟨rfl, by decide⟩
  rw [hb2] at hbl2
  have hpb2 := vPutBalR (M := M) (cb := cb) (T := T) (n := 0) hsz hV1 hO1 hR1 (a := adNo 192) ⟨rfl, by decide⟩ (by omega) (by omega) (by decide) hcd
  repeat (first | (refine SeqS.slots cok [(0, ptr cb 0), (2, ptr b2 0), (8, .int .u64 ((_ : Nat) : Int)), (9, ptr b9 0), (10, ptr b10 0)] ⟨rfl, rfl, rfl, rfl, rfl, trivial⟩ fun e => ?_) | (refine QuG.keep ?_; first | refine QuG.l1E cok 3 rfl rfl rfl rfl rfl (by first | exact Nat.le_of_ble_eq_true rfl | omega | (dsimp only; omega) | (simp only [addS_eq, mulS_eq]; omega)) (by assumption) ?_ | refine QuG.upL cok 0 rfl rfl rfl rfl rfl rfl (by assumption) (by first | exact Nat.le_of_ble_eq_true rfl | omega) ?_ | refine QuG.rowA cok 3 rfl rfl rfl rfl rfl (by assumption) (by assumption) (by first | exact Nat.le_of_ble_eq_true rfl | omega | (dsimp only; omega) | (simp only [addS_eq, mulS_eq]; omega)) ?_) | (refine still_in ?_; first | refine still_drop (by decide) ?_) | refine W.drawI 11 cok [0, 1, 3, 7, 0, 16, 48, 112, 240, 0, 512, 1536, 3584, 0, 8192, 24576, 57344, 122880, 261632, 0, 1048064, 2097151] [0, 1, 2, 3, 4, 5, 6, 7, 8, 9, 10, 11, 12, 13, 14, 15, 16, 17, 19, 18, 20, 21] [3, 8, 12, 17, 19] (by kernel_rfl) (by kernel_rfl) ?_)
  refine CallG.behind [_, _, _] hbl2 ?_
  rintro r J5 _ hs5 ⟨e5, rfl⟩
  cases e5
  repeat (first | (refine still_in ?_; first | refine still_nil ?_ | refine still_drop (by decide) ?_ | (refine still_keep (by decide) rfl ?_ ?_; first | exact QuV.lN cok 0 rfl rfl rfl rfl rfl (by first | exact Nat.le_of_ble_eq_true rfl | omega | (dsimp only; omega) | (simp only [addS_eq, mulS_eq]; omega)) rfl | exact QuV.l1 cok 3 rfl rfl rfl rfl rfl (by first | exact Nat.le_of_ble_eq_true rfl | omega | (dsimp only; omega) | (simp only [addS_eq, mulS_eq]; omega)) (by assumption) | exact QuV.of (QuG.rowA cok 3 rfl rfl rfl rfl rfl (by assumption) (by assumption) (by first | exact Nat.le_of_ble_eq_true rfl | omega | (dsimp only; omega)) rfl))))
  refine (mAdd0 (n := 0) (by decide)).mono ?_
  rintro r _ - ⟨rfl, rfl⟩
  repeat (first | (refine still_in ?_; first | refine still_nil ?_ | refine still_drop (by decide) ?_ | (refine still_keep (by decide) rfl ?_ ?_; first | exact QuV.l1 cok 3 rfl rfl rfl rfl rfl (by first | exact Nat.le_of_ble_eq_true rfl | omega | (dsimp only; omega) | (simp only [addS_eq, mulS_eq]; omega)) (by assumption) | exact QuV.of (QuG.rowA cok 3 rfl rfl rfl rfl rfl (by assumption) (by assumption) (by first | exact Nat.le_of_ble_eq_true rfl | omega | (dsimp only; omega)) rfl))))
  refine CallG.behind [_, _, _] hpb2 ?_
  rintro r J6 _ hs6 ⟨rfl, c2, G2, V2, e6, hV2, hO2, hR2, ha2, hj2, ho2⟩
  cases e6
  have hF2 := hF1.out ho2
  have k2 := hF2.mS
  have t2 := hF2.st
  have rt2 := hF2.rt
  have md2 := hF2.made
  have hmdl : (bvs (List.replicate 20 0)).length = 20 := rfl
  have hlg : w.lg = V2.lg := hR2.lg
  have h5' : ∀ t ∈ V2.lg, t.2.1.length < 5 := hlg ▸ h5
  have hlo := fun (J : Ent → Prop) (hs : HL.Sub I J) => vLoggedS (M := M) (cb := cb) (T := T) hsz (hV2.up hs) hO2 h5'
  rw [← hlg] at hlo
  repeat (first | (refine SeqS.slots cok [(0, ptr cb 0), (2, ptr b2 0), (8, .int .u64 ((_ : Nat) : Int)), (9, ptr b9 0), (10, ptr b10 0)] ⟨rfl, rfl, rfl, rfl, rfl, trivial⟩ fun e => ?_) | (refine QuG.keep ?_; first | refine QuG.l1E cok 3 rfl rfl rfl rfl rfl (by first | exact Nat.le_of_ble_eq_true rfl | omega | (dsimp only; omega) | (simp only [addS_eq, mulS_eq]; omega)) (by assumption) ?_) | (refine still_in ?_; first | refine still_drop (by decide) ?_) | refine W.drawI 12 cok [0, 1, 3, 7, 0, 0, 32, 96, 224, 480, 0, 1024, 3072, 7168, 16352, 32767, 0, 131071] [0, 1, 2, 3, 4, 5, 6, 7, 8, 10, 11, 12, 13, 9, 14, 15, 16, 17] [3, 8, 13] (by kernel_rfl) (by kernel_rfl) ?_)
  refine callBS (eCopied (Byt.ext hrt)) fun oa oc J7 hs7 hoN => ?_
  repeat (first | (refine still_in ?_; first | refine still_nil ?_ | refine still_drop (by decide) ?_ | (refine still_keep (by decide) rfl ?_ ?_; first | exact QuV.l1 cok 3 rfl rfl rfl rfl rfl (by first | exact Nat.le_of_ble_eq_true rfl | omega | (dsimp only; omega) | (simp only [addS_eq, mulS_eq]; omega)) (by assumption))))
  refine CallG.behind [_, _, _] (hlo J7 hs7) ?_
  rintro r J8 _ hs8 ⟨J8', la, ln, lc, e8, rfl, hlN⟩
  cases e8
  replace hs8 : HL.Sub J7 J8 := hs8
  repeat (first | refine And.intro (fillOk_of (Eq.refl true)) ?_ | refine And.intro (Eq.refl true) ?_ | (refine still_in ?_; first | refine still_drop (by decide) ?_ | (refine still_keep (by decide) rfl ?_ ?_; first | exact QuV.l1 cok 3 rfl rfl rfl rfl rfl (by first | exact Nat.le_of_ble_eq_true rfl | omega | (dsimp only; omega) | (simp only [addS_eq, mulS_eq]; omega)) (by assumption))))
  intro b11
  repeat (first | (refine QuG.keep ?_; refine QuG.rowE cok (x := ⟨cb, sz, T, c2⟩) md2 (.inr (by simp)) rfl rfl rfl rfl rfl rfl (by show _ + 20 ≤ sz; omega) ?_) | (refine SeqS.slots cok [(0, ptr cb 0), (2, ptr b2 0), (11, ptr b11 0), (177, .bool _)] ⟨rfl, rfl, rfl, rfl, trivial⟩ fun e => ?_) | (refine SeqS.slots cok [(0, ptr cb 0), (2, ptr b2 0), (11, ptr b11 0)] ⟨rfl, rfl, rfl, trivial⟩ fun e => ?_) | (refine QuG.keep ?_; first | refine QuG.l1E cok 4 rfl rfl rfl rfl rfl (by first | exact Nat.le_of_ble_eq_true rfl | omega | (dsimp only; omega) | (simp only [addS_eq, mulS_eq]; omega)) (by assumption) ?_) | (refine OpG.keep ?_; first | refine OpG.upS cok 0 rfl rfl rfl rfl rfl (by assumption) (by first | assumption | exact one_bvs _) (by first | exact Nat.le_of_ble_eq_true rfl | omega) ?_) | (refine QuG.keep ?_; first | refine QuG.lN cok 0 rfl rfl rfl rfl rfl (by first | exact Nat.le_of_ble_eq_true rfl | omega | (dsimp only; omega) | (simp only [addS_eq, mulS_eq]; omega)) ?_) | (refine still_in ?_; first | refine still_drop (by decide) ?_) | (refine LdG.keep ?_; first | refine LdG.lN cok 3 rfl rfl rfl rfl rfl (by first | exact Nat.le_of_ble_eq_true rfl | omega | (dsimp only; omega) | (simp only [addS_eq, mulS_eq]; omega)) ?_) | (refine OpG.keep ?_; first | refine OpG.sL cok 0 rfl rfl rfl rfl rfl rfl rfl (by first | exact Nat.le_of_ble_eq_true rfl | omega | (dsimp only; omega) | (simp only [addS_eq, mulS_eq]; omega)) ?_ | refine OpG.sL cok 3 rfl rfl rfl rfl rfl rfl rfl (by first | exact Nat.le_of_ble_eq_true rfl | omega | (dsimp only; omega) | (simp only [addS_eq, mulS_eq]; omega)) ?_) | (refine CondS.keep ?_; first | refine CondS.d1 rfl (by omega) ?_))
  refine Fin.drop (⟨cb, sz, T, c2⟩ :: (M ++ G2)) [_, _, _, _] ?_
  exact ⟨_, c2, G2, V2, _, _, rfl, rfl, (hV2.up hs7).up hs8, hO2, hR2, by omega, hoN.mono hs8 (by simp), hlN, ho1.trans ho2⟩
/-- engine.pay -/
theorem ePayB {I : Ent → Prop} {M G : List Ent} {cb sz gas g st rn rc : Nat} {T : TypeId} {c : Nat → Value} {K : YK} {V : Vl} {w : YW} {ra : Option Addr} {out : List Nat} (hsz : 27019 ≤ sz) (hF : PayF cb c gas g st ra rn rc) (hV : VI I c V G) (hO : VOk V) (hR : RW K V w) (hB : VB V) (hrt : Byt ⟨I, []⟩ (.slice ra rn rc) out) (hg : gas ≤ 1048576) (hgg : g ≤ gas) (hst : st < 256) (hz : 0 < st) (h5 : ∀ t ∈ w.lg, t.2.1.length < 5)
    (hbal : (getA w.al (adNo 240)).bal = 2 ^ 128) (had : (getA w.al (adNo 240)).addr = adNo 240) (hcb : (getA (putA { getA w.al (adNo 240) with bal := 2 ^ 128 } w.al) (adNo 192)).bal = 0) (hcd : (getA (putA { getA w.al (adNo 240) with bal := 2 ^ 128 } w.al) (adNo 192)).addr = adNo 192) :
    CallG Hvaf.prog 47 #[ptr cb 0] ⟨I, ⟨cb, sz, T, c⟩ :: (M ++ G)⟩ (PayP cb sz T M c K w gas g st out) := by
  have hmS := hF.mS
  have hph := hF.ph
  have hgs := hF.gs
  have hlm := hF.lim
  have hpr := hF.pr
  have hog := hF.og
  have hwl : (wcs 0).length = 4 := rfl
  have h240 : (bvs (adNo 240)).length = 20 := rfl
  have h192 : (bvs (adNo 192)).length = 20 := rfl
  have hzl : (bvs z32).length = 32 := rfl
  have hbf : Row c 2347 (bvs z32) := row_sub (p := 87) (us := bvs z32) hF.env rfl
  have hba := hB.ac
  have hbj := hB.jr
  have hrfb := hO.rfl'
  have hsi := vSizes (R := M) (cb := cb) (T := T) hsz hV hO
  have hre := vRefund (R := M) (cb := cb) (T := T) hsz hV
  rw [← hR.rf] at hre
  have hrf2 : w.rf < 2 ^ 40 := by rw [hR.rf]; exact hrfb
  have hmu := fun S n (hn : n < 18446744073709551616) => mMul0 (S := S) (g := n) hn
  have hb1 : (V.acc (adNo 240)).bal = 2 ^ 128 := (hR.acc (adNo 240)).2.1.symm.trans hbal
  have hbl := vBalance (R := M) (cb := cb) (T := T) hsz hV hO (a := adNo 240) ⟨rfl, by decide⟩
  rw [hb1] at hbl
  have hpb := vPutBalR (M := M) (cb := cb) (T := T) (n := 2 ^ 128) hsz hV hO hR (a := adNo 240) ⟨rfl, by decide⟩ (by omega) (by omega) (by decide) had
  unfold PayP
  refine CallG.start (C := mkC Hvaf.prog) cok (args := [ptr cb 0]) Hvaf.func47 rfl Hvaf.ntmps47 (by simp) (by kernel_rfl) ?_
  intro b2
  repeat (first | (refine QuG.keep ?_; first | refine QuG.l1E cok 1 rfl rfl rfl rfl rfl (by first | exact Nat.le_of_ble_eq_true rfl | omega | (dsimp only; omega) | (simp only [addS_eq, mulS_eq]; omega)) (by assumption) ?_ | refine QuG.rowA cok 1 rfl rfl rfl rfl rfl (by assumption) (by assumption) (by first | exact Nat.le_of_ble_eq_true rfl | omega | (dsimp only; omega) | (simp only [addS_eq, mulS_eq]; omega)) ?_) | refine SeqS.go cok ?_ | refine GuardS.yes rfl ?_ | refine And.intro (by dsimp only; omega) ?_ | (refine NatS.keep ?_; first | with_reducible refine NatS.lit ?_) | refine W.drawI 1 cok [0, 1, 3, 7, 15, 31, 63, 127, 255, 511, 1023, 2047, 4095, 8191, 16383, 32767, 65535, 131071, 262143, 8191, 532479, 1581055, 3678207, 8388607, 16777215, 33554431, 67108863, 134217727, 268435455, 536870911, 67108863, 1140850687, 3288334335, 7583301631, 16173236223, 33353105407, 68719476735, 137438953471] [0, 1, 2, 3, 4, 5, 6, 7, 8, 9, 10, 11, 12, 13, 14, 15, 16, 17, 18, 19, 20, 21, 22, 23, 24, 25, 26, 27, 28, 29, 30, 31, 32, 33, 34, 35, 36, 37] [3, 9, 18, 22, 29, 34] (by kernel_rfl) (by kernel_rfl) ?_ | (refine GuardS.keep ?_; first | refine GuardS.F0 rfl (by omega) ?_))
  refine mFB0.mono ?_
  rintro r _ - ⟨rfl, rfl⟩
  repeat (first | refine GuardS.yes rfl ?_ | (refine still_in ?_; first | refine still_drop (by decide) ?_ | (refine still_keep (by decide) rfl ?_ ?_; first | exact QuV.of (QuG.rowA cok 1 rfl rfl rfl rfl rfl (by assumption) (by assumption) (by first | exact Nat.le_of_ble_eq_true rfl | omega | (dsimp only; omega)) rfl))))
  refine (ULt_spec (a := 0) (b := 0) (by decide) (by decide)).mono ?_
  rintro r _ - ⟨rfl, rfl⟩
  repeat (first | (refine QuG.keep ?_; first | refine QuG.l1E cok 1 rfl rfl rfl rfl rfl (by first | exact Nat.le_of_ble_eq_true rfl | omega | (dsimp only; omega) | (simp only [addS_eq, mulS_eq]; omega)) (by assumption) ?_) | refine SeqS.go cok ?_ | refine CondS.f rfl ?_ | (refine still_in ?_; first | refine still_drop (by decide) ?_))
  refine CallG.behind [_] hsi ?_
  rintro r J1 _ hs1 ⟨e1, rfl⟩
  cases e1
  repeat (first | (refine QuG.keep ?_; first | refine QuG.l1E cok 1 rfl rfl rfl rfl rfl (by first | exact Nat.le_of_ble_eq_true rfl | omega | (dsimp only; omega) | (simp only [addS_eq, mulS_eq]; omega)) (by assumption) ?_) | refine SeqS.go cok ?_ | refine GuardS.yes rfl ?_ | refine And.intro (by dsimp only; omega) ?_ | (refine NatS.keep ?_; first | with_reducible refine NatS.lit ?_) | (refine ValS.keep ?_; first | (with_reducible refine ValS.kU64 ?_; first | (with_reducible refine ValS.subU64 ?_ ?_ ?_ ; omega; omega))) | refine W.drawI 6 cok [0, 1, 3, 7, 0, 16, 48, 112, 240, 496, 1023, 2047] [0, 1, 2, 3, 4, 5, 6, 7, 8, 9, 10, 11] [3, 9] (by kernel_rfl) (by kernel_rfl) ?_ | (refine GuardS.keep ?_; first | refine GuardS.F0 rfl (by omega) ?_) | (refine CondS.keep ?_; first | refine CondS.d0 rfl (by omega) ?_))
  refine CallG.behind [_] hre ?_
  rintro r J2 _ hs2 ⟨e2, rfl⟩
  cases e2
  repeat (first | (refine SeqS.slots cok [(0, ptr cb 0), (2, ptr b2 0), (8, .int .u64 ((_ : Nat) : Int))] ⟨rfl, rfl, rfl, trivial⟩ fun e => ?_) | (refine QuG.keep ?_; first | refine QuG.l1E cok 1 rfl rfl rfl rfl rfl (by first | exact Nat.le_of_ble_eq_true rfl | omega | (dsimp only; omega) | (simp only [addS_eq, mulS_eq]; omega)) (by assumption) ?_ | refine QuG.rowA cok 1 rfl rfl rfl rfl rfl (by assumption) (by assumption) (by first | exact Nat.le_of_ble_eq_true rfl | omega | (dsimp only; omega) | (simp only [addS_eq, mulS_eq]; omega)) ?_) | refine And.intro (fillOk_of (Eq.refl true)) ?_ | refine And.intro (by omega) ?_ | (refine ValS.keep ?_; first | (with_reducible refine ValS.kU64 ?_; first | (with_reducible refine ValS.subU64 ?_ ?_ ?_ ; omega; omega) | (with_reducible refine ValS.quoU64_L ?_ ?_ ; omega) | with_reducible refine ValS.minN ?_)) | refine W.drawI 8 cok [0, 1, 3, 7, 0, 31, 63, 0, 128, 384, 896, 2047, 0, 8191] [0, 1, 2, 3, 4, 5, 6, 7, 8, 9, 10, 11, 12, 13] [3, 10] (by kernel_rfl) (by kernel_rfl) ?_)
  refine (hmu _ _ (by omega)).mono ?_
  rintro r _ - ⟨rfl, rfl⟩
  repeat (first | (refine still_in ?_; first | refine still_nil ?_ | refine still_drop (by decide) ?_))
  intro b9
  repeat (first | (refine SeqS.slots cok [(0, ptr cb 0), (2, ptr b2 0), (8, .int .u64 ((_ : Nat) : Int)), (9, ptr b9 0)] ⟨rfl, rfl, rfl, rfl, trivial⟩ fun e => ?_) | (refine QuG.keep ?_; first | refine QuG.rowA cok 2 rfl rfl rfl rfl rfl (by assumption) (by assumption) (by first | exact Nat.le_of_ble_eq_true rfl | omega | (dsimp only; omega) | (simp only [addS_eq, mulS_eq]; omega)) ?_) | refine And.intro (fillOk_of (Eq.refl true)) ?_ | (refine still_in ?_; first | refine still_drop (by decide) ?_) | (refine OpG.keep ?_; first | refine OpG.sL cok 0 rfl rfl rfl rfl rfl rfl rfl (by first | exact Nat.le_of_ble_eq_true rfl | omega | (dsimp only; omega) | (simp only [addS_eq, mulS_eq]; omega)) ?_) | refine W.drawI 9 cok [0, 1, 0, 4, 12, 28, 0, 64, 192, 448, 960, 1984, 4092, 8191, 0, 32767] [0, 1, 2, 3, 4, 5, 6, 7, 8, 9, 10, 11, 12, 13, 14, 15] [5, 10] (by kernel_rfl) (by kernel_rfl) ?_)
  refine mFB0.mono ?_
  rintro r _ - ⟨rfl, rfl⟩
  repeat (first | (refine still_in ?_; first | refine still_nil ?_ | refine still_drop (by decide) ?_ | (refine still_keep (by decide) rfl ?_ ?_; first | exact QuV.of (QuG.rowA cok 2 rfl rfl rfl rfl rfl (by assumption) (by assumption) (by first | exact Nat.le_of_ble_eq_true rfl | omega | (dsimp only; omega)) rfl))))
  refine mSubZ.mono ?_
  rintro r _ - ⟨rfl, rfl⟩
  repeat (first | (refine still_in ?_; first | refine still_nil ?_ | refine still_drop (by decide) ?_))
  refine (hmu _ _ (by omega)).mono ?_
  rintro r _ - ⟨rfl, rfl⟩
  repeat (first | (refine still_in ?_; first | refine still_nil ?_ | refine still_drop (by decide) ?_))
  intro b10
  repeat (first | (refine SeqS.slots cok [(0, ptr cb 0), (2, ptr b2 0), (8, .int .u64 ((_ : Nat) : Int)), (9, ptr b9 0), (10, ptr b10 0)] ⟨rfl, rfl, rfl, rfl, rfl, trivial⟩ fun e => ?_) | (refine QuG.keep ?_; first | refine QuG.l1E cok 3 rfl rfl rfl rfl rfl (by first | exact Nat.le_of_ble_eq_true rfl | omega | (dsimp only; omega) | (simp only [addS_eq, mulS_eq]; omega)) (by assumption) ?_ | refine QuG.upL cok 1 rfl rfl rfl rfl rfl rfl (by assumption) (by first | exact Nat.le_of_ble_eq_true rfl | omega) ?_ | refine QuG.rowA cok 3 rfl rfl rfl rfl rfl (by assumption) (by assumption) (by first | exact Nat.le_of_ble_eq_true rfl | omega | (dsimp only; omega) | (simp only [addS_eq, mulS_eq]; omega)) ?_) | (refine still_in ?_; first | refine still_drop (by decide) ?_) | (refine OpG.keep ?_; first | refine OpG.sL cok 0 rfl rfl rfl rfl rfl rfl rfl (by first | exact Nat.le_of_ble_eq_true rfl | omega | (dsimp only; omega) | (simp only [addS_eq, mulS_eq]; omega)) ?_) | refine W.drawI 10 cok [0, 1, 3, 7, 0, 16, 48, 112, 0, 256, 768, 1792, 0, 4096, 12288, 28672, 65280, 0, 261888, 524287] [0, 1, 2, 3, 4, 5, 6, 7, 8, 9, 10, 11, 12, 13, 14, 15, 17, 16, 18, 19] [3, 7, 11, 15, 17] (by kernel_rfl) (by kernel_rfl) ?_)
  refine CallG.behind [_, _, _] hbl ?_
  rintro r J3 _ hs3 ⟨e3, rfl⟩
  cases e3
  repeat (first | (refine still_in ?_; first | refine still_nil ?_ | refine still_drop (by decide) ?_ | (refine still_keep (by decide) rfl ?_ ?_; first | exact QuV.lN cok 1 rfl rfl rfl rfl rfl (by first | exact Nat.le_of_ble_eq_true rfl | omega | (dsimp only; omega) | (simp only [addS_eq, mulS_eq]; omega)) rfl | exact QuV.l1 cok 3 rfl rfl rfl rfl rfl (by first | exact Nat.le_of_ble_eq_true rfl | omega | (dsimp only; omega) | (simp only [addS_eq, mulS_eq]; omega)) (by assumption) | exact QuV.of (QuG.rowA cok 3 rfl rfl rfl rfl rfl (by assumption) (by assumption) (by first | exact Nat.le_of_ble_eq_true rfl | omega | (dsimp only; omega)) rfl))))
  refine (mAdd0 (n := 2 ^ 128) (by decide)).mono ?_
  rintro r _ - ⟨rfl, rfl⟩
  repeat (first | (refine still_in ?_; first | refine still_nil ?_ | refine still_drop (by decide) ?_ | (refine still_keep (by decide) rfl ?_ ?_; first | exact QuV.l1 cok 3 rfl rfl rfl rfl rfl (by first | exact Nat.le_of_ble_eq_true rfl | omega | (dsimp only; omega) | (simp only [addS_eq, mulS_eq]; omega)) (by assumption) | exact QuV.of (QuG.rowA cok 3 rfl rfl rfl rfl rfl (by assumption) (by assumption) (by first | exact Nat.le_of_ble_eq_true rfl | omega | (dsimp only; omega)) rfl))))
  refine CallG.behind [_, _, _] hpb ?_
  rintro r J4 _ hs4 ⟨rfl, c1, G1, V1, e4, hV1, hO1, hR1, ha1, hj1, ho1⟩
  cases e4
  have hF1 := hF.out ho1
  have k1 := hF1.mS
  have hcb1 : Row c1 2260 (bvs (adNo 192)) := row_sub (p := 0) (us := bvs (adNo 192)) hF1.env rfl
  have hb2 : (V1.acc (adNo 192)).bal = 0 := (hR1.acc (adNo 192)).2.1.symm.trans hcb
  have hbl2 := vBalance (R := M) (cb := cb) (T := T) hsz hV1 hO1 (a := adNo 192) ⟨rfl, by decide⟩
  rw [hb2] at hbl2
  have hpb2 := vPutBalR (M := M) (cb := cb) (T := T) (n := 0) hsz hV1 hO1 hR1 (a := adNo 192) ⟨rfl, by decide⟩ (by omega) (by omega) (by decide) hcd
  repeat (first | (refine SeqS.slots cok [(0, ptr cb 0), (2, ptr b2 0), (8, .int .u64 ((_ : Nat) : Int)), (9, ptr b9 0), (10, ptr b10 0)] ⟨rfl, rfl, rfl, rfl, rfl, trivial⟩ fun e => ?_) | (refine QuG.keep ?_; first | refine QuG.l1E cok 3 rfl rfl rfl rfl rfl (by first | exact Nat.le_of_ble_eq_true rfl | omega | (dsimp only; omega) | (simp only [addS_eq, mulS_eq]; omega)) (by assumption) ?_ | refine QuG.upL cok 0 rfl rfl rfl rfl rfl rfl (by assumption) (by first | exact Nat.le_of_ble_eq_true rfl | omega) ?_ | refine QuG.rowA cok 3 rfl rfl rfl rfl rfl (by assumption) (by assumption) (by first | exact Nat.le_of_ble_eq_true rfl | omega | (dsimp only; omega) | (simp only [addS_eq, mulS_eq]; omega)) ?_) | (refine still_in ?_; first | refine still_drop (by decide) ?_) | refine W.drawI 11 cok [0, 1, 3, 7, 0, 16, 48, 112, 240, 0, 512, 1536, 3584, 0, 8192, 24576, 57344, 122880, 261632, 0, 1048064, 2097151] [0, 1, 2, 3, 4, 5, 6, 7, 8, 9, 10, 11, 12, 13, 14, 15, 16, 17, 19, 18, 20, 21] [3, 8, 12, 17, 19] (by kernel_rfl) (by kernel_rfl) ?_)
  refine CallG.behind [_, _, _] hbl2 ?_
  rintro r J5 _ hs5 ⟨e5, rfl⟩
  cases e5
  repeat (first | (refine still_in ?_; first | refine still_nil ?_ | refine still_drop (by decide) ?_ | (refine still_keep (by decide) rfl ?_ ?_; first | exact QuV.lN cok 0 rfl rfl rfl rfl rfl (by first | exact Nat.le_of_ble_eq_true rfl | omega | (dsimp only; omega) | (simp only [addS_eq, mulS_eq]; omega)) rfl | exact QuV.l1 cok 3 rfl rfl rfl rfl rfl (by first | exact Nat.le_of_ble_eq_true rfl | omega | (dsimp only; omega) | (simp only [addS_eq, mulS_eq]; omega)) (by assumption) | exact QuV.of (QuG.rowA cok 3 rfl rfl rfl rfl rfl (by assumption) (by assumption) (by first | exact Nat.le_of_ble_eq_true rfl | omega | (dsimp only; omega)) rfl))))
  refine (mAdd0 (n := 0) (by decide)).mono ?_
  rintro r _ - ⟨rfl, rfl⟩
  repeat (first | (refine still_in ?_; first | refine still_nil ?_ | refine still_drop (by decide) ?_ | (refine still_keep (by decide) rfl ?_ ?_; first | exact QuV.l1 cok 3 rfl rfl rfl rfl rfl (by first | exact Nat.le_of_ble_eq_true rfl | omega | (dsimp only; omega) | (simp only [addS_eq, mulS_eq]; omega)) (by assumption) | exact QuV.of (QuG.rowA cok 3 rfl rfl rfl rfl rfl (by assumption) (by assumption) (by first | exact Nat.le_of_ble_eq_true rfl | omega | (dsimp only; omega)) rfl))))
  refine CallG.behind [_, _, _] hpb2 ?_
  rintro r J6 _ hs6 ⟨rfl, c2, G2, V2, e6, hV2, hO2, hR2, ha2, hj2, ho2⟩
  cases e6
  have hF2 := hF1.out ho2
  have k2 := hF2.mS
  have t2 := hF2.st
  have rt2 := hF2.rt
  have md2 := hF2.made
  have hmdl : (bvs (List.replicate 20 0)).length = 20 := rfl
  have hlg : w.lg = V2.lg := hR2.lg
  have h5' : ∀ t ∈ V2.lg, t.2.1.length < 5 := hlg ▸ h5
  have hlo := fun (J : Ent → Prop) (hs : HL.Sub I J) => vLoggedS (M := M) (cb := cb) (T := T) hsz (hV2.up hs) hO2 h5'
  rw [← hlg] at hlo
  repeat (first | (refine SeqS.slots cok [(0, ptr cb 0), (2, ptr b2 0), (8, .int .u64 ((_ : Nat) : Int)), (9, ptr b9 0), (10, ptr b10 0)] ⟨rfl, rfl, rfl, rfl, rfl, trivial⟩ fun e => ?_) | (refine QuG.keep ?_; first | refine QuG.l1E cok 3 rfl rfl rfl rfl rfl (by first | exact Nat.le_of_ble_eq_true rfl | omega | (dsimp only; omega) | (simp only [addS_eq, mulS_eq]; omega)) (by assumption) ?_) | (refine still_in ?_; first | refine still_drop (by decide) ?_) | refine W.drawI 12 cok [0, 1, 3, 7, 0, 0, 32, 96, 224, 480, 0, 1024, 3072, 7168, 16352, 32767, 0, 131071] [0, 1, 2, 3, 4, 5, 6, 7, 8, 10, 11, 12, 13, 9, 14, 15, 16, 17] [3, 8, 13] (by kernel_rfl) (by kernel_rfl) ?_)
  refine callBS (eCopied (Byt.ext hrt)) fun oa oc J7 hs7 hoN => ?_
  repeat (first | (refine still_in ?_; first | refine still_nil ?_ | refine still_drop (by decide) ?_ | (refine still_keep (by decide) rfl ?_ ?_; first | exact QuV.l1 cok 3 rfl rfl rfl rfl rfl (by first | exact Nat.le_of_ble_eq_true rfl | omega | (dsimp only; omega) | (simp only [addS_eq, mulS_eq]; omega)) (by assumption))))
  refine CallG.behind [_, _, _] (hlo J7 hs7) ?_
  rintro r J8 _ hs8 ⟨J8', la, ln, lc, e8, rfl, hlN⟩
  cases e8
  replace hs8 : HL.Sub J7 J8 := hs8
  repeat (first | refine And.intro (fillOk_of (Eq.refl true)) ?_ | refine And.intro (Eq.refl true) ?_ | (refine still_in ?_; first | refine still_drop (by decide) ?_ | (refine still_keep (by decide) rfl ?_ ?_; first | exact QuV.l1 cok 3 rfl rfl rfl rfl rfl (by first | exact Nat.le_of_ble_eq_true rfl | omega | (dsimp only; omega) | (simp only [addS_eq, mulS_eq]; omega)) (by assumption))))
  intro b11
  repeat (first | (refine SeqS.slots cok [(0, ptr cb 0), (2, ptr b2 0), (11, ptr b11 0), (177, .bool _)] ⟨rfl, rfl, rfl, rfl, trivial⟩ fun e => ?_) | (refine SeqS.slots cok [(0, ptr cb 0), (2, ptr b2 0), (11, ptr b11 0)] ⟨rfl, rfl, rfl, trivial⟩ fun e => ?_) | (refine QuG.keep ?_; first | refine QuG.l1E cok 4 rfl rfl rfl rfl rfl (by first | exact Nat.le_of_ble_eq_true rfl | omega | (dsimp only; omega) | (simp only [addS_eq, mulS_eq]; omega)) (by assumption) ?_) | (refine QuG.keep ?_; first | refine QuG.lN cok 0 rfl rfl rfl rfl rfl (by first | exact Nat.le_of_ble_eq_true rfl | omega | (dsimp only; omega) | (simp only [addS_eq, mulS_eq]; omega)) ?_) | (refine still_in ?_; first | refine still_drop (by decide) ?_) | (refine LdG.keep ?_; first | refine LdG.lN cok 3 rfl rfl rfl rfl rfl (by first | exact Nat.le_of_ble_eq_true rfl | omega | (dsimp only; omega) | (simp only [addS_eq, mulS_eq]; omega)) ?_) | (refine OpG.keep ?_; first | refine OpG.sL cok 0 rfl rfl rfl rfl rfl rfl rfl (by first | exact Nat.le_of_ble_eq_true rfl | omega | (dsimp only; omega) | (simp only [addS_eq, mulS_eq]; omega)) ?_ | refine OpG.sL cok 3 rfl rfl rfl rfl rfl rfl rfl (by first | exact Nat.le_of_ble_eq_true rfl | omega | (dsimp only; omega) | (simp only [addS_eq, mulS_eq]; omega)) ?_) | (refine CondS.keep ?_; first | refine CondS.d0 rfl (by omega) ?_))
  refine Fin.drop (⟨cb, sz, T, c2⟩ :: (M ++ G2)) [_, _, _, _] ?_
  exact ⟨_, c2, G2, V2, _, _, rfl, rfl, (hV2.up hs7).up hs8, hO2, hR2, by omega, hoN.mono hs8 (by simp), hlN, ho1.trans ho2⟩
end Go.Proofs.YgvafwGreat
