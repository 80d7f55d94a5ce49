import Derived.Test.YgvafwGreatE67u
set_option exponentiation.threshold 1000
set_option maxRecDepth 100000
set_option maxHeartbeats 40000000
set_option linter.unusedVariables false
set_option linter.unusedSimpArgs false
-- v2
-- v4
-- v5
-- v6
-- v7
namespace Go.Proofs.YgvafwGreat
open Go.HL Go.Proofs

/-- engine.Open -/
theorem eOpen {I : Ent → Prop} {G : List Ent} {cb sz gas dc : Nat} {T : TypeId} {c : Nat → Value} {V : Vl} {da : Option Addr} {ds code : List Nat} (hsz : 27019 ≤ sz) (hM : MIdl cb c) (hV : VI I c V G) (hQ : VQ (K0 code ds waN) V (w00 code) 0) (hNd : Byt ⟨I, []⟩ (.slice da ds.length dc) ds) (hg : gas ≤ 1048576) (hd : ds.length ≤ 1024) (hi : intN ds ≤ gas) (hcl : code.length ≤ 256) :
    CallG Hvaf.prog 45 #[ptr cb 0, txV (.slice da ds.length dc) gas] ⟨I, ⟨cb, sz, T, c⟩ :: G⟩ fun r S' => r = .int .u8 0 ∧ ∃ J c' G' V', S' = ⟨J, ⟨cb, sz, T, c'⟩ :: G'⟩ ∧ NI J cb sz c' (K0 code ds waN) V' ⟨0, gas - intN ds, [], [], W0 code waN⟩ [] G' ∧ c' 2406 = .int .u8 1 ∧ c' 2407 = .int .u64 (gas : Nat) ∧ Row c' 2415 (bvs (List.replicate 20 0)) ∧ c' 27023 = c 27023 := by
  have hA := hQ.rw.acc (adNo 240)
  have hvd := eVerdict0 (G := G) (cb := cb) (T := T) hsz hM.vd hV hQ.ok hNd hg hd hi hA.1.symm hA.2.2.symm hA.2.1.symm
  have hsp := fun (J : Ent → Prop) (hs : HL.Sub I J) => eSpacious (G := G) (cb := cb) (T := T) hsz (hV.up hs) hQ.ok hM.vd.mS hM.top hM.a10 hQ.nm (by rw [hQ.jl]; decide)
  have hsz2 := fun (J : Ent → Prop) (hs : HL.Sub I J) => vSizes (R := []) (cb := cb) (T := T) hsz (hV.up hs) hQ.ok
  have hin := fun (J : Ent → Prop) (hs : HL.Sub I J) (G : List Ent) => mIntrinsic (G := G) (gas := gas) (hNd.mono hs (by simp)) hd
  have hmS := hM.vd.mS
  have hap := hM.vd.ap
  have hib : intN ds < 2 ^ 30 := by have := zcN_le ds; unfold intN; omega
  have hmu := fun S => mMul0 (S := S) (g := gas) (by omega)
  have hla := hQ.ok.aln
  have hls := hQ.ok.sln
  refine CallG.start (C := mkC Hvaf.prog) cok (args := [ptr cb 0, txV (.slice da ds.length dc) gas]) Hvaf.func45 rfl Hvaf.ntmps45 (by simp) (by kernel_rfl) ?_
  intro b3
  repeat (first | refine SeqS.go cok ?_ | (refine QuG.keep ?_; first | refine QuG.lN cok 0 rfl rfl rfl rfl rfl (by first | exact Nat.le_of_ble_eq_true rfl | omega | (dsimp only; omega) | (simp only [addS_eq, mulS_eq]; omega)) ?_))
  refine CallG.behind [_] hvd ?_
  rintro r J1 _ hs1 ⟨e1, rfl⟩
  cases e1
  replace hs1 : HL.Sub I J1 := hs1
  intro b6
  repeat (first | refine SeqS.go cok ?_ | refine CondS.f rfl ?_ | (refine OpG.keep ?_; first | refine OpG.sL cok 0 rfl rfl rfl rfl rfl rfl rfl (by first | exact Nat.le_of_ble_eq_true rfl | omega | (dsimp only; omega) | (simp only [addS_eq, mulS_eq]; omega)) ?_))
  refine CallG.behind [_, _] (hsp J1 hs1) ?_
  rintro r J2 _ hs2 ⟨e2, rfl⟩
  cases e2
  repeat (first | (refine QuG.keep ?_; first | refine QuG.l1E cok 2 rfl rfl rfl rfl rfl (by first | exact Nat.le_of_ble_eq_true rfl | omega | (dsimp only; omega) | (simp only [addS_eq, mulS_eq]; omega)) (by assumption) ?_) | refine SeqS.go cok ?_ | refine CondS.f rfl ?_)
  refine CallG.behind [_, _] (hsz2 J1 hs1) ?_
  rintro r J3 _ hs3 ⟨e3, rfl⟩
  cases e3
  repeat (first | refine SeqS.go cok ?_ | (refine QuG.keep ?_; first | refine QuG.lN cok 1 rfl rfl rfl rfl rfl (by first | exact Nat.le_of_ble_eq_true rfl | omega | (dsimp only; omega) | (simp only [addS_eq, mulS_eq]; omega)) ?_))
  intro b11
  repeat (first | (refine SeqS.slots cok [(0, ptr cb 0), (3, ptr b3 0), (6, ptr b6 0), (7, .int .i32 (V.ac.length : Nat)), (8, .int .i32 (V.sl.length : Nat)), (11, ptr b11 0), (42, .bool false)] ⟨rfl, rfl, rfl, rfl, rfl, rfl, rfl, trivial⟩ fun e => ?_) | (refine SeqS.slots cok [(0, ptr cb 0), (3, ptr b3 0), (6, ptr b6 0), (7, .int .i32 (V.ac.length : Nat)), (8, .int .i32 (V.sl.length : Nat)), (11, ptr b11 0)] ⟨rfl, rfl, rfl, rfl, rfl, rfl, trivial⟩ fun e => ?_) | (refine QuG.keep ?_; first | refine QuG.l1E cok 3 rfl rfl rfl rfl rfl (by first | exact Nat.le_of_ble_eq_true rfl | omega | (dsimp only; omega) | (simp only [addS_eq, mulS_eq]; omega)) (by assumption) ?_) | refine CondS.f rfl ?_ | refine And.intro (fillOk_of (Eq.refl true)) ?_ | (refine ValS.keep ?_; first | (with_reducible refine ValS.kU8 ?_; first | (with_reducible refine ValS.addU8_LL ?_ ?_ ; omega))) | (refine QuG.keep ?_; first | refine QuG.l1 cok 2 rfl rfl rfl rfl rfl (by first | exact Nat.le_of_ble_eq_true rfl | omega | (dsimp only; omega) | (simp only [addS_eq, mulS_eq]; omega)) ?_ | refine QuG.lN cok 2 rfl rfl rfl rfl rfl (by first | exact Nat.le_of_ble_eq_true rfl | omega | (dsimp only; omega) | (simp only [addS_eq, mulS_eq]; omega)) ?_) | (refine OpG.keep ?_; first | refine OpG.s1 cok 3 rfl rfl rfl rfl rfl (by first | exact Nat.le_of_ble_eq_true rfl | omega | (dsimp only; omega) | (simp only [addS_eq, mulS_eq]; omega)) rfl rfl ?_ | refine OpG.sL cok 0 rfl rfl rfl rfl rfl rfl rfl (by first | exact Nat.le_of_ble_eq_true rfl | omega | (dsimp only; omega) | (simp only [addS_eq, mulS_eq]; omega)) ?_ | refine OpG.sL cok 3 rfl rfl rfl rfl rfl rfl rfl (by first | exact Nat.le_of_ble_eq_true rfl | omega | (dsimp only; omega) | (simp only [addS_eq, mulS_eq]; omega)) ?_) | refine W.drawI 16 cok [0, 0, 2, 0, 8, 30, 63, 127, 255] [0, 1, 2, 3, 4, 5, 6, 7, 8] [2, 3] (by kernel_rfl) (by kernel_rfl) ?_)
  refine (hin J1 hs1 _).mono ?_
  rintro r _ - ⟨rfl, rfl⟩
  repeat (first | (refine SeqS.slots cok [(0, ptr cb 0), (3, ptr b3 0), (6, ptr b6 0), (7, .int .i32 (V.ac.length : Nat)), (8, .int .i32 (V.sl.length : Nat)), (11, ptr b11 0), (42, .bool false)] ⟨rfl, rfl, rfl, rfl, rfl, rfl, rfl, trivial⟩ fun e => ?_) | refine And.intro (fillOk_of (Eq.refl true)) ?_ | (refine ValS.keep ?_; first | (with_reducible refine ValS.kU64 ?_; first | (with_reducible refine ValS.subU64 ?_ ?_ ?_ ; omega; omega))) | (refine QuG.keep ?_; first | refine QuG.l1 cok 2 rfl rfl rfl rfl rfl (by first | exact Nat.le_of_ble_eq_true rfl | omega | (dsimp only; omega) | (simp only [addS_eq, mulS_eq]; omega)) ?_ | refine QuG.lN cok 1 rfl rfl rfl rfl rfl (by first | exact Nat.le_of_ble_eq_true rfl | omega | (dsimp only; omega) | (simp only [addS_eq, mulS_eq]; omega)) ?_) | (refine still_in ?_; first | refine still_drop (by decide) ?_ | (refine still_keep (by decide) rfl ?_ ?_; first | exact QuV.l1 cok 2 rfl rfl rfl rfl rfl (by first | exact Nat.le_of_ble_eq_true rfl | omega | (dsimp only; omega) | (simp only [addS_eq, mulS_eq]; omega)) rfl)) | (refine OpG.keep ?_; first | refine OpG.s1 cok 3 rfl rfl rfl rfl rfl (by first | exact Nat.le_of_ble_eq_true rfl | omega | (dsimp only; omega) | (simp only [addS_eq, mulS_eq]; omega)) rfl rfl ?_))
  refine (hmu _).mono ?_
  rintro r _ - ⟨rfl, rfl⟩
  have f0 : OpF cb (opC c gas (gas - intN ds) V.ac.length V.sl.length) gas (gas - intN ds) := opF0 hM
  have hV0 : VI J1 (opC c gas (gas - intN ds) V.ac.length V.sl.length) V G := VI.congr (hV.up hs1) fun k h1 h2 => opC_V h1
  repeat (first | (refine SeqS.slots cok [(0, ptr cb 0), (3, ptr b3 0), (6, ptr b6 0), (11, ptr b11 0)] ⟨rfl, rfl, rfl, rfl, trivial⟩ fun e => ?_) | (refine QuG.keep ?_; first | refine QuG.l1E cok 3 rfl rfl rfl rfl rfl (by first | exact Nat.le_of_ble_eq_true rfl | omega | (dsimp only; omega) | (simp only [addS_eq, mulS_eq]; omega)) (by assumption) ?_) | (refine ValS.keep ?_; first | (with_reducible refine ValS.kU64 ?_; first | (with_reducible refine ValS.addU64_LL ?_ ?_ ; omega))) | (refine QuG.keep ?_; first | refine QuG.l1 cok 2 rfl rfl rfl rfl rfl (by first | exact Nat.le_of_ble_eq_true rfl | omega | (dsimp only; omega) | (simp only [addS_eq, mulS_eq]; omega)) ?_ | refine QuG.lN cok 1 rfl rfl rfl rfl rfl (by first | exact Nat.le_of_ble_eq_true rfl | omega | (dsimp only; omega) | (simp only [addS_eq, mulS_eq]; omega)) ?_ | refine QuG.lN cok 2 rfl rfl rfl rfl rfl (by first | exact Nat.le_of_ble_eq_true rfl | omega | (dsimp only; omega) | (simp only [addS_eq, mulS_eq]; omega)) ?_) | (refine OpG.keep ?_; first | refine OpG.s1 cok 3 rfl rfl rfl rfl rfl (by first | exact Nat.le_of_ble_eq_true rfl | omega | (dsimp only; omega) | (simp only [addS_eq, mulS_eq]; omega)) rfl rfl ?_ | refine OpG.sL cok 3 rfl rfl rfl rfl rfl rfl rfl (by first | exact Nat.le_of_ble_eq_true rfl | omega | (dsimp only; omega) | (simp only [addS_eq, mulS_eq]; omega)) ?_) | refine W.drawI 21 cok [0, 1, 3, 7, 0, 16, 0, 64, 192, 511] [0, 1, 2, 3, 4, 5, 6, 7, 8, 9] [3, 5, 7] (by kernel_rfl) (by kernel_rfl) ?_)
  refine CallG.behind [_, _, _] (vPutNonceQ (n := 1) (a := adNo 240) hsz hV0 hQ ⟨rfl, by decide⟩ (by decide) (by decide) rfl) ?_
  rintro r J4 _ hs4 ⟨rfl, c1, G1, V1, e4, hV1, hQ1, ho1⟩
  cases e4
  have f1 := f0.out ho1
  have k1 := f1.mS
  have hh1 := f1.held
  have hwl : (wcs 0).length = 4 := rfl
  have hb1 : (V1.acc (adNo 240)).bal = 2 ^ 128 := (hQ1.rw.acc (adNo 240)).2.1.symm
  have hbl := vBalance (R := []) (cb := cb) (T := T) hsz hV1 hQ1.ok (a := adNo 240) ⟨rfl, by decide⟩
  rw [hb1] at hbl
  repeat (first | (refine SeqS.slots cok [(0, ptr cb 0), (3, ptr b3 0), (6, ptr b6 0), (11, ptr b11 0)] ⟨rfl, rfl, rfl, rfl, trivial⟩ fun e => ?_) | (refine QuG.keep ?_; first | refine QuG.l1E cok 3 rfl rfl rfl rfl rfl (by first | exact Nat.le_of_ble_eq_true rfl | omega | (dsimp only; omega) | (simp only [addS_eq, mulS_eq]; omega)) (by assumption) ?_ | refine QuG.rowA cok 3 rfl rfl rfl rfl rfl (by assumption) (by assumption) (by first | exact Nat.le_of_ble_eq_true rfl | omega | (dsimp only; omega) | (simp only [addS_eq, mulS_eq]; omega)) ?_) | (refine QuG.keep ?_; first | refine QuG.lN cok 2 rfl rfl rfl rfl rfl (by first | exact Nat.le_of_ble_eq_true rfl | omega | (dsimp only; omega) | (simp only [addS_eq, mulS_eq]; omega)) ?_) | (refine still_in ?_; first | refine still_drop (by decide) ?_) | refine W.drawI 22 cok [0, 1, 3, 7, 0, 16, 0, 64, 192, 448, 0, 1024, 4032, 0, 8192, 24576, 57344, 131008, 262143] [0, 1, 2, 3, 4, 5, 6, 7, 8, 9, 10, 11, 13, 14, 15, 16, 12, 17, 18] [3, 5, 9, 11, 16] (by kernel_rfl) (by kernel_rfl) ?_)
  refine CallG.behind [_, _, _] hbl ?_
  rintro r J5 _ hs5 ⟨e5, rfl⟩
  cases e5
  repeat (first | (refine still_in ?_; first | refine still_nil ?_ | refine still_drop (by decide) ?_ | (refine still_keep (by decide) rfl ?_ ?_; first | exact QuV.lN cok 2 rfl rfl rfl rfl rfl (by first | exact Nat.le_of_ble_eq_true rfl | omega | (dsimp only; omega) | (simp only [addS_eq, mulS_eq]; omega)) rfl | exact QuV.l1 cok 3 rfl rfl rfl rfl rfl (by first | exact Nat.le_of_ble_eq_true rfl | omega | (dsimp only; omega) | (simp only [addS_eq, mulS_eq]; omega)) (by assumption) | exact QuV.of (QuG.rowA cok 3 rfl rfl rfl rfl rfl (by assumption) (by assumption) (by first | exact Nat.le_of_ble_eq_true rfl | omega | (dsimp only; omega)) rfl))))
  refine mSub0.mono ?_
  rintro r _ - ⟨rfl, rfl⟩
  repeat (first | (refine still_in ?_; first | refine still_nil ?_ | refine still_drop (by decide) ?_ | (refine still_keep (by decide) rfl ?_ ?_; first | exact QuV.lN cok 2 rfl rfl rfl rfl rfl (by first | exact Nat.le_of_ble_eq_true rfl | omega | (dsimp only; omega) | (simp only [addS_eq, mulS_eq]; omega)) rfl | exact QuV.l1 cok 3 rfl rfl rfl rfl rfl (by first | exact Nat.le_of_ble_eq_true rfl | omega | (dsimp only; omega) | (simp only [addS_eq, mulS_eq]; omega)) (by assumption))))
  refine CallG.behind [_, _, _] (vPutBalQ (n := 2 ^ 128) (a := adNo 240) hsz hV1 hQ1 ⟨rfl, by decide⟩ (by decide) (by decide) rfl) ?_
  rintro r J6 _ hs6 ⟨rfl, c2, G2, V2, e6, hV2, hQ2, ho2⟩
  cases e6
  have f2 := f1.out ho2
  have k2 := f2.mS
  repeat (first | (refine SeqS.slots cok [(0, ptr cb 0), (3, ptr b3 0), (6, ptr b6 0), (11, ptr b11 0)] ⟨rfl, rfl, rfl, rfl, trivial⟩ fun e => ?_) | (refine QuG.keep ?_; first | refine QuG.l1E cok 3 rfl rfl rfl rfl rfl (by first | exact Nat.le_of_ble_eq_true rfl | omega | (dsimp only; omega) | (simp only [addS_eq, mulS_eq]; omega)) (by assumption) ?_) | (refine QuG.keep ?_; first | refine QuG.lN cok 2 rfl rfl rfl rfl rfl (by first | exact Nat.le_of_ble_eq_true rfl | omega | (dsimp only; omega) | (simp only [addS_eq, mulS_eq]; omega)) ?_) | (refine still_in ?_; first | refine still_drop (by decide) ?_) | refine W.drawI 23 cok [0, 1, 3, 7, 0, 16, 63] [0, 1, 2, 3, 4, 5, 6] [3, 5] (by kernel_rfl) (by kernel_rfl) ?_)
  refine CallG.behind [_, _, _] (eWarmQ (a := adNo 240) hsz hV2 hQ2 ⟨rfl, by decide⟩ (by decide) (show adNo 240 ∉ ([] : List (List Nat)) by decide)) ?_
  rintro r J7 _ hs7 ⟨c3, G3, V3, e7, hV3, hQ3, ho3⟩
  cases e7
  have f3 := f2.out ho3
  have k3 := f3.mS
  have hcb3 : Row c3 2260 (bvs (adNo 192)) := row_sub (p := 0) (us := bvs (adNo 192)) f3.env rfl
  have h192 : (bvs (adNo 192)).length = 20 := rfl
  repeat (first | (refine SeqS.slots cok [(0, ptr cb 0), (3, ptr b3 0), (6, ptr b6 0), (11, ptr b11 0)] ⟨rfl, rfl, rfl, rfl, trivial⟩ fun e => ?_) | (refine QuG.keep ?_; first | refine QuG.l1E cok 3 rfl rfl rfl rfl rfl (by first | exact Nat.le_of_ble_eq_true rfl | omega | (dsimp only; omega) | (simp only [addS_eq, mulS_eq]; omega)) (by assumption) ?_ | refine QuG.rowA cok 3 rfl rfl rfl rfl rfl (by assumption) (by assumption) (by first | exact Nat.le_of_ble_eq_true rfl | omega | (dsimp only; omega) | (simp only [addS_eq, mulS_eq]; omega)) ?_) | (refine still_in ?_; first | refine still_drop (by decide) ?_) | refine W.drawI 24 cok [0, 1, 3, 7, 0, 16, 48, 112, 240, 511] [0, 1, 2, 3, 4, 5, 6, 7, 8, 9] [3, 8] (by kernel_rfl) (by kernel_rfl) ?_)
  refine CallG.behind [_, _, _] (eWarmQ (a := adNo 192) hsz hV3 hQ3 ⟨rfl, by decide⟩ (by decide) (show adNo 192 ∉ withA (adNo 240) [] by decide)) ?_
  rintro r J8 _ hs8 ⟨c4, G4, V4, e8, hV4, hQ4, ho4⟩
  cases e8
  have f4 := f3.out ho4
  have k4 := f4.mS
  repeat (first | (refine SeqS.slots cok [(0, ptr cb 0), (3, ptr b3 0), (6, ptr b6 0), (11, ptr b11 0)] ⟨rfl, rfl, rfl, rfl, trivial⟩ fun e => ?_) | (refine QuG.keep ?_; first | refine QuG.l1E cok 3 rfl rfl rfl rfl rfl (by first | exact Nat.le_of_ble_eq_true rfl | omega | (dsimp only; omega) | (simp only [addS_eq, mulS_eq]; omega)) (by assumption) ?_ | refine QuG.upL cok 0 rfl rfl rfl rfl rfl rfl (by assumption) (by first | exact Nat.le_of_ble_eq_true rfl | omega) ?_) | (refine still_in ?_; first | refine still_drop (by decide) ?_) | refine W.drawI 25 cok [0, 1, 3, 7, 0, 31] [0, 1, 2, 3, 4, 5] [3, 4] (by kernel_rfl) (by kernel_rfl) ?_)
  refine CallG.behind [_, _, _] (eWarmQ (a := adNo 1) hsz hV4 hQ4 ⟨rfl, by decide⟩ (by decide) (show adNo 1 ∉ withA (adNo 192) (withA (adNo 240) []) by decide)) ?_
  rintro r J9 _ hs9 ⟨c5, G5, V5, e9, hV5, hQ5, ho5⟩
  cases e9
  have f5 := f4.out ho5
  have k5 := f5.mS
  repeat (first | (refine SeqS.slots cok [(0, ptr cb 0), (3, ptr b3 0), (6, ptr b6 0), (11, ptr b11 0)] ⟨rfl, rfl, rfl, rfl, trivial⟩ fun e => ?_) | (refine QuG.keep ?_; first | refine QuG.l1E cok 3 rfl rfl rfl rfl rfl (by first | exact Nat.le_of_ble_eq_true rfl | omega | (dsimp only; omega) | (simp only [addS_eq, mulS_eq]; omega)) (by assumption) ?_) | refine And.intro (fillOk_of (Eq.refl true)) ?_ | (refine still_in ?_; first | refine still_drop (by decide) ?_))
  refine CallG.behind [_, _, _] (eWarmQ (a := adNo 4) hsz hV5 hQ5 ⟨rfl, by decide⟩ (by decide) (show adNo 4 ∉ withA (adNo 1) (withA (adNo 192) (withA (adNo 240) [])) by decide)) ?_
  rintro r J10 _ hs10 ⟨c6, G6, V6, e10, hV6, hQ6, ho6⟩
  cases e10
  have f6 := f5.out ho6
  have k6 := f6.mS
  repeat (first | (refine SeqS.slots cok [(0, ptr cb 0), (3, ptr b3 0), (6, ptr b6 0), (11, ptr b11 0)] ⟨rfl, rfl, rfl, rfl, trivial⟩ fun e => ?_) | (refine QuG.keep ?_; first | refine QuG.l1E cok 3 rfl rfl rfl rfl rfl (by first | exact Nat.le_of_ble_eq_true rfl | omega | (dsimp only; omega) | (simp only [addS_eq, mulS_eq]; omega)) (by assumption) ?_) | refine And.intro (fillOk_of (Eq.refl true)) ?_)
  refine CallG.behind [_, _, _] (eWarmQ (a := adNo 5) hsz hV6 hQ6 ⟨rfl, by decide⟩ (by decide) (show adNo 5 ∉ withA (adNo 4) (withA (adNo 1) (withA (adNo 192) (withA (adNo 240) []))) by decide)) ?_
  rintro r J11 _ hs11 ⟨c7, G7, V7, e11, hV7, hQ7, ho7⟩
  cases e11
  have f7 := f6.out ho7
  have k7 := f7.mS
  have t7 := f7.tg
  have hQ7' : VQ (K0 code ds waN) V7 (W0 code waN) 7 := hQ7
  have hc7 : (V7.acc (adNo 1)).code = code := (hQ7'.rw.acc (adNo 1)).2.2.symm
  have hco := vCodeS (G := G7) (cb := cb) (T := T) hsz hV7 hQ7'.ok (a := adNo 1) ⟨rfl, by decide⟩
  rw [hc7] at hco
  repeat (first | (refine SeqS.slots cok [(0, ptr cb 0), (3, ptr b3 0), (6, ptr b6 0), (11, ptr b11 0)] ⟨rfl, rfl, rfl, rfl, trivial⟩ fun e => ?_) | (refine QuG.keep ?_; first | refine QuG.l1E cok 3 rfl rfl rfl rfl rfl (by first | exact Nat.le_of_ble_eq_true rfl | omega | (dsimp only; omega) | (simp only [addS_eq, mulS_eq]; omega)) (by assumption) ?_) | (refine QuG.keep ?_; first | refine QuG.l1 cok 2 rfl rfl rfl rfl rfl (by first | exact Nat.le_of_ble_eq_true rfl | omega | (dsimp only; omega) | (simp only [addS_eq, mulS_eq]; omega)) ?_) | refine W.drawI 28 cok [0, 1, 3, 7, 0, 16, 63] [0, 1, 2, 3, 4, 5, 6] [3, 5] (by kernel_rfl) (by kernel_rfl) ?_)
  refine eWarmList0.mono ?_
  rintro r _ - rfl
  repeat (first | (refine SeqS.slots cok [(0, ptr cb 0), (3, ptr b3 0), (6, ptr b6 0), (11, ptr b11 0)] ⟨rfl, rfl, rfl, rfl, trivial⟩ fun e => ?_) | (refine QuG.keep ?_; first | refine QuG.l1E cok 3 rfl rfl rfl rfl rfl (by first | exact Nat.le_of_ble_eq_true rfl | omega | (dsimp only; omega) | (simp only [addS_eq, mulS_eq]; omega)) (by assumption) ?_ | refine QuG.upL cok 0 rfl rfl rfl rfl rfl rfl (by assumption) (by first | exact Nat.le_of_ble_eq_true rfl | omega) ?_) | (refine QuG.keep ?_; first | refine QuG.lN cok 2 rfl rfl rfl rfl rfl (by first | exact Nat.le_of_ble_eq_true rfl | omega | (dsimp only; omega) | (simp only [addS_eq, mulS_eq]; omega)) ?_) | (refine still_in ?_; first | refine still_drop (by decide) ?_) | refine W.drawI 29 cok [0, 1, 3, 7, 0, 0, 32, 0, 128, 384, 1023, 0, 4095] [0, 1, 2, 3, 4, 5, 6, 7, 8, 9, 10, 11, 12] [3, 4, 6, 8] (by kernel_rfl) (by kernel_rfl) ?_)
  refine mFB0.mono ?_
  rintro r _ - ⟨rfl, rfl⟩
  repeat (first | refine And.intro (fillOk_of (Eq.refl true)) ?_ | refine And.intro (Eq.refl true) ?_ | (refine still_in ?_; first | refine still_drop (by decide) ?_ | (refine still_keep (by decide) rfl ?_ ?_; first | exact QuV.lN cok 0 rfl rfl rfl rfl rfl (by first | exact Nat.le_of_ble_eq_true rfl | omega | (dsimp only; omega) | (simp only [addS_eq, mulS_eq]; omega)) rfl | exact QuV.lN cok 2 rfl rfl rfl rfl rfl (by first | exact Nat.le_of_ble_eq_true rfl | omega | (dsimp only; omega) | (simp only [addS_eq, mulS_eq]; omega)) rfl | exact QuV.l1 cok 3 rfl rfl rfl rfl rfl (by first | exact Nat.le_of_ble_eq_true rfl | omega | (dsimp only; omega) | (simp only [addS_eq, mulS_eq]; omega)) (by assumption))))
  intro b12
  repeat (first | (refine QuG.keep ?_; first | refine QuG.upL cok 1 rfl rfl rfl rfl rfl rfl (by assumption) (by first | exact Nat.le_of_ble_eq_true rfl | omega) ?_) | refine SeqS.go cok ?_ | refine CondS.t rfl ?_ | (refine QuG.keep ?_; first | refine QuG.l1 cok 3 rfl rfl rfl rfl rfl (by first | exact Nat.le_of_ble_eq_true rfl | omega | (dsimp only; omega) | (simp only [addS_eq, mulS_eq]; omega)) ?_) | (refine still_in ?_; first | refine still_drop (by decide) ?_) | (refine OpG.keep ?_; first | refine OpG.sL cok 0 rfl rfl rfl rfl rfl rfl rfl (by first | exact Nat.le_of_ble_eq_true rfl | omega | (dsimp only; omega) | (simp only [addS_eq, mulS_eq]; omega)) ?_))
  refine mNativeAt1.mono ?_
  rintro r _ - ⟨rfl, rfl⟩
  repeat (first | (refine OpG.keep ?_; first | refine OpG.upF cok 0 rfl rfl rfl rfl rfl rfl (by first | exact Nat.le_of_ble_eq_true rfl | omega) (by first | exact Nat.le_of_ble_eq_true rfl | omega) rfl (by first | rfl | assumption) ?_) | (refine QuG.keep ?_; first | refine QuG.l1E cok 4 rfl rfl rfl rfl rfl (by first | exact Nat.le_of_ble_eq_true rfl | omega | (dsimp only; omega) | (simp only [addS_eq, mulS_eq]; omega)) (by assumption) ?_ | refine QuG.upL cok 1 rfl rfl rfl rfl rfl rfl (by assumption) (by first | exact Nat.le_of_ble_eq_true rfl | omega) ?_) | refine SeqS.go cok ?_ | refine CondS.t rfl ?_ | (refine QuG.keep ?_; first | refine QuG.l1 cok 0 rfl rfl rfl rfl rfl (by first | exact Nat.le_of_ble_eq_true rfl | omega | (dsimp only; omega) | (simp only [addS_eq, mulS_eq]; omega)) ?_) | refine W.drawI 33 cok [0, 1, 3, 7, 0, 31, 63, 127] [0, 1, 2, 3, 4, 5, 6, 7] [3, 4] (by kernel_rfl) (by kernel_rfl) ?_)
  refine CallG.behind [_, _, _, _] hco ?_
  rintro r J12 _ hs12 ⟨J12', xa, xc, e12, rfl, hB12⟩
  cases e12
  replace hs12 : HL.Sub J1 J12 := hs12
  repeat (first | (refine OpG.keep ?_; first | refine OpG.upF cok 0 rfl rfl rfl rfl rfl rfl (by first | exact Nat.le_of_ble_eq_true rfl | omega) (by first | exact Nat.le_of_ble_eq_true rfl | omega) rfl (by first | rfl | assumption) ?_) | refine SeqS.go cok ?_ | (refine QuG.keep ?_; first | refine QuG.l1 cok 3 rfl rfl rfl rfl rfl (by first | exact Nat.le_of_ble_eq_true rfl | omega | (dsimp only; omega) | (simp only [addS_eq, mulS_eq]; omega)) ?_) | (refine still_in ?_; first | refine still_drop (by decide) ?_))
  refine callBS (eCopied (Byt.ext (hNd.mono (hs1.trans hs12) (by simp)))) fun oa oc J13 hs13 hoN => ?_
  have hen := mEnter (cb := cb) (T := T) (gas := gas - intN ds) (cc := xc) (im := ds.length) (ic := oc) (ia := oa) hsz (hV7.up (hs12.trans hs13)) hQ7'.ok hQ7'.nm f7.mS f7.top f7.a10 f7.a2 (hB12.mono hs13 (by simp)) (by omega)
  repeat (first | (refine OpG.keep ?_; first | refine OpG.upF cok 0 rfl rfl rfl rfl rfl rfl (by first | exact Nat.le_of_ble_eq_true rfl | omega) (by first | exact Nat.le_of_ble_eq_true rfl | omega) rfl (by first | rfl | assumption) ?_) | refine SeqS.go cok ?_ | (refine QuG.keep ?_; first | refine QuG.lN cok 0 rfl rfl rfl rfl rfl (by first | exact Nat.le_of_ble_eq_true rfl | omega | (dsimp only; omega) | (simp only [addS_eq, mulS_eq]; omega)) ?_))
  refine CallG.behind [_, _, _, _] hen ?_
  rintro r J14 _ hs14 ⟨rfl, c8, e14, hEn⟩
  cases e14
  have ot := hEn.ot
  have hni := openNI hsz f7 hQ7' hEn (hB12.mono hs13 (by simp)) hoN hg hi hcl hd
  repeat (first | refine SeqS.go cok ?_)
  exact Fin.drop _ [_, _, _, _] ⟨rfl, _, c8, G7, _, rfl, hni, (ot 2406 (by decide) (by decide) (by decide) (by decide) (by decide) (by decide) (by decide)).trans f7.ap, (ot 2407 (by decide) (by decide) (by decide) (by decide) (by decide) (by decide) (by decide)).trans f7.lim, Row.congr f7.made fun k h1 h2 => ot k (by have : k < 2415 + 20 := h2; omega) (by omega) (by omega) (by omega) (by omega) (by omega) (by omega), (hEn.oh _ (by decide)).trans ((ho7 _ (.inr (by decide))).trans ((ho6 _ (.inr (by decide))).trans ((ho5 _ (.inr (by decide))).trans ((ho4 _ (.inr (by decide))).trans ((ho3 _ (.inr (by decide))).trans ((ho2 _ (.inr (by decide))).trans ((ho1 _ (.inr (by decide))).trans (opC_V (by decide)))))))))⟩
end Go.Proofs.YgvafwGreat
