import Derived.Test.YgvafwGreatY88u
set_option exponentiation.threshold 1000
set_option maxRecDepth 100000
set_option maxHeartbeats 4000000
set_option linter.unusedVariables false
set_option linter.unusedSimpArgs false
-- v2
-- v4
-- v5
-- v6
-- v7
namespace Go.Proofs.YgvafwGreat
open Go.HL Go.Proofs

theorem _root_.Go.HL.CallG.abs1 {P : Program} {f : FuncId} {args : Array Value} {I : Ent → Prop} {b0 s0 : Nat} {T0 : TypeId} {c0 : Nat → Value} {G : List Ent} {K : Post} (v0 : List Value) (h0 : Row c0 0 v0) (h : ∀ c', Row c' 0 v0 → CallG P f args ⟨I, ⟨b0, s0, T0, c'⟩ :: G⟩ K) : CallG P f args ⟨I, ⟨b0, s0, T0, c0⟩ :: G⟩ K := h c0 h0
theorem yFinishB {J : Ent → Prop} {sb rf lim g tot st : Nat} {cs : Nat → Value} {al : List YA} {out : List Nat} {ml : List LG} (h : FinY J cs al rf lim g tot st out ml) (hlim : lim < 2 ^ 60) (hst : st < 256) (hz : 0 < st) (hbal : (getA al (adNo 240)).bal = 2 ^ 128) {al1 al2 : List YA} (hal1 : putA { getA al (adNo 240) with bal := 2 ^ 128 } al = al1) (hl1 : al1.length < 2 ^ 17) (hcb1 : (getA al1 (adNo 192)).bal = 0) (hal2 : putA { getA al1 (adNo 192) with bal := 0 } al1 = al2) (hl2 : al2.length < 2 ^ 17) :
    CallG Hvaf.prog 31 #[ptr sb 0] ⟨J, [⟨sb, 179, 118, cs⟩]⟩ fun r S' => ∃ J' cs' ov lv, r = rptV 0 st (usedN lim g rf) ov lv (List.replicate 20 0) ∧ S' = ⟨J', [⟨sb, 179, 118, cs'⟩]⟩ ∧ Byt ⟨J', []⟩ ov out ∧ LogsI J' lv ml ∧ AcctsI J' (cs' 0) al2 := by
  have hph := h.ph
  have hsc := h.st
  have hog := h.og
  have h240 : (bvs (adNo 240)).length = 20 := rfl
  have hNl := h.lm
  have hNg := h.lf
  have hNr := h.rfd
  have hNp := h.pr
  have hNt := h.tt
  have hac := fun (I2 : Ent → Prop) (hs : HL.Sub J I2) (G : List Ent) => yAccountF (I := I2) (G := G) (wb := sb) (sz := 179) (T := 118) (a := adNo 240) (by decide) (h.acc.up hs) ⟨rfl, by decide⟩ (by have := h.aln; omega)
  have hu64 : lim - g - min rf ((lim - g) / 5) < 2 ^ 64 := by omega
  refine CallG.start (C := mkC Hvaf.prog) cok (args := [ptr sb 0]) Hvaf.func31 rfl Hvaf.ntmps31 (by simp) (by kernel_rfl) ?_
  intro b2
  repeat (first | (refine QuG.keep ?_; first | refine QuG.l1E cok 1 rfl rfl rfl rfl rfl (by first | exact Nat.le_of_ble_eq_true rfl | omega | (dsimp only; omega) | (simp only [addS_eq, mulS_eq]; omega)) (by assumption) ?_) | refine SeqS.go cok ?_ | refine CondS.f rfl ?_ | (refine QuG.keep ?_; first | refine QuG.l1 cok 1 rfl rfl rfl rfl rfl (by first | exact Nat.le_of_ble_eq_true rfl | omega | (dsimp only; omega) | (simp only [addS_eq, mulS_eq]; omega)) ?_) | refine W.drawI 4 cok [0, 1, 3, 7, 0, 16, 48, 112, 255, 511] [0, 1, 2, 3, 4, 5, 6, 7, 8, 9] [3, 7] (by kernel_rfl) (by kernel_rfl) ?_)
  refine callNS (yLess hNl hNg) fun a1 n1 c1 J1 hs1 h1 => ?_
  repeat (first | refine SeqS.go cok ?_ | (refine QuG.keep ?_; first | refine QuG.l1 cok 1 rfl rfl rfl rfl rfl (by first | exact Nat.le_of_ble_eq_true rfl | omega | (dsimp only; omega) | (simp only [addS_eq, mulS_eq]; omega)) ?_) | (refine still_in ?_; first | refine still_drop (by decide) ?_) | refine W.drawI 5 cok [0, 0, 2, 6, 14, 30, 0, 64, 254, 511, 1023] [0, 1, 2, 3, 4, 5, 6, 7, 8, 9, 10] [5] (by kernel_rfl) (by kernel_rfl) ?_)
  refine callNS (yDivided h1 (b := 5) (by decide)) fun a2 n2 c2 J2 hs2 h2 => ?_
  repeat (first | (refine still_in ?_; first | refine still_nil ?_ | (refine still_keep (by decide) rfl ?_ ?_; first | exact QuV.l1 cok 1 rfl rfl rfl rfl rfl (by first | exact Nat.le_of_ble_eq_true rfl | omega | (dsimp only; omega) | (simp only [addS_eq, mulS_eq]; omega)) rfl)))
  refine callNS (yMin ((hNr.up hs1).up hs2) h2) fun a3 n3 c3 J3 hs3 h3 => ?_
  repeat (first | (refine still_in ?_; first | refine still_nil ?_ | refine still_drop (by decide) ?_))
  refine callNS (yLess ((h1.up hs2).up hs3) h3) fun a4 n4 c4 J4 hs4 h4 => ?_
  have hs14 : HL.Sub J J4 := ((hs1.trans hs2).trans hs3).trans hs4
  repeat (first | refine SeqS.go cok ?_ | (refine QuG.keep ?_; first | refine QuG.l1 cok 1 rfl rfl rfl rfl rfl (by first | exact Nat.le_of_ble_eq_true rfl | omega | (dsimp only; omega) | (simp only [addS_eq, mulS_eq]; omega)) ?_) | (refine still_in ?_; first | refine still_drop (by decide) ?_) | refine W.drawI 6 cok [0, 1, 3, 7, 0, 31, 0, 64, 192, 448, 1023, 2047] [0, 1, 2, 3, 4, 6, 7, 8, 9, 5, 10, 11] [3, 9] (by kernel_rfl) (by kernel_rfl) ?_)
  refine callNS (yLess (hNl.up hs14) h4) fun a5 n5 c5 J5 hs5 h5 => ?_
  repeat (first | (refine still_in ?_; first | refine still_nil ?_ | refine still_drop (by decide) ?_ | (refine still_keep (by decide) rfl ?_ ?_; first | exact QuV.l1 cok 1 rfl rfl rfl rfl rfl (by first | exact Nat.le_of_ble_eq_true rfl | omega | (dsimp only; omega) | (simp only [addS_eq, mulS_eq]; omega)) rfl)))
  refine callNS (nMul h5 (hNp.up (hs14.trans hs5)) (NB_p (by rw [Nat.mul_zero]; decide +kernel))) fun a6 n6 c6 J6 hs6 h6 => ?_
  rw [Nat.mul_zero] at h6
  have hs16 : HL.Sub J J6 := (hs14.trans hs5).trans hs6
  repeat (first | (refine QuG.keep ?_; first | refine QuG.rowA cok 1 rfl rfl rfl rfl rfl (by assumption) (by assumption) (by first | exact Nat.le_of_ble_eq_true rfl | omega | (dsimp only; omega) | (simp only [addS_eq, mulS_eq]; omega)) ?_) | refine SeqS.go cok ?_ | (refine still_in ?_; first | refine still_drop (by decide) ?_) | refine W.drawI 7 cok [0, 1, 3, 0, 8, 24, 56, 0, 128, 384, 0, 1024, 3072, 7168, 16256, 32640, 0, 130944, 262143] [0, 1, 2, 3, 4, 5, 6, 7, 8, 9, 10, 11, 12, 13, 16, 14, 15, 17, 18] [6, 13] (by kernel_rfl) (by kernel_rfl) ?_)
  refine CallG.behind [_] (hac J6 hs16 _) ?_
  rintro r7 J7 _ hs7 ⟨e7, l, nv, bv, ca, cc, rfl, hF⟩
  cases e7
  have q0 := hF.len
  have q3 := hF.c21
  have hFb := hF.b
  rw [hbal] at hFb
  repeat (first | (refine QuG.keep ?_; first | refine QuG.fldE cok Hvaf.underlying121 rfl rfl rfl rfl (by first | omega | (simp; omega)) (by assumption) ?_) | (refine still_in ?_; first | refine still_drop (by decide) ?_ | (refine still_keep (by decide) rfl ?_ ?_; first | exact QuV.of (QuG.rowA cok 1 rfl rfl rfl rfl rfl (by assumption) (by assumption) (by first | exact Nat.le_of_ble_eq_true rfl | omega | (dsimp only; omega)) rfl))))
  refine callNS (nAdd hFb h6 (NB_p (by decide +kernel))) fun a8 n8 c8 J8 hs8 h8 => ?_
  rw [Nat.add_zero] at h8
  have hs18 : HL.Sub J J8 := hs16.trans hs8
  have h8s : FinY J8 cs al rf lim g tot st out ml := h.up hs18
  repeat (first | (refine still_in ?_; first | refine still_nil ?_ | refine still_drop (by decide) ?_ | (refine still_keep (by decide) rfl ?_ ?_; first | exact QuV.of (QuG.rowA cok 1 rfl rfl rfl rfl rfl (by assumption) (by assumption) (by first | exact Nat.le_of_ble_eq_true rfl | omega | (dsimp only; omega)) rfl))))
  refine CallG.behind [_] (ySetBalF h8s ⟨rfl, by decide⟩ h8 hal1 hl1) ?_
  rintro r9 J9 _ hs9 ⟨J9', cs2, _, _, _, _, _, _, e9, hf9, -, -⟩
  cases e9
  replace hs9 : HL.Sub J8 J9 := hs9
  have hs19 : HL.Sub J J9 := hs18.trans hs9
  have hNp9 := hf9.pr
  have hNt9 := hf9.tt
  have hbase : Row cs2 146 (bvs z32) := row_sub (p := 87) hf9.env rfl
  repeat (first | refine SeqS.go cok ?_ | (refine QuG.keep ?_; first | refine QuG.l1 cok 1 rfl rfl rfl rfl rfl (by first | exact Nat.le_of_ble_eq_true rfl | omega | (dsimp only; omega) | (simp only [addS_eq, mulS_eq]; omega)) ?_) | (refine still_in ?_; first | refine still_drop (by decide) ?_) | refine W.drawI 8 cok [0, 0, 2, 6, 14, 0, 32, 126, 255, 511] [0, 1, 2, 3, 4, 5, 6, 7, 8, 9] [4] (by kernel_rfl) (by kernel_rfl) ?_)
  refine CallG.behind [_] (yBaseFee2 (by decide) hbase) ?_
  rintro r10 J10 _ hs10 ⟨e10, h10⟩
  cases e10
  replace hs10 : HL.Sub J9 J10 := hs10
  replace h10 : NatI J10 r10 0 := h10
  repeat (first | (refine still_in ?_; first | refine still_nil ?_ | (refine still_keep (by decide) rfl ?_ ?_; first | exact QuV.l1 cok 1 rfl rfl rfl rfl rfl (by first | exact Nat.le_of_ble_eq_true rfl | omega | (dsimp only; omega) | (simp only [addS_eq, mulS_eq]; omega)) rfl)))
  refine callNS (yLess (hNp9.up hs10) h10) fun a11 n11 c11 J11 hs11 h11 => ?_
  have hs411 : HL.Sub J4 J11 := (((hs5.trans hs6).trans hs8).trans hs9).trans (hs10.trans hs11)
  repeat (first | (refine still_in ?_; first | refine still_nil ?_ | refine still_drop (by decide) ?_))
  refine callNS (nMul (h4.up hs411) h11 (NB_p (by rw [Nat.zero_sub, Nat.mul_zero]; decide +kernel))) fun a12 n12 c12 J12 hs12 h12 => ?_
  rw [Nat.zero_sub, Nat.mul_zero] at h12
  repeat (first | refine SeqS.go cok ?_ | (refine QuG.keep ?_; first | refine QuG.l1 cok 1 rfl rfl rfl rfl rfl (by first | exact Nat.le_of_ble_eq_true rfl | omega | (dsimp only; omega) | (simp only [addS_eq, mulS_eq]; omega)) ?_) | (refine still_in ?_; first | refine still_drop (by decide) ?_) | refine W.drawI 9 cok [0, 0, 2, 6, 14, 0, 0, 64, 192, 448, 992, 0, 4064, 8190, 16383, 32767, 65535] [0, 1, 2, 3, 4, 5, 6, 7, 8, 9, 11, 10, 12, 13, 14, 15, 16] [4, 9] (by kernel_rfl) (by kernel_rfl) ?_)
  refine callNS (nMul (h4.up (hs411.trans hs12)) (hNp9.up ((hs10.trans hs11).trans hs12)) (NB_p (by rw [Nat.mul_zero]; decide +kernel))) fun a13 n13 c13 J13 hs13 h13 => ?_
  repeat (first | (refine still_in ?_; first | refine still_nil ?_ | refine still_drop (by decide) ?_ | (refine still_keep (by decide) rfl ?_ ?_; first | exact QuV.l1 cok 1 rfl rfl rfl rfl rfl (by first | exact Nat.le_of_ble_eq_true rfl | omega | (dsimp only; omega) | (simp only [addS_eq, mulS_eq]; omega)) rfl)))
  refine callNS (yLess h13 (h12.up hs13)) fun a14 n14 c14 J14 hs14' h14 => ?_
  repeat (first | (refine still_in ?_; first | refine still_nil ?_ | refine still_drop (by decide) ?_ | (refine still_keep (by decide) rfl ?_ ?_; first | exact QuV.l1 cok 1 rfl rfl rfl rfl rfl (by first | exact Nat.le_of_ble_eq_true rfl | omega | (dsimp only; omega) | (simp only [addS_eq, mulS_eq]; omega)) rfl)))
  refine callNS (yLess (hNt9.up (((hs10.trans hs11).trans hs12).trans (hs13.trans hs14'))) h14) fun a15 n15 c15 J15 hs15 h15 => ?_
  have hs915 : HL.Sub J9 J15 := (hs10.trans hs11).trans ((hs12.trans hs13).trans (hs14'.trans hs15))
  have hf15 := hf9.total (sb := sb) (a := []) hs915 h15
  have hcb : Row (upd cs2 18 (.slice a15 n15 c15)) 59 (bvs (adNo 192)) := row_sub (p := 0) (us := bvs (adNo 192)) hf15.env rfl
  have h192 : (bvs (adNo 192)).length = 20 := rfl
  have hac2 := fun (G : List Ent) => yAccountF (I := J15) (G := G) (wb := sb) (sz := 179) (T := 118) (c := upd cs2 18 (.slice a15 n15 c15)) (a := adNo 192) (by decide) hf15.acc ⟨rfl, by decide⟩ (by have := hf15.aln; omega)
  repeat (first | (refine QuG.keep ?_; first | refine QuG.rowA cok 1 rfl rfl rfl rfl rfl (by assumption) (by assumption) (by first | exact Nat.le_of_ble_eq_true rfl | omega | (dsimp only; omega) | (simp only [addS_eq, mulS_eq]; omega)) ?_) | refine SeqS.go cok ?_ | (refine still_in ?_; first | refine still_nil ?_ | refine still_drop (by decide) ?_) | (refine OpG.keep ?_; first | refine OpG.s1 cok 1 rfl rfl rfl rfl rfl (by first | exact Nat.le_of_ble_eq_true rfl | omega | (dsimp only; omega) | (simp only [addS_eq, mulS_eq]; omega)) rfl rfl ?_) | refine W.drawI 10 cok [0, 1, 3, 0, 8, 24, 56, 120, 0, 256, 768, 0, 2048, 6144, 14336, 30720, 65280, 130816, 0, 524032, 1048575] [0, 1, 2, 3, 4, 5, 6, 7, 8, 9, 10, 11, 12, 13, 14, 15, 18, 16, 17, 19, 20] [7, 15] (by kernel_rfl) (by kernel_rfl) ?_)
  refine CallG.behind [_] (hac2 _) ?_
  rintro r16 J16 _ hs16' ⟨e16, l', nv', bv', ca', cc', rfl, hF'⟩
  cases e16
  have q0' := hF'.len
  have q3' := hF'.c21
  have hFb' := hF'.b
  rw [hcb1] at hFb'
  repeat (first | (refine QuG.keep ?_; first | refine QuG.fldE cok Hvaf.underlying121 rfl rfl rfl rfl (by first | omega | (simp; omega)) (by assumption) ?_) | (refine still_in ?_; first | refine still_drop (by decide) ?_ | (refine still_keep (by decide) rfl ?_ ?_; first | exact QuV.of (QuG.rowA cok 1 rfl rfl rfl rfl rfl (by assumption) (by assumption) (by first | exact Nat.le_of_ble_eq_true rfl | omega | (dsimp only; omega)) rfl))))
  refine callNS (nAdd hFb' (h12.up ((hs13.trans hs14').trans hs15)) (NB_p (by decide +kernel))) fun a17 n17 c17 J17 hs17 h17 => ?_
  rw [Nat.add_zero] at h17
  have hf17 := hf15.up hs17
  repeat (first | (refine still_in ?_; first | refine still_nil ?_ | refine still_drop (by decide) ?_ | (refine still_keep (by decide) rfl ?_ ?_; first | exact QuV.of (QuG.rowA cok 1 rfl rfl rfl rfl rfl (by assumption) (by assumption) (by first | exact Nat.le_of_ble_eq_true rfl | omega | (dsimp only; omega)) rfl))))
  refine CallG.behind [_] (ySetBalF hf17 ⟨rfl, by decide⟩ h17 hal2 hl2) ?_
  rintro r18 J18 _ hs18' ⟨J18', cs3, wa, wn, wc, ta, tn, tc, e18, hf18, hw0, ht0⟩
  cases e18
  replace hs18' : HL.Sub J17 J18 := hs18'
  have hrt := hf18.rt
  have hsc3 := hf18.st
  repeat (first | (refine QuG.keep ?_; first | refine QuG.l1E cok 1 rfl rfl rfl rfl rfl (by first | exact Nat.le_of_ble_eq_true rfl | omega | (dsimp only; omega) | (simp only [addS_eq, mulS_eq]; omega)) (by assumption) ?_) | refine SeqS.go cok ?_ | (refine QuG.keep ?_; first | refine QuG.l1 cok 1 rfl rfl rfl rfl rfl (by first | exact Nat.le_of_ble_eq_true rfl | omega | (dsimp only; omega) | (simp only [addS_eq, mulS_eq]; omega)) ?_) | (refine still_in ?_; first | refine still_drop (by decide) ?_) | refine W.drawI 11 cok [0, 1, 3, 7, 0, 16, 48, 112, 240, 0, 512, 1536, 3584, 7680, 16368, 32767, 0, 131071] [0, 1, 2, 3, 4, 5, 6, 7, 9, 10, 11, 12, 13, 8, 14, 15, 16, 17] [3, 7, 13] (by kernel_rfl) (by kernel_rfl) ?_)
  refine callBS (yBytesOf (Byt.ext hrt)) fun oa oc J19 hs19' hoN => ?_
  repeat (first | (refine still_in ?_; first | refine still_nil ?_ | refine still_drop (by decide) ?_ | (refine still_keep (by decide) rfl ?_ ?_; first | exact QuV.l1 cok 1 rfl rfl rfl rfl rfl (by first | exact Nat.le_of_ble_eq_true rfl | omega | (dsimp only; omega) | (simp only [addS_eq, mulS_eq]; omega)) rfl | exact QuV.l1 cok 1 rfl rfl rfl rfl rfl (by first | exact Nat.le_of_ble_eq_true rfl | omega | (dsimp only; omega) | (simp only [addS_eq, mulS_eq]; omega)) (by assumption))))
  refine callLS (yLogsOf (hf18.lg.up hs19') hf18.mln hf18.mtn) fun la ln lc J20 hs20 hlN => ?_
  repeat (first | refine And.intro (fillOk_of (Eq.refl true)) ?_ | refine And.intro (Eq.refl true) ?_ | (refine still_in ?_; first | refine still_drop (by decide) ?_ | (refine still_keep (by decide) rfl ?_ ?_; first | exact QuV.l1 cok 1 rfl rfl rfl rfl rfl (by first | exact Nat.le_of_ble_eq_true rfl | omega | (dsimp only; omega) | (simp only [addS_eq, mulS_eq]; omega)) (by assumption))))
  intro b8
  repeat (first | refine SeqS.go cok ?_ | (refine still_in ?_; first | refine still_drop (by decide) ?_) | (refine OpG.keep ?_; first | refine OpG.sL cok 0 rfl rfl rfl rfl rfl rfl rfl (by first | exact Nat.le_of_ble_eq_true rfl | omega | (dsimp only; omega) | (simp only [addS_eq, mulS_eq]; omega)) ?_))
  refine (ySmall (h4.up ((hs411.trans hs12).trans ((hs13.trans hs14').trans ((hs15.trans hs17).trans ((hs18'.trans hs19').trans hs20)))))).mono ?_
  rintro r21 _ - ⟨rfl, hr21⟩
  rw [if_pos hu64] at hr21
  cases hr21
  have hmd := hf18.md
  have hmdl : (bvs (List.replicate 20 0)).length = 20 := rfl
  have hones : ∀ u ∈ cellsFrom cs3 0 179, one u = true := cells_one' hf18.on
  have hg0 : (cellsFrom cs3 0 179).getD 0 undef = .slice wa wn wc := (cells_getD (by decide)).trans hw0
  have hg13 : (cellsFrom cs3 0 179).getD 13 undef = .int .u8 1 := (cells_getD (by decide)).trans hf18.ap
  have hg18 : (cellsFrom cs3 0 179).getD 18 undef = .slice ta tn tc := (cells_getD (by decide)).trans ht0
  have hgE : ((cellsFrom cs3 0 179).drop 59).take 120 = envL := cells_row hf18.env rfl
  have hclen : (cellsFrom cs3 0 179).length = 179 := cellsFrom_length _ _ _
  have hc0l : 0 < (cellsFrom cs3 0 179).length := by rw [hclen]; decide
  have hc13l : 13 < (cellsFrom cs3 0 179).length := by rw [hclen]; decide
  have hc18l : 18 < (cellsFrom cs3 0 179).length := by rw [hclen]; decide
  have hrowE := fun (c9 : Nat → Value) => rowE_up (c9 := c9) hf18.env
  have hfin := fin_ones (wa := wa) (wn := wn) (wc := wc) (ta := ta) (tn := tn) (tc := tc)
  repeat (first | (refine OpG.keep ?_; first | refine OpG.upF cok 0 rfl rfl rfl rfl rfl rfl (by first | exact Nat.le_of_ble_eq_true rfl | omega) (by first | exact Nat.le_of_ble_eq_true rfl | omega) rfl (by first | rfl | assumption) ?_) | (refine QuG.keep ?_; first | refine QuG.l1E cok 2 rfl rfl rfl rfl rfl (by first | exact Nat.le_of_ble_eq_true rfl | omega | (dsimp only; omega) | (simp only [addS_eq, mulS_eq]; omega)) (by assumption) ?_) | refine SeqS.go cok ?_ | (refine CondS.keep ?_; first | refine CondS.d0 rfl (by omega) ?_))
  refine W.slots [(2, ptr b2 0), (3, ptr sb 0), (8, ptr b8 0)] ⟨rfl, rfl, rfl, trivial⟩ fun e => ?_
  skip
  refine CallG.abs1 (rptL 0 st (usedN lim g rf) (.slice oa out.length oc) (.slice la ln lc) (List.replicate 20 0)) (Row.ofCells (n := 25) rfl) fun cA hcA => ?_
  refine CallG.behind [_, _] (yGoes0 (c := cs3) (by decide) hf18.gone) ?_
  rintro r22 J22 _ hs22 e22
  cases e22
  repeat (first | refine SeqS.go cok ?_ | (refine QuG.keep ?_; first | refine QuG.lN cok 2 rfl rfl rfl rfl rfl (by first | exact Nat.le_of_ble_eq_true rfl | omega | (dsimp only; omega) | (simp only [addS_eq, mulS_eq]; omega)) ?_))
  intro b9
  repeat (first | (refine QuG.keep ?_; refine QuG.rowE cok (x := ⟨b8, 25, 51, cA⟩) hcA (.inr (List.mem_cons_of_mem _ List.mem_cons_self)) rfl rfl rfl rfl rfl rfl (Nat.le_of_ble_eq_true rfl) ?_) | (refine OpG.keep ?_; refine OpG.upS cok 0 (vs := cellsFrom cs3 0 179) rfl rfl rfl rfl rfl hclen hones (Nat.le_of_ble_eq_true rfl) ?_) | (refine QuG.keep ?_; refine QuG.upC cok 0 rfl rfl rfl rfl rfl rfl hc0l (Nat.le_of_ble_eq_true rfl) hg0 ?_) | (refine QuG.keep ?_; refine QuG.upC cok 0 rfl rfl rfl rfl rfl rfl hc13l (Nat.le_of_ble_eq_true rfl) hg13 ?_) | (refine QuG.keep ?_; refine QuG.upC cok 0 rfl rfl rfl rfl rfl rfl hc18l (Nat.le_of_ble_eq_true rfl) hg18 ?_) | (refine QuG.keep ?_; refine QuG.rowE cok (x := ⟨b9, 179, 116, HL.updN _ 0 (cellsFrom cs3 0 179)⟩) (hrowE _) (.inr List.mem_cons_self) rfl rfl rfl rfl rfl rfl (Nat.le_of_ble_eq_true rfl) ?_) | (refine OpG.keep ?_; refine OpG.upS cok 3 (vs := cellsFrom (finC wa wn wc ta tn tc) 0 179) rfl rfl rfl rfl rfl (cellsFrom_length _ _ _) hfin (Nat.le_of_ble_eq_true rfl) ?_) | refine SeqS.go cok ?_ | refine And.intro (fillOk_of (Eq.refl true)) ?_ | refine And.intro (Eq.refl true) ?_ | (refine LdG.keep ?_; first | refine LdG.lN cok 2 rfl rfl rfl rfl rfl (by first | exact Nat.le_of_ble_eq_true rfl | omega | (dsimp only; omega) | (simp only [addS_eq, mulS_eq]; omega)) ?_) | (refine OpG.keep ?_; first | refine OpG.sL cok 2 rfl rfl rfl rfl rfl rfl rfl (by first | exact Nat.le_of_ble_eq_true rfl | omega | (dsimp only; omega) | (simp only [addS_eq, mulS_eq]; omega)) ?_))
  refine Fin.drop [⟨sb, 179, 118, _⟩] [_, _, _] ⟨_, _, _, _, rfl, rfl, hoN.mono hs20 (by simp), hlN, ?_⟩
  show AcctsI J20 (.slice wa wn wc) al2
  rw [← hw0]
  exact hf18.acc.up (hs19'.trans hs20)
end Go.Proofs.YgvafwGreat
