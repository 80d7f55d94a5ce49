import Derived.Test.YgvafwGreatY108
set_option exponentiation.threshold 1000
set_option maxRecDepth 100000
set_option maxHeartbeats 4000000
set_option linter.unusedVariables false
set_option linter.unusedSimpArgs false
-- v2
-- v4
-- v5
-- v6
-- v7
namespace Go.Proofs.YgvafwGreat
open Go.HL Go.Proofs

theorem MarksI.nf {I : Ent → Prop} {v : Value} (h : MarksI I v []) : ∃ a c, v = .slice a 0 c := by
  obtain ⟨vss, hR, hl⟩ := h.out
  obtain ⟨a, c, e⟩ := hR.form
  have := hl.len
  rw [this] at e
  exact ⟨a, c, e⟩
theorem TempsI.nf {I : Ent → Prop} {v : Value} (h : TempsI I v []) : ∃ a c, v = .slice a 0 c := by
  obtain ⟨vss, hR, hl⟩ := h.out
  obtain ⟨a, c, e⟩ := hR.form
  have := hl.len
  rw [this] at e
  exact ⟨a, c, e⟩
theorem LogO.nf {I : Ent → Prop} {v : Value} {M : List Ent} (h : LogO I v [] M) : ∃ a c, v = .slice a 0 c := by
  obtain ⟨vss, hR, hl⟩ := h.out
  obtain ⟨a, c, e⟩ := hR.form
  have := hl.len
  rw [this] at e
  exact ⟨a, c, e⟩
theorem cut_rep (m o n : Nat) : cutL (List.replicate m 0) o n = List.replicate n 0 := by
  unfold cutL
  have e : (fun i => (List.replicate m 0).getD (o + i) 0) = fun _ => 0 := by
    funext i
    rw [List.getD_eq_getElem?_getD, List.getElem?_replicate]
    split <;> rfl
  rw [e, List.map_const', List.length_range]
theorem callBZ {P : Program} {f : FuncId} {args : Array Value} {I : Ent → Prop} {G : List Ent} {l : List Nat} {n : Nat} {K : Post} (h : CallG P f args ⟨I, G⟩ fun r S' => S'.G = G ∧ Byt ⟨S'.I, []⟩ r l) (hl : l = List.replicate n 0)
    (k : ∀ a c J, HL.Sub I J → Byt ⟨J, []⟩ (.slice a n c) (List.replicate n 0) → K (.slice a n c) ⟨J, G⟩) : CallG P f args ⟨I, G⟩ K := by
  subst hl
  refine callBS h fun a c J hs hb => ?_
  rw [List.length_replicate] at hb ⊢
  exact k a c J hs hb
theorem upd_o7 {c : Nat → Value} {u v : Value} (h : ∀ k, k < 60 → one (c k) = true) (hv : one v = true) : ∀ k, k < 60 → k ≠ 6 → one (upd (upd c 6 u) 7 v k) = true := fun k hk h6 => by
  show one (if k = 7 then v else if k = 6 then u else c k) = true
  split
  · exact hv
  · exact h k hk
section
variable {I : Ent → Prop} {sb ssz fb fsz fc : Nat} {Ts : TypeId} {cs cf : Nat → Value} {K : YK} {σ : NS} {M ML : List Ent} {code : List Nat} {m : Nat}
/-- yp.State.enterCreate with no value: a child enters -/
theorem yEnterCr0 (h : YI I fb cs cf K σ M ML) (hsz : 179 ≤ ssz) (hfc : cs 9 = HL.sl fb 0 1 fc) (hz : FzI fc fsz) (hK : K.self = adNo 1) (hw : σ.w = W0 code waN) (hs3 : σ.s.length = 3) (hv : argN σ.s 0 = 0) (hpc : σ.pc < 2 ^ 20) (hm0 : σ.mem = List.replicate m 0) (hn : argN σ.s 2 < 2 ^ 40) (hgas : σ.gas < 2 ^ 100) :
    CallG Hvaf.prog 159 #[ptr sb 0, ptr fb 0, .int .u8 ((240 : Nat) : Int)] ⟨I, ⟨sb, ssz, Ts, cs⟩ :: ⟨fb, fsz, 156, cf⟩ :: (M ++ ML)⟩ fun r S' => ∃ J fb' fsz' cs' c, S' = ⟨J, ⟨sb, ssz, Ts, cs'⟩ :: ⟨fb', fsz', 156, c⟩ :: (M ++ ML)⟩ ∧ YCh J fb' fsz' cs' c K ⟨σ.pc + 1, σ.gas, [bev crAd], σ.mem, crW K σ.w⟩ M ML ∧ ∀ k, 8 ≤ k → k ≠ 9 → cs' k = cs k := by
  have har : ∀ S, CallG Hvaf.prog 147 #[.int .u8 ((240 : Nat) : Int)] S fun r S' => S = S' ∧ r = .tuple #[.int .i64 (3 : Nat), .int .i64 (1 : Nat), .bool true] := fun S => yArity (S := S) (o := 240) (by decide)
  have hA1 : AdOk (adNo 1) := ⟨rfl, by decide⟩
  obtain ⟨rfl, hfz⟩ := hz
  have hrow : Row cf 12 (bvs (adNo 1)) := by have := h.c.F.fself; rw [hK] at this; exact this
  have hb20 : (bvs (adNo 1)).length = 20 := rfl
  have hW := h.c.W
  rw [hw] at hW
  have hacc : AcctsI I (cs 0) [⟨adNo 1, 1, 0, code, []⟩, ⟨adNo 240, 1, 2 ^ 128, [], []⟩] := hW.acc
  have hg1 : getA [⟨adNo 1, 1, 0, code, []⟩, ⟨adNo 240, 1, 2 ^ 128, [], []⟩] (adNo 1) = ⟨adNo 1, 1, 0, code, []⟩ := rfl
  have hgN := h.c.F.fgas
  have hwok : ∀ x ∈ waN, AdOk x := hW.wok
  have hwrm : RowI I 20 (cs 1) (waN.map bvs) := hW.wrm
  obtain ⟨m2a, m2c, hn2'⟩ := MarksI.nf (show MarksI I (cs 2) [] from hW.mks)
  obtain ⟨m5a, m5c, hn5'⟩ := TempsI.nf (show TempsI I (cs 5) [] from hW.tmp)
  obtain ⟨m4a, m4c, hn4'⟩ := LogO.nf (show LogO I (cs 4) [] ML by have := h.l; rw [hw] at this; exact this)
  have hmd0 : RowI I 20 (cs 6) [] := hW.mde
  have h1c : 1 ≤ fc := by
    have h60 := hfz
    rw [mulS_eq] at h60
    omega
  have hwait := fun (J : Ent → Prop) (G : List Ent) (cf' : Nat → Value) (h8 : StkI J (cf' 8) σ.s) => yWait0 (I := J) (G := G) (fb := fb) (fsz := mulS fc 60) (Tf := 156) (cf := cf') hfz h8 (by omega)
  simp only [hs3] at hwait
  have hcut : cutL σ.mem (argN σ.s 1) (argN σ.s 2) = List.replicate (argN σ.s 2) 0 := by rw [hm0, cut_rep]
  obtain ⟨cn, hn2⟩ : ∃ cn, argN σ.s 2 = cn := ⟨_, rfl⟩
  rw [hn2] at hcut hn
  refine CallG.start (C := mkC Hvaf.prog) cok (args := [ptr sb 0, ptr fb 0, .int .u8 ((240 : Nat) : Int)]) Hvaf.func159 rfl Hvaf.ntmps159 (by simp) (by kernel_rfl) ?_
  skip
  refine (har _).mono ?_
  rintro r _ - ⟨rfl, rfl⟩
  repeat (first | refine SeqS.go cok ?_)
  refine CallG.focus 1 rfl ?_
  refine (yArgF (i := 0) hfz h.c.F (by decide)).mono ?_
  rintro u _ - ⟨rfl, hu⟩
  rw [hv] at hu
  repeat (first | (refine QuG.keep ?_; first | refine QuG.rowA cok 0 rfl rfl rfl rfl rfl (by assumption) (by assumption) (by first | exact Nat.le_of_ble_eq_true rfl | omega | (dsimp only; omega) | (simp only [addS_eq, mulS_eq]; omega)) ?_) | refine SeqS.go cok ?_ | refine W.drawI 2 cok [0, 1, 3, 0, 8, 24, 56, 127, 0, 511] [0, 1, 2, 3, 4, 5, 6, 7, 8, 9] [6] (by kernel_rfl) (by kernel_rfl) ?_)
  refine CallG.focus 1 rfl ?_
  refine (yAccount (by omega) hacc hA1 (by show 2 < _; decide)).mono ?_
  rintro r _ - ⟨rfl, l, rfl, hac⟩
  rw [hg1] at hac
  have h24 := hac.len
  have hone := hac.one
  obtain ⟨nv, bv, cv, sv, g0, g1, g2, g3, n1, n2, n3, n4⟩ := hac.get
  have e0 : HL.updN z121 0 l 20 = nv := by rw [← g0]; exact updN_get (o := 0) (i := 20) (by omega)
  have e1 : HL.updN z121 0 l 21 = bv := by rw [← g1]; exact updN_get (o := 0) (i := 21) (by omega)
  repeat (first | (refine still_in ?_; first | refine still_nil ?_ | refine still_drop (by decide) ?_))
  intro x1
  repeat (first | (refine QuG.keep ?_; first | refine QuG.l1E cok 0 rfl rfl rfl rfl rfl (by first | exact Nat.le_of_ble_eq_true rfl | omega | (dsimp only; omega) | (simp only [addS_eq, mulS_eq]; omega)) (by assumption) ?_ | refine QuG.l1E cok 1 rfl rfl rfl rfl rfl (by first | exact Nat.le_of_ble_eq_true rfl | omega | (dsimp only; omega) | (simp only [addS_eq, mulS_eq]; omega)) (by assumption) ?_) | (refine OpG.keep ?_; first | refine OpG.upS cok 0 rfl rfl rfl rfl rfl (by assumption) (by first | assumption | exact one_bvs _) (by first | exact Nat.le_of_ble_eq_true rfl | omega) ?_) | refine SeqS.go cok ?_ | refine GuardS.yes rfl ?_ | (refine ValS.keep ?_; first | (with_reducible refine ValS.kI64 ?_; first | (with_reducible refine ValS.subI64_L ?_ ?_ ?_ ; omega; omega))) | (refine still_in ?_; first | refine still_drop (by decide) ?_) | refine W.drawI 3 cok [0, 1, 3, 7, 15, 31, 63, 127, 255, 511, 255, 2047, 4095, 8191, 16383, 32767, 65535, 32767, 262143, 524287, 1048575] [0, 1, 2, 3, 4, 5, 6, 7, 8, 9, 10, 11, 12, 13, 14, 15, 16, 17, 18, 19, 20] [3, 9, 16] (by kernel_rfl) (by kernel_rfl) ?_)
  refine (nCmpE n2 hu rfl).mono ?_
  rintro r _ - ⟨rfl, rfl⟩
  repeat (first | (refine QuG.keep ?_; first | refine QuG.l1E cok 0 rfl rfl rfl rfl rfl (by first | exact Nat.le_of_ble_eq_true rfl | omega | (dsimp only; omega) | (simp only [addS_eq, mulS_eq]; omega)) (by assumption) ?_) | refine GuardS.yes rfl ?_ | (refine still_in ?_; first | refine still_drop (by decide) ?_))
  refine callN (yNum (n := 18446744073709551615) (by decide)) fun v2 J1 hs1 hv2 => ?_
  replace hs1 : HL.Sub I J1 := hs1
  repeat (first | refine GuardS.yes rfl ?_ | (refine still_in ?_; first | refine still_drop (by decide) ?_ | (refine still_keep (by decide) rfl ?_ ?_; first | exact QuV.l1 cok 0 rfl rfl rfl rfl rfl (by first | exact Nat.le_of_ble_eq_true rfl | omega | (dsimp only; omega) | (simp only [addS_eq, mulS_eq]; omega)) (by assumption))))
  refine (nCmpL (n1.up hs1) hv2 (by show 1 < _; decide)).mono ?_
  rintro r _ - ⟨rfl, rfl⟩
  repeat (first | (refine QuG.keep ?_; first | refine QuG.rowA cok 2 rfl rfl rfl rfl rfl (by assumption) (by assumption) (by first | exact Nat.le_of_ble_eq_true rfl | omega | (dsimp only; omega) | (simp only [addS_eq, mulS_eq]; omega)) ?_) | refine SeqS.go cok ?_ | refine GuardS.yes rfl ?_ | refine CondS.f rfl ?_ | (refine still_in ?_; first | refine still_drop (by decide) ?_) | refine W.drawI 5 cok [0, 1, 0, 4, 12, 28, 0, 0, 131, 0, 899, 1987, 4095, 0, 16383] [0, 2, 3, 4, 5, 6, 7, 9, 1, 8, 10, 11, 12, 13, 14] [5] (by kernel_rfl) (by kernel_rfl) ?_)
  refine callNS (nNorm (hu.up hs1)) fun va vn vc' J2 hs2 hvv => ?_
  replace hs2 : HL.Sub J1 J2 := hs2
  have hF2 := (h.c.F.up hs1).up hs2
  repeat (first | (refine still_in ?_; first | refine still_nil ?_ | (refine still_keep (by decide) rfl ?_ ?_; first | exact QuV.of (QuG.rowA cok 2 rfl rfl rfl rfl rfl (by assumption) (by assumption) (by first | exact Nat.le_of_ble_eq_true rfl | omega | (dsimp only; omega)) rfl))))
  refine CallG.focus 2 rfl ?_
  refine (yArgF (i := 1) hfz hF2 (by decide)).mono ?_
  rintro u1 _ - ⟨rfl, hu1⟩
  repeat (first | (refine still_in ?_; first | refine still_nil ?_ | (refine still_keep (by decide) rfl ?_ ?_; first | exact QuV.of (QuG.rowA cok 0 rfl rfl rfl rfl rfl (by assumption) (by assumption) (by first | exact Nat.le_of_ble_eq_true rfl | omega | (dsimp only; omega)) rfl))))
  refine (yArgF (i := 2) hfz hF2 (by decide)).mono ?_
  rintro u2 _ - ⟨rfl, hu2⟩
  rw [hn2] at hu2
  repeat (first | (refine still_in ?_; first | refine still_nil ?_ | (refine still_keep (by decide) rfl ?_ ?_; first | exact QuV.of (QuG.rowA cok 0 rfl rfl rfl rfl rfl (by assumption) (by assumption) (by first | exact Nat.le_of_ble_eq_true rfl | omega | (dsimp only; omega)) rfl))))
  have hrdm : Byt ⟨J2, ⟨fb, mulS fc 60, 156, cf⟩ :: ⟨x1, 24, 121, HL.updN z121 0 l⟩ :: ⟨sb, ssz, Ts, cs⟩ :: (M ++ ML)⟩ (cf 9) σ.mem := h.m.byt fun z hz => by simp [hz]
  refine callBZ (yRead hfz hrdm hu1 hu2 hn (by have := h.m.len; omega)) hcut fun ca cc J3 hs3 hcd => ?_
  replace hs3 : HL.Sub J2 J3 := hs3
  repeat (first | refine And.intro (fillOk_of (Eq.refl true)) ?_ | refine And.intro (Eq.refl true) ?_ | (refine still_in ?_; first | (refine still_keep (by decide) rfl ?_ ?_; first | exact QuV.of (QuG.rowA cok 0 rfl rfl rfl rfl rfl (by assumption) (by assumption) (by first | exact Nat.le_of_ble_eq_true rfl | omega | (dsimp only; omega)) rfl))))
  intro x2
  repeat (first | (refine QuG.keep ?_; first | refine QuG.l1E cok 2 rfl rfl rfl rfl rfl (by first | exact Nat.le_of_ble_eq_true rfl | omega | (dsimp only; omega) | (simp only [addS_eq, mulS_eq]; omega)) (by assumption) ?_ | refine QuG.rowA cok 1 rfl rfl rfl rfl rfl (by assumption) (by assumption) (by first | exact Nat.le_of_ble_eq_true rfl | omega | (dsimp only; omega) | (simp only [addS_eq, mulS_eq]; omega)) ?_) | refine SeqS.go cok ?_ | (refine still_in ?_; first | refine still_drop (by decide) ?_) | (refine OpG.keep ?_; first | refine OpG.sL cok 0 rfl rfl rfl rfl rfl rfl rfl (by first | exact Nat.le_of_ble_eq_true rfl | omega | (dsimp only; omega) | (simp only [addS_eq, mulS_eq]; omega)) ?_) | refine W.drawI 6 cok [0, 1, 3, 7, 0, 16, 63, 127, 255] [0, 1, 2, 3, 4, 5, 6, 7, 8] [3, 5] (by kernel_rfl) (by kernel_rfl) ?_)
  refine CallG.idC (c := HL.updN z156 0 (cfL nlV (.slice va vn vc') (.slice ca cn cc) (List.replicate 20 0) (adNo 1) [nlV, nlV, nlV, nlV, nlV, nlV, nlV, nlV])) rfl ?_
  refine (yCreateAddr (((n1.up hs1).up hs2).up hs3)).mono ?_
  rintro r ⟨J4, _⟩ hs4 ⟨rfl, rfl⟩
  replace hs4 : HL.Sub J3 J4 := hs4
  have hsA : HL.Sub I J4 := ((hs1.trans hs2).trans hs3).trans hs4
  repeat (first | (refine SeqS.slots cok [(0, ptr sb 0), (1, ptr fb 0), (2, .int .u8 ((240 : Nat) : Int)), (6, .int .i64 ((3 : Nat) : Int)), (10, ptr x1 0), (11, ptr x2 0), (74, .bool false)] ⟨rfl, rfl, rfl, rfl, rfl, rfl, rfl, trivial⟩ fun e => ?_) | (refine SeqS.slots cok [(0, ptr sb 0), (1, ptr fb 0), (2, .int .u8 ((240 : Nat) : Int)), (6, .int .i64 ((3 : Nat) : Int)), (10, ptr x1 0), (11, ptr x2 0)] ⟨rfl, rfl, rfl, rfl, rfl, rfl, trivial⟩ fun e => ?_) | (refine QuG.keep ?_; first | refine QuG.l1E cok 2 rfl rfl rfl rfl rfl (by first | exact Nat.le_of_ble_eq_true rfl | omega | (dsimp only; omega) | (simp only [addS_eq, mulS_eq]; omega)) (by assumption) ?_ | refine QuG.rowA cok 1 rfl rfl rfl rfl rfl (by assumption) (by assumption) (by first | exact Nat.le_of_ble_eq_true rfl | omega | (dsimp only; omega) | (simp only [addS_eq, mulS_eq]; omega)) ?_) | (refine OpG.keep ?_; first | refine OpG.upS cok 0 rfl rfl rfl rfl rfl (by assumption) (by first | assumption | exact one_bvs _) (by first | exact Nat.le_of_ble_eq_true rfl | omega) ?_) | refine CondS.f rfl ?_ | (refine still_in ?_; first | refine still_drop (by decide) ?_) | refine W.drawI 10 cok [0, 1, 3, 0, 8, 24, 56, 0, 128, 0, 896, 2047] [0, 1, 2, 3, 4, 5, 6, 7, 8, 9, 10, 11] [6, 8] (by kernel_rfl) (by kernel_rfl) ?_)
  refine callN (yNum (n := 1) (by decide)) fun v3 J5 hs5 hv3 => ?_
  replace hs5 : HL.Sub J4 J5 := hs5
  repeat (first | (refine still_in ?_; first | refine still_nil ?_ | (refine still_keep (by decide) rfl ?_ ?_; first | exact QuV.l1 cok 2 rfl rfl rfl rfl rfl (by first | exact Nat.le_of_ble_eq_true rfl | omega | (dsimp only; omega) | (simp only [addS_eq, mulS_eq]; omega)) (by assumption) | exact QuV.of (QuG.rowA cok 1 rfl rfl rfl rfl rfl (by assumption) (by assumption) (by first | exact Nat.le_of_ble_eq_true rfl | omega | (dsimp only; omega)) rfl))))
  refine callN (nAdd ((n1.up hsA).up hs5) hv3 (by show 1 + 1 < NB; decide)) fun v4 J6 hs6 hv4 => ?_
  replace hs6 : HL.Sub J5 J6 := hs6
  have hsB := (hsA.trans hs5).trans hs6
  repeat (first | (refine still_in ?_; first | refine still_nil ?_ | refine still_drop (by decide) ?_ | (refine still_keep (by decide) rfl ?_ ?_; first | exact QuV.of (QuG.rowA cok 1 rfl rfl rfl rfl rfl (by assumption) (by assumption) (by first | exact Nat.le_of_ble_eq_true rfl | omega | (dsimp only; omega)) rfl))))
  refine CallG.focus 3 rfl ?_
  refine (ySetNonce (a := adNo 1) (n := 2) (by omega) (hacc.up hsB) hA1 hv4 (by show 2 < 2 ^ 19; decide)).mono ?_
  rintro r _ hs7 ⟨J7, w0, rfl, hw0⟩
  replace hs7 : HL.Sub J6 J7 := hs7
  have hsC := hsB.trans hs7
  repeat (first | (refine SeqS.slots cok [(0, ptr sb 0), (1, ptr fb 0), (2, .int .u8 ((240 : Nat) : Int)), (6, .int .i64 ((3 : Nat) : Int)), (10, ptr x1 0), (11, ptr x2 0), (74, .bool false)] ⟨rfl, rfl, rfl, rfl, rfl, rfl, rfl, trivial⟩ fun e => ?_) | (refine QuG.keep ?_; first | refine QuG.l1 cok 2 rfl rfl rfl rfl rfl (by first | exact Nat.le_of_ble_eq_true rfl | omega | (dsimp only; omega) | (simp only [addS_eq, mulS_eq]; omega)) ?_) | (refine still_in ?_; first | refine still_drop (by decide) ?_) | refine W.drawI 11 cok [0, 1, 3, 7, 0, 16, 48, 112, 255, 511, 1023] [0, 1, 2, 3, 4, 5, 6, 7, 8, 9, 10] [3, 7] (by kernel_rfl) (by kernel_rfl) ?_)
  refine callNS (ySentGas (hgN.up hsC) hgas) fun ga gn gc J8 hs8 hv5 => ?_
  replace hs8 : HL.Sub J7 J8 := hs8
  have o5 := NatI.isl hv5
  repeat (first | (refine SeqS.slots cok [(0, ptr sb 0), (1, ptr fb 0), (2, .int .u8 ((240 : Nat) : Int)), (6, .int .i64 ((3 : Nat) : Int)), (10, ptr x1 0), (11, ptr x2 0), (74, .bool false)] ⟨rfl, rfl, rfl, rfl, rfl, rfl, rfl, trivial⟩ fun e => ?_) | (refine OpG.keep ?_; first | refine OpG.s1 cok 1 rfl rfl rfl rfl rfl (by first | exact Nat.le_of_ble_eq_true rfl | omega | (dsimp only; omega) | (simp only [addS_eq, mulS_eq]; omega)) rfl (by assumption) ?_) | (refine QuG.keep ?_; first | refine QuG.l1 cok 1 rfl rfl rfl rfl rfl (by first | exact Nat.le_of_ble_eq_true rfl | omega | (dsimp only; omega) | (simp only [addS_eq, mulS_eq]; omega)) ?_ | refine QuG.l1 cok 2 rfl rfl rfl rfl rfl (by first | exact Nat.le_of_ble_eq_true rfl | omega | (dsimp only; omega) | (simp only [addS_eq, mulS_eq]; omega)) ?_) | (refine still_in ?_; first | refine still_drop (by decide) ?_) | refine W.drawI 12 cok [0, 0, 2, 6, 14, 0, 32, 126, 255, 511, 1023] [0, 1, 2, 3, 4, 5, 6, 7, 8, 9, 10] [4, 6] (by kernel_rfl) (by kernel_rfl) ?_)
  refine callN (yLess ((hgN.up hsC).up hs8) hv5) fun v6 J9 hs9 hv6 => ?_
  replace hs9 : HL.Sub J8 J9 := hs9
  have o6 := NatI.isl hv6
  have hsD := (hsC.trans hs8).trans hs9
  repeat (first | (refine SeqS.slots cok [(0, ptr sb 0), (1, ptr fb 0), (2, .int .u8 ((240 : Nat) : Int)), (6, .int .i64 ((3 : Nat) : Int)), (10, ptr x1 0), (11, ptr x2 0), (74, .bool false)] ⟨rfl, rfl, rfl, rfl, rfl, rfl, rfl, trivial⟩ fun e => ?_) | (refine OpG.keep ?_; first | refine OpG.s1 cok 2 rfl rfl rfl rfl rfl (by first | exact Nat.le_of_ble_eq_true rfl | omega | (dsimp only; omega) | (simp only [addS_eq, mulS_eq]; omega)) rfl (by assumption) ?_) | (refine QuG.keep ?_; first | refine QuG.lN cok 1 rfl rfl rfl rfl rfl (by first | exact Nat.le_of_ble_eq_true rfl | omega | (dsimp only; omega) | (simp only [addS_eq, mulS_eq]; omega)) ?_) | (refine still_in ?_; first | refine still_drop (by decide) ?_) | refine W.drawI 13 cok [0, 1, 3, 0, 8, 31] [0, 1, 2, 3, 4, 5] [4] (by kernel_rfl) (by kernel_rfl) ?_)
  refine (yWarm (wb := sb) (sz := ssz) (T := Ts) (c := upd cs 0 w0) (a := crAd) (by omega) (hwrm.up hsD) crAdOk hwok (by decide)).mono ?_
  rintro r _ hs10 ⟨J10, w1, rfl, hw1⟩
  replace hs10 : HL.Sub J9 J10 := hs10
  repeat (first | (refine SeqS.slots cok [(0, ptr sb 0), (1, ptr fb 0), (2, .int .u8 ((240 : Nat) : Int)), (6, .int .i64 ((3 : Nat) : Int)), (10, ptr x1 0), (11, ptr x2 0), (74, .bool false)] ⟨rfl, rfl, rfl, rfl, rfl, rfl, rfl, trivial⟩ fun e => ?_) | (refine QuG.keep ?_; first | refine QuG.lN cok 1 rfl rfl rfl rfl rfl (by first | exact Nat.le_of_ble_eq_true rfl | omega | (dsimp only; omega) | (simp only [addS_eq, mulS_eq]; omega)) ?_) | (refine still_in ?_; first | refine still_drop (by decide) ?_))
  refine (yTaken (sb := sb) (ssz := ssz) (Ts := Ts) (cs := upd (upd cs 0 w0) 1 w1) (by omega) (((hw0.up hs8).up hs9).up hs10) crAdOk (by show 2 < 2 ^ 30; decide) rfl rfl).mono ?_
  rintro r ⟨J11, _⟩ hs11 ⟨rfl, rfl⟩
  replace hs11 : HL.Sub J10 J11 := hs11
  have hsE := (hsD.trans hs10).trans hs11
  repeat (first | (refine SeqS.slots cok [(0, ptr sb 0), (1, ptr fb 0), (2, .int .u8 ((240 : Nat) : Int)), (6, .int .i64 ((3 : Nat) : Int)), (10, ptr x1 0), (11, ptr x2 0), (127, .bool false)] ⟨rfl, rfl, rfl, rfl, rfl, rfl, rfl, trivial⟩ fun e => ?_) | refine CondS.f rfl ?_)
  refine CallG.focus 2 rfl ?_
  refine (hwait J11 _ (upd cf 4 v6) (h.c.F.fstk.up hsE)).mono ?_
  rintro r _ hs12 ⟨J12, sv9, ov, pv, rfl, q1, q2, q3, q4⟩
  replace hs12 : HL.Sub J11 J12 := hs12
  have hsF := hsE.trans hs12
  have ho60 : ∀ k, k < 60 → one (upd (upd (upd (upd (upd cf 4 v6) 8 sv9) 6 ov) 7 pv) 6 (.slice none 0 0) k) = true := fun k hk => by
    by_cases h6 : k = 6
    · subst h6; rfl
    · rw [upd_ne h6]; exact upd_o7 (upd_o (upd_o h.o1 o6) q3) q4 k hk h6
  repeat (first | (refine SeqS.slots cok [(0, ptr sb 0), (1, ptr fb 0), (2, .int .u8 ((240 : Nat) : Int)), (6, .int .i64 ((3 : Nat) : Int)), (10, ptr x1 0), (11, ptr x2 0), (127, .bool false)] ⟨rfl, rfl, rfl, rfl, rfl, rfl, rfl, trivial⟩ fun e => ?_) | (refine QuG.keep ?_; first | refine QuG.lN cok 2 rfl rfl rfl rfl rfl (by first | exact Nat.le_of_ble_eq_true rfl | omega | (dsimp only; omega) | (simp only [addS_eq, mulS_eq]; omega)) ?_))
  refine CallG.rot2 ?_
  refine (yEnterC (fb := fb) (fc := fc) (cs := upd (upd cs 0 w0) 1 w1) (cf := upd (upd (upd (upd (upd cf 4 v6) 8 sv9) 6 ov) 7 pv) 6 (.slice none 0 0)) (a1 := ⟨adNo 1, 2, 0, code, []⟩) (a2 := ⟨adNo 240, 1, 2 ^ 128, [], []⟩) (wa := withA crAd waN) (n := 0) (ga := ga) (gn := gn) (gc := gc) (va := va) (vn := vn) (vc' := vc') (ca := ca) (cn := cn) (cc := cc) hsz (((((hw0.up hs8).up hs9).up hs10).up hs11).up hs12) rfl rfl ((hw1.up hs11).up hs12) (by decide) hn2' (hW.rfd.up hsF) hn4' hn5' (hmd0.up hsF) hW.gne hfc h1c ho60 (hvv.up (((((((((hs3.trans hs4).trans hs5).trans hs6).trans hs7).trans hs8).trans hs9).trans hs10).trans hs11).trans hs12))).mono ?_
  rintro r _ hs13 ⟨J13, w0', w6, fb2, cap, c, sv8, rfl, hcap, hA', hw6', hrow2, hl8, ho8⟩
  replace hs13 : HL.Sub J12 J13 := hs13
  have hG9 := hs12.trans hs13
  obtain ⟨f1, f2⟩ := ych_of (w0 := w0) (w1 := w1) h (hsF.trans hs13) hK hw hpc hcap hrow2 hl8 ho8 hA' ((hw1.up hs11).up hG9) hw6' ((((hv6.up hs10).up hs11).up hs12).up hs13) (((((hv5.up hs9).up hs10).up hs11).up hs12).up hs13) (q1.up hs13) (q2.up hs13) (hvv.up ((((((((((hs3.trans hs4).trans hs5).trans hs6).trans hs7).trans hs8).trans hs9).trans hs10).trans hs11).trans hs12).trans hs13)) (hcd.mono (((((((((hs4.trans hs5).trans hs6).trans hs7).trans hs8).trans hs9).trans hs10).trans hs11).trans hs12).trans hs13) (by simp))
  skip
  exact Fin.rot2 ⟨J13, fb2, mulS cap 60, _, c, rfl, f1, f2⟩
end
end Go.Proofs.YgvafwGreat
