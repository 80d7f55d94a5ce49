import Derived.Test.YgvafwGreatY99
import Derived.Test.YgvafwGreatY52
set_option exponentiation.threshold 1000
set_option maxRecDepth 100000
set_option maxHeartbeats 4000000
set_option linter.unusedVariables false
set_option linter.unusedSimpArgs false
-- v2
-- v4
-- v5
-- v6
-- v7
namespace Go.Proofs.YgvafwGreat
open Go.HL Go.Proofs

theorem nat_form {I : Ent → Prop} {v : Value} {n : Nat} (h : NatI I v n) : ∃ a m c, v = .slice a m c := by
  obtain ⟨ds, hB, _⟩ := h
  obtain ⟨a, c, rfl, _⟩ := hB.form
  exact ⟨a, _, c, rfl⟩
/-- yp.Frame.answer -/
theorem yAnswer {I : Ent → Prop} {G : List Ent} {fb fsz pc t v : Nat} {Tf : TypeId} {cf : Nat → Value} {s : List Nat} {u : Value} (hfz : 60 ≤ fsz) (hpcN : NatI I (cf 3) pc) (hstk : StkI I (cf 8) s) (hl : s.length ≤ 64) (hts : t ≤ s.length) (hpc : pc < 2 ^ 100) (hu : NatI I u v) :
    CallG Hvaf.prog 153 #[ptr fb 0, .int .i64 (t : Nat), u] ⟨I, ⟨fb, fsz, Tf, cf⟩ :: G⟩ fun r S' => ∃ J sv pv, S' = ⟨J, ⟨fb, fsz, Tf, upd (upd cf 8 sv) 3 pv⟩ :: G⟩ ∧ StkI J sv (s.take (s.length - t) ++ [v]) ∧ NatI J pv (pc + 1) ∧ one sv = true ∧ one pv = true := by
  obtain ⟨ra, rn, rc, rfl⟩ := nat_form hu
  have hnb : pc + 1 < NB := NB_p (Nat.lt_trans (show pc + 1 < 2 ^ 101 by omega) (Nat.pow_lt_pow_right (by decide) (by decide)))
  have hN1 := fun (I : Ent → Prop) (G : List Ent) => yNum (I := I) (G := G) (n := 1) (by decide)
  obtain ⟨vss, hR, hvl, hel⟩ := hstk.out
  obtain ⟨ad, cap, hc8⟩ := hR.form
  have hR2 := hR
  rw [hc8] at hR2
  have hcap := hR2.capLe
  have had : (ad = none ∧ vss = []) ∨ (∃ (x : Ent) (o2 : Nat), ad = some ⟨x.b, o2, none⟩) := by
    rcases hR2.2 with ⟨h1, h2⟩ | ⟨x, o2, c2, h1, _⟩
    · exact .inl ⟨(Value.slice.inj h1).1, h2⟩
    · exact .inr ⟨x, o2, (Value.slice.inj h1).1⟩
  have hv0 : ad = none → vss.length = 0 := by
    intro h; rcases had with ⟨_, h2⟩ | ⟨x, o2, h2⟩
    · rw [h2]; rfl
    · rw [h] at h2; cases h2
  obtain ⟨x, o2, had⟩ | had : (∃ (x : Ent) (o2 : Nat), ad = some ⟨x.b, o2, none⟩) ∨ ad = none := by
    rcases had with ⟨h, _⟩ | h
    · exact .inr h
    · exact .inl h
  all_goals (
    subst had
    refine CallG.start (C := mkC Hvaf.prog) cok (args := [ptr fb 0, .int .i64 (t : Nat), .slice ra rn rc]) Hvaf.func153 rfl Hvaf.ntmps153 (by simp) (by kernel_rfl) ?_
    repeat (first | (refine QuG.keep ?_; first | refine QuG.l1E cok 0 rfl rfl rfl rfl rfl (by first | exact Nat.le_of_ble_eq_true rfl | omega | (dsimp only; omega) | (simp only [addS_eq, mulS_eq]; omega)) (by assumption) ?_) | refine SeqS.go cok ?_ | refine And.intro (fillOk_of (Eq.refl true)) ?_ | refine And.intro (Eq.refl true) ?_ | refine And.intro (by omega) ?_ | refine And.intro (by dsimp only; omega) ?_ | (refine NatS.keep ?_; first | with_reducible refine NatS.nat ?_) | (refine ValS.keep ?_; first | (with_reducible refine ValS.kI64 ?_; first | (with_reducible refine ValS.subI64 ?_ ?_ ?_ ; omega; omega)) | with_reducible refine ValS.sl0 ?_))
    intro tb
    refine OpG.keep ?_
    refine OpG.appFz cok (L := ⟨fb, fsz, Tf, cf⟩ :: G) (tz := 1) (vss := vss) (n := vss.length - t) (el := [.slice ra rn rc]) rfl rfl rfl rfl rfl rfl rfl ?_ rfl hR2 (Nat.sub_le _ _) (by decide) ?_ rfl (by omega) ?_ ?_
    · first | rfl
    · refine ⟨fun p hp => ?_⟩
      have hp0 : p = 0 := by simpa using hp
      subst hp0
      rfl
    · exact Nat.le_of_ble_eq_true rfl
    intro sv J4 hs4 hsv1 hrow
    repeat (first | (refine OpG.keep ?_; first | refine OpG.s1 cok 0 rfl rfl rfl rfl rfl (by first | exact Nat.le_of_ble_eq_true rfl | omega | (dsimp only; omega) | (simp only [addS_eq, mulS_eq]; omega)) rfl (by assumption) ?_) | refine SeqS.go cok ?_ | (refine QuG.keep ?_; first | refine QuG.l1 cok 0 rfl rfl rfl rfl rfl (by first | exact Nat.le_of_ble_eq_true rfl | omega | (dsimp only; omega) | (simp only [addS_eq, mulS_eq]; omega)) ?_) | refine W.drawI 2 cok [0, 0, 2, 6, 14, 0, 62, 127, 255, 511] [0, 1, 2, 3, 4, 5, 6, 7, 8, 9] [4] (by kernel_rfl) (by kernel_rfl) ?_)
    refine callN (hN1 _ _) fun y J1 hs1 hy => ?_
    repeat (first | (refine still_in ?_; first | refine still_nil ?_ | (refine still_keep (by decide) rfl ?_ ?_; first | exact QuV.l1 cok 0 rfl rfl rfl rfl rfl (by first | exact Nat.le_of_ble_eq_true rfl | omega | (dsimp only; omega) | (simp only [addS_eq, mulS_eq]; omega)) rfl)))
    refine callN (nAdd ((hpcN.up hs4).up hs1) hy hnb) fun pv J2 hs2 hpv => ?_
    have hpv1 := NatI.isl hpv
    repeat (first | (refine OpG.keep ?_; first | refine OpG.s1 cok 0 rfl rfl rfl rfl rfl (by first | exact Nat.le_of_ble_eq_true rfl | omega | (dsimp only; omega) | (simp only [addS_eq, mulS_eq]; omega)) rfl (by assumption) ?_) | (refine still_in ?_; first | refine still_nil ?_ | refine still_drop (by decide) ?_))
    exact Fin.same ⟨J2, sv, pv, rfl, StkI.up (stk_take2 hrow hvl (fun i hi => by
        obtain ⟨u, hu, hn⟩ := hel i hi
        exact ⟨u, hu, hn.up hs4⟩) (hu.up hs4)) (hs1.trans hs2), hpv, hsv1, hpv1⟩)
/-- yp.Frame.wait of all operands, with no place for an answer -/
theorem yWait0 {I : Ent → Prop} {G : List Ent} {fb fsz : Nat} {Tf : TypeId} {cf : Nat → Value} {s : List Nat} (hfz : 60 ≤ fsz) (hstk : StkI I (cf 8) s) (hl : s.length ≤ 64) :
    CallG Hvaf.prog 237 #[ptr fb 0, .int .i64 (s.length : Nat), .slice none 0 0, .slice none 0 0] ⟨I, ⟨fb, fsz, Tf, cf⟩ :: G⟩ fun r S' => ∃ J sv ov pv, S' = ⟨J, ⟨fb, fsz, Tf, upd (upd (upd (upd cf 8 sv) 6 ov) 7 pv) 6 (.slice none 0 0)⟩ :: G⟩ ∧ StkI J sv [] ∧ NatI J pv 0 ∧ one sv = true ∧ one pv = true := by
  obtain ⟨vss, hR, hvl, hel⟩ := hstk.out
  obtain ⟨ad, cap, hc8⟩ := hR.form
  have hR2 := hR
  rw [hc8] at hR2
  have hcap := hR2.capLe
  have had : (ad = none ∧ vss = []) ∨ (∃ (x : Ent) (o2 : Nat), ad = some ⟨x.b, o2, none⟩) := by
    rcases hR2.2 with ⟨h1, h2⟩ | ⟨x, o2, c2, h1, _⟩
    · exact .inl ⟨(Value.slice.inj h1).1, h2⟩
    · exact .inr ⟨x, o2, (Value.slice.inj h1).1⟩
  have hv0 : ad = none → vss.length = 0 := by
    intro h; rcases had with ⟨_, h2⟩ | ⟨x, o2, h2⟩
    · rw [h2]; rfl
    · rw [h] at h2; cases h2
  have hk0 := fun (J : Ent → Prop) (hs : HL.Sub I J) (kv : Value) (hk : kv = .slice ad (vss.length - s.length) (vss.length - s.length)) => stk_keep (t := s.length) hR2 hvl (fun i hi => by
    obtain ⟨u, hu, hn⟩ := hel i hi
    exact ⟨u, hu, hn.up hs⟩) hs hk
  rw [Nat.sub_self, List.take_zero] at hk0
  have hz0 := fun (I : Ent → Prop) (G : List Ent) => nNorm (I := I) (G := G) (NatI.zero I)
  have hiz := fun (I : Ent → Prop) (G : List Ent) => yIsZero (I := I) (G := G) (NatI.zero I)
  rw [decide_eq_true rfl] at hiz
  obtain ⟨x, o2, had⟩ | had : (∃ (x : Ent) (o2 : Nat), ad = some ⟨x.b, o2, none⟩) ∨ ad = none := by
    rcases had with ⟨h, _⟩ | h
    · exact .inr h
    · exact .inl h
  all_goals (
    subst had
    refine CallG.start (C := mkC Hvaf.prog) cok (args := [ptr fb 0, .int .i64 (s.length : Nat), .slice none 0 0, .slice none 0 0]) Hvaf.func237 rfl Hvaf.ntmps237 (by simp) (by kernel_rfl) ?_
    repeat (first | (refine QuG.keep ?_; first | refine QuG.l1E cok 0 rfl rfl rfl rfl rfl (by first | exact Nat.le_of_ble_eq_true rfl | omega | (dsimp only; omega) | (simp only [addS_eq, mulS_eq]; omega)) (by assumption) ?_) | refine SeqS.go cok ?_ | refine And.intro (Eq.refl true) ?_ | refine And.intro (by omega) ?_ | (refine NatS.keep ?_; first | with_reducible refine NatS.nat ?_) | (refine ValS.keep ?_; first | (with_reducible refine ValS.kI64 ?_; first | (with_reducible refine ValS.subI64 ?_ ?_ ?_ ; omega; omega)) | with_reducible refine ValS.sl0 ?_) | (refine OpG.keep ?_; first | refine OpG.s1 cok 0 rfl rfl rfl rfl rfl (by first | exact Nat.le_of_ble_eq_true rfl | omega | (dsimp only; omega) | (simp only [addS_eq, mulS_eq]; omega)) rfl rfl ?_))
    refine callN (hz0 _ _) fun ov J1 hs1 hov => ?_
    have hov1 := NatI.isl hov
    repeat (first | (refine OpG.keep ?_; first | refine OpG.s1 cok 0 rfl rfl rfl rfl rfl (by first | exact Nat.le_of_ble_eq_true rfl | omega | (dsimp only; omega) | (simp only [addS_eq, mulS_eq]; omega)) rfl (by assumption) ?_) | refine SeqS.go cok ?_)
    refine callN (hz0 _ _) fun pv J2 hs2 hpv => ?_
    have hpv1 := NatI.isl hpv
    repeat (first | (refine OpG.keep ?_; first | refine OpG.s1 cok 0 rfl rfl rfl rfl rfl (by first | exact Nat.le_of_ble_eq_true rfl | omega | (dsimp only; omega) | (simp only [addS_eq, mulS_eq]; omega)) rfl (by assumption) ?_) | refine SeqS.go cok ?_)
    refine (hiz _ _).mono ?_
    rintro r _ - ⟨rfl, rfl⟩
    repeat (first | refine SeqS.go cok ?_ | refine CondS.t rfl ?_ | (refine OpG.keep ?_; first | refine OpG.s1 cok 0 rfl rfl rfl rfl rfl (by first | exact Nat.le_of_ble_eq_true rfl | omega | (dsimp only; omega) | (simp only [addS_eq, mulS_eq]; omega)) rfl rfl ?_))
    exact Fin.same ⟨J2, _, ov, pv, rfl, hk0 _ (hs1.trans hs2) _ (by first | rfl | exact kept_eq | exact kept_nil (by have := hv0 rfl; omega)), hpv, rfl, hpv1⟩)
/-- yp.SentGas of the whole gas -/
theorem ySentGas {I : Ent → Prop} {G : List Ent} {v : Value} {n : Nat} (hv : NatI I v n) (hn : n < 2 ^ 100) :
    CallG Hvaf.prog 236 #[v, v] ⟨I, G⟩ fun r S' => S'.G = G ∧ NatI S'.I r (n - n / 64) := by
  refine CallG.start (C := mkC Hvaf.prog) cok (args := [v, v]) Hvaf.func236 rfl Hvaf.ntmps236 (by simp) (by kernel_rfl) ?_
  repeat (first | refine SeqS.go cok ?_)
  refine callN (yDivided hv (b := 64) (by decide)) fun v1 J1 hs1 h1 => ?_
  skip
  refine callN (yLess (hv.up hs1) h1) fun v2 J2 hs2 h2 => ?_
  skip
  refine callN (yMin ((hv.up hs1).up hs2) h2) fun v3 J3 hs3 h3 => ?_
  repeat (first | refine SeqS.go cok ?_)
  exact Fin.same ⟨rfl, by rw [Nat.min_eq_right (Nat.sub_le _ _)] at h3; exact h3⟩
end Go.Proofs.YgvafwGreat
