import Derived.Test.YgvafwGreatL5
import Derived.Test.YgvafwGreatHV
set_option exponentiation.threshold 1000
set_option maxRecDepth 100000
set_option maxHeartbeats 4000000
set_option linter.unusedVariables false
set_option linter.unusedSimpArgs false
-- v2
-- v4
-- v5
-- v6
-- v7
-- still: exact QuV.l1 cok 0 rfl rfl rfl rfl rfl (by first | exact Nat.le_of_ble_eq_true rfl | omega) rfl
-- still: exact QuV.lN cok 0 rfl rfl rfl rfl rfl (by first | exact Nat.le_of_ble_eq_true rfl | omega) rfl
-- still: exact QuV.l1 cok 1 rfl rfl rfl rfl rfl (by first | exact Nat.le_of_ble_eq_true rfl | omega) rfl
-- still: exact QuV.lN cok 1 rfl rfl rfl rfl rfl (by first | exact Nat.le_of_ble_eq_true rfl | omega) rfl
namespace Go.Proofs.YgvafwGreat
open Go.HL Go.Proofs

/-- What a chain's Export answers. -/
def ExpOk (fE : FuncId) (p : Value) (wl : List OA) (J : Ent → Prop) (G : List Ent) : Prop :=
  ∀ J3, HL.Sub J J3 → CallG Hvaf.prog fE #[p] ⟨J3, G⟩ fun r S' => OWI S'.I r wl
/-- What a chain's Apply answers, and Export behind it. -/
def PlayOk (fA fE : FuncId) (p tx : Value) (v st u : Nat) (out : List Nat) (ml : List LG) (wl : List OA) (J : Ent → Prop) (G : List Ent) : Prop :=
  ∀ J1, HL.Sub J J1 → CallG Hvaf.prog fA #[p, tx] ⟨J1, G⟩ fun r S' => ∃ J2 G2 ov lv, r = rptV v st u ov lv (List.replicate 20 0) ∧ S' = ⟨J2, G2⟩ ∧ Byt ⟨J2, []⟩ ov out ∧ LogsI J2 lv ml ∧ ExpOk fE p wl J2 G2
theorem ExpOk.up {fE : FuncId} {p : Value} {wl : List OA} {J J' : Ent → Prop} {G : List Ent} (h : ExpOk fE p wl J G) (hs : HL.Sub J J') : ExpOk fE p wl J' G := fun J3 h3 => h J3 (hs.trans h3)
theorem PlayOk.e {fA fE : FuncId} {p tx : Value} {v st u : Nat} {out : List Nat} {ml : List LG} {wl : List OA} {J J1 : Ent → Prop} {GE : List Ent} (h : PlayOk fA fE p tx v st u out ml wl J GE) (hs : HL.Sub J J1) (L GY : List Ent) :
    CallG Hvaf.prog fA #[p, tx] ⟨J1, L ++ (GE ++ GY)⟩ fun r S' => ∃ J2 G2 oa on oc la ln lc, r = rptV v st u (.slice oa on oc) (.slice la ln lc) (List.replicate 20 0) ∧ S' = ⟨J2, L ++ (G2 ++ GY)⟩ ∧ HL.Sub J1 J2 ∧ Byt ⟨J2, []⟩ (.slice oa on oc) out ∧ LogsI J2 (.slice la ln lc) ml ∧ ExpOk fE p wl J2 G2 := by
  refine CallG.behind L (R := fun r S' => ∃ J2 G2 oa on oc la ln lc, r = rptV v st u (.slice oa on oc) (.slice la ln lc) (List.replicate 20 0) ∧ S' = ⟨J2, G2 ++ GY⟩ ∧ HL.Sub J1 J2 ∧ Byt ⟨J2, []⟩ (.slice oa on oc) out ∧ LogsI J2 (.slice la ln lc) ml ∧ ExpOk fE p wl J2 G2) (CallG.use (h J1 hs) ?_) ?_
  · rintro r J2 G' h2 ⟨J3, G2, ov, lv, rfl, e, hb, hl, hx⟩
    cases e
    obtain ⟨oa, oc, rfl, _⟩ := hb.form
    obtain ⟨vss, hR, _⟩ := id hl.out
    obtain ⟨la, lc, rfl⟩ := hR.form
    exact ⟨_, _, _, _, _, _, _, _, rfl, rfl, h2, hb, hl, hx⟩
  · rintro r J2 G' h2 ⟨J3, G2, oa, on, oc, la, ln, lc, rfl, e, hq⟩
    cases e
    exact ⟨_, _, _, _, _, _, _, _, rfl, rfl, hq⟩
theorem PlayOk.y {fA fE : FuncId} {p tx : Value} {v st u : Nat} {out : List Nat} {ml : List LG} {wl : List OA} {J J1 : Ent → Prop} {GY : List Ent} (h : PlayOk fA fE p tx v st u out ml wl J GY) (hs : HL.Sub J J1) (L GE : List Ent) :
    CallG Hvaf.prog fA #[p, tx] ⟨J1, L ++ (GE ++ GY)⟩ fun r S' => ∃ J2 G2 oa on oc la ln lc, r = rptV v st u (.slice oa on oc) (.slice la ln lc) (List.replicate 20 0) ∧ S' = ⟨J2, L ++ (GE ++ G2)⟩ ∧ HL.Sub J1 J2 ∧ Byt ⟨J2, []⟩ (.slice oa on oc) out ∧ LogsI J2 (.slice la ln lc) ml ∧ ExpOk fE p wl J2 G2 := by
  refine CallG.behind L (R := fun r S' => ∃ J2 G2 oa on oc la ln lc, r = rptV v st u (.slice oa on oc) (.slice la ln lc) (List.replicate 20 0) ∧ S' = ⟨J2, GE ++ G2⟩ ∧ HL.Sub J1 J2 ∧ Byt ⟨J2, []⟩ (.slice oa on oc) out ∧ LogsI J2 (.slice la ln lc) ml ∧ ExpOk fE p wl J2 G2) (CallG.behind GE (h J1 hs) ?_) ?_
  · rintro r J2 G' h2 ⟨J3, G2, ov, lv, rfl, e, hb, hl, hx⟩
    cases e
    obtain ⟨oa, oc, rfl, _⟩ := hb.form
    obtain ⟨vss, hR, _⟩ := id hl.out
    obtain ⟨la, lc, rfl⟩ := hR.form
    exact ⟨_, _, _, _, _, _, _, _, rfl, rfl, h2, hb, hl, hx⟩
  · rintro r J2 G' h2 ⟨J3, G2, oa, on, oc, la, ln, lc, rfl, e, hq⟩
    cases e
    exact ⟨_, _, _, _, _, _, _, _, rfl, rfl, hq⟩
theorem ExpOk.e {fE : FuncId} {p : Value} {wl : List OA} {J J1 : Ent → Prop} {GE : List Ent} (h : ExpOk fE p wl J GE) (hs : HL.Sub J J1) (L GY : List Ent) :
    CallG Hvaf.prog fE #[p] ⟨J1, L ++ (GE ++ GY)⟩ fun r S' => ∃ J2 G2 a n c, r = .slice a n c ∧ S' = ⟨J2, L ++ (G2 ++ GY)⟩ ∧ HL.Sub J1 J2 ∧ OWI J2 (.slice a n c) wl := by
  refine CallG.behind L (R := fun r S' => ∃ J2 G2 a n c, r = .slice a n c ∧ S' = ⟨J2, G2 ++ GY⟩ ∧ HL.Sub J1 J2 ∧ OWI J2 (.slice a n c) wl) (CallG.use (h J1 hs) ?_) ?_
  · rintro r J2 G2 h2 ho
    replace ho : OWI J2 r wl := ho
    obtain ⟨vss, hR, _⟩ := id ho.out
    obtain ⟨la, lc, rfl⟩ := hR.form
    exact ⟨_, _, _, _, _, rfl, rfl, h2, ho⟩
  · rintro r J2 G' h2 ⟨J3, G2, a, n, c, rfl, e, hq⟩
    cases e
    exact ⟨_, _, _, _, _, rfl, rfl, hq⟩
theorem ExpOk.y {fE : FuncId} {p : Value} {wl : List OA} {J J1 : Ent → Prop} {GY : List Ent} (h : ExpOk fE p wl J GY) (hs : HL.Sub J J1) (L GE : List Ent) :
    CallG Hvaf.prog fE #[p] ⟨J1, L ++ (GE ++ GY)⟩ fun r S' => ∃ J2 G2 a n c, r = .slice a n c ∧ S' = ⟨J2, L ++ (GE ++ G2)⟩ ∧ HL.Sub J1 J2 ∧ OWI J2 (.slice a n c) wl := by
  refine CallG.behind L (R := fun r S' => ∃ J2 G2 a n c, r = .slice a n c ∧ S' = ⟨J2, GE ++ G2⟩ ∧ HL.Sub J1 J2 ∧ OWI J2 (.slice a n c) wl) (CallG.behind GE (h J1 hs) ?_) ?_
  · rintro r J2 G2 h2 ho
    replace ho : OWI J2 r wl := ho
    obtain ⟨vss, hR, _⟩ := id ho.out
    obtain ⟨la, lc, rfl⟩ := hR.form
    exact ⟨_, _, _, _, _, rfl, rfl, h2, ho⟩
  · rintro r J2 G' h2 ⟨J3, G2, a, n, c, rfl, e, hq⟩
    cases e
    exact ⟨_, _, _, _, _, rfl, rfl, hq⟩
/-- law.cutTxs at one transaction -/
theorem lCut {S : St} {a : Option Addr} : CallG Hvaf.prog 10 #[.slice a 1 1, .int .i64 (4 : Nat)] S fun r S' => S = S' ∧ r = .slice a 1 1 := by
  refine CallG.start (C := mkC Hvaf.prog) cok (args := [.slice a 1 1, .int .i64 (4 : Nat)]) Hvaf.func10 rfl Hvaf.ntmps10 (by simp) (by kernel_rfl) ?_
  repeat (first | refine SeqS.go cok ?_ | refine CondS.f rfl ?_)
  exact Fin.same ⟨rfl, rfl⟩
/-- law.Tower at one transaction -/
theorem lTower {I : Ent → Prop} {wa : Option Addr} {wn wc tb v st u gas dn dc : Nat} {da : Option Addr} {out : List Nat} {ml : List LG} {wl : List OA} {ct : Nat → Value} (htb : I ⟨tb, 174, 40, ct⟩) (hct : Row ct 0 (txL (.slice da dn dc) gas))
    (hboth : CallG Hvaf.prog 9 #[.slice wa wn wc, envV] ⟨I, []⟩ fun r S' => ∃ J cb sb GE GY, r = .tuple #[ptr cb 0, ptr sb 0, .bool true] ∧ S' = ⟨J, GE ++ GY⟩ ∧ PlayOk 11 14 (ptr cb 0) (txV (.slice da dn dc) gas) v st u out ml wl J GE ∧ PlayOk 13 15 (ptr sb 0) (txV (.slice da dn dc) gas) v st u out ml wl J GY)
    (hv : v < 256) (hst : st < 13) (hu : u < 2 ^ 64) (hn : ml.length < 2 ^ 30) (htn : ∀ t ∈ ml, t.2.1.length < 2 ^ 30) (hwn : wl.length < 2 ^ 30) :
    CallG Hvaf.prog 4 #[.slice wa wn wc, envV, sl tb 0 1 1] ⟨I, []⟩ fun r S' => r = .bool true := by
  refine CallG.start (C := mkC Hvaf.prog) cok (args := [.slice wa wn wc, envV, sl tb 0 1 1]) Hvaf.func4 rfl Hvaf.ntmps4 (by simp) (by kernel_rfl) ?_
  intro b4
  repeat (first | refine SeqS.go cok ?_ | (refine QuG.keep ?_; first | refine QuG.lN cok 0 rfl rfl rfl rfl rfl (by first | exact Nat.le_of_ble_eq_true rfl | omega | (dsimp only; omega) | (simp only [addS_eq, mulS_eq]; omega)) ?_))
  refine CallG.behind [_] hboth ?_
  rintro r J _ hsJ ⟨J', cb, sb, GE, GY, rfl, e, hE, hY⟩
  cases e
  replace hsJ : HL.Sub I J := hsJ
  repeat (first | refine SeqS.go cok ?_ | refine CondS.f rfl ?_)
  refine lCut.mono ?_
  rintro r _ - ⟨rfl, rfl⟩
  repeat (first | refine SeqS.go cok ?_)
  refine W.rounds cok (by kernel_rfl) 2 ?_
  repeat (first | (refine QuG.keep ?_; refine QuG.rowE cok (x := ⟨tb, 174, 40, ct⟩) hct (.inl (hsJ _ htb)) rfl rfl rfl rfl rfl rfl (Nat.le_of_ble_eq_true rfl) ?_) | refine SeqS.go cok ?_ | refine CondS.t rfl ?_ | refine And.intro (by omega) ?_ | (refine NatS.keep ?_; first | with_reducible refine NatS.lit ?_))
  intro b11
  repeat (first | refine SeqS.go cok ?_ | (refine QuG.keep ?_; first | refine QuG.lN cok 0 rfl rfl rfl rfl rfl (by first | exact Nat.le_of_ble_eq_true rfl | omega | (dsimp only; omega) | (simp only [addS_eq, mulS_eq]; omega)) ?_) | (refine OpG.keep ?_; first | refine OpG.sL cok 0 rfl rfl rfl rfl rfl rfl rfl (by first | exact Nat.le_of_ble_eq_true rfl | omega | (dsimp only; omega) | (simp only [addS_eq, mulS_eq]; omega)) ?_))
  refine (hE.e (.refl _) [_, _] GY).mono ?_
  rintro r _ - ⟨J2, G2, oa, on, oc, la, ln, lc, rfl, rfl, hs2, hb2, hl2, hx2⟩
  skip
  intro b12
  repeat (first | refine SeqS.go cok ?_ | (refine QuG.keep ?_; first | refine QuG.lN cok 0 rfl rfl rfl rfl rfl (by first | exact Nat.le_of_ble_eq_true rfl | omega | (dsimp only; omega) | (simp only [addS_eq, mulS_eq]; omega)) ?_ | refine QuG.lN cok 1 rfl rfl rfl rfl rfl (by first | exact Nat.le_of_ble_eq_true rfl | omega | (dsimp only; omega) | (simp only [addS_eq, mulS_eq]; omega)) ?_) | (refine OpG.keep ?_; first | refine OpG.sL cok 0 rfl rfl rfl rfl rfl rfl rfl (by first | exact Nat.le_of_ble_eq_true rfl | omega | (dsimp only; omega) | (simp only [addS_eq, mulS_eq]; omega)) ?_) | refine W.drawI 8 cok [0, 0, 0, 6, 0, 30, 0, 126, 255, 511] [0, 1, 2, 4, 6, 3, 5, 7, 8, 9] [0, 2] (by kernel_rfl) (by kernel_rfl) ?_)
  refine (hY.y hs2 [_, _, _] G2).mono ?_
  rintro r _ - ⟨J3, G3, oa', on', oc', la', ln', lc', rfl, rfl, hs3, hb3, hl3, hx3⟩
  repeat (first | (refine still_in ?_; first | refine still_nil ?_ | refine still_drop (by decide) ?_ | (refine still_keep (by decide) rfl ?_ ?_; first | exact QuV.lN cok 0 rfl rfl rfl rfl rfl (by first | exact Nat.le_of_ble_eq_true rfl | omega | (dsimp only; omega) | (simp only [addS_eq, mulS_eq]; omega)) rfl)))
  refine (hx2.e hs3 [_, _, _] G3).mono ?_
  rintro r _ - ⟨J4, G4, xa, xn, xc, rfl, rfl, hs4, ho4⟩
  repeat (first | (refine still_in ?_; first | refine still_nil ?_ | refine still_drop (by decide) ?_ | (refine still_keep (by decide) rfl ?_ ?_; first | exact QuV.lN cok 0 rfl rfl rfl rfl rfl (by first | exact Nat.le_of_ble_eq_true rfl | omega | (dsimp only; omega) | (simp only [addS_eq, mulS_eq]; omega)) rfl)))
  refine (hx3.y hs4 [_, _, _] G4).mono ?_
  rintro r _ - ⟨J5, G5, ya, yn, yc, rfl, rfl, hs5, ho5⟩
  repeat (first | (refine still_in ?_; first | refine still_nil ?_ | refine still_drop (by decide) ?_ | (refine still_keep (by decide) rfl ?_ ?_; first | exact QuV.lN cok 0 rfl rfl rfl rfl rfl (by first | exact Nat.le_of_ble_eq_true rfl | omega | (dsimp only; omega) | (simp only [addS_eq, mulS_eq]; omega)) rfl)))
  refine (lTowerHolds (md := List.replicate 20 0) hv hst hu (hb2.mono ((hs3.trans hs4).trans hs5) (by simp)) (hb3.mono (hs4.trans hs5) (by simp)) (hl2.up ((hs3.trans hs4).trans hs5)) (hl3.up (hs4.trans hs5)) ⟨rfl, by decide⟩ hn htn (ho4.up hs5) ho5 hwn).mono ?_
  rintro r _ - ⟨rfl, rfl⟩
  repeat (first | refine SeqS.go cok ?_ | refine CondS.f rfl ?_ | (refine ValS.keep ?_; first | (with_reducible refine ValS.kI64 ?_; first | (with_reducible refine ValS.addI64_LL ?_ ?_ ; omega))) | (refine still_in ?_; first | refine still_drop (by decide) ?_))
  exact Fin.same rfl
end Go.Proofs.YgvafwGreat
