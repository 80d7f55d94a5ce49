import Derived.Test.YgvafwGreatY77
import Derived.Test.YgvafwGreatL9
import Derived.Test.YgvafwGreatY44a
import Derived.Test.YgvafwGreatV8
set_option exponentiation.threshold 1000
set_option maxRecDepth 100000
set_option maxHeartbeats 4000000
set_option linter.unusedVariables false
set_option linter.unusedSimpArgs false
-- v2
-- v4
-- v5
-- v6
-- v7
-- still: exact QuV.of (QuG.subL cok 0 rfl rfl rfl rfl rfl rfl (by assumption) (by assumption) (by first | exact Nat.le_of_ble_eq_true rfl | omega) rfl)
-- still: exact QuV.of (QuG.upC cok 0 rfl rfl rfl rfl rfl rfl (by first | exact Nat.le_of_ble_eq_true rfl | omega) (by first | exact Nat.le_of_ble_eq_true rfl | omega) (by assumption) rfl)
namespace Go.Proofs.YgvafwGreat
open Go.HL Go.Proofs

theorem _root_.Go.HL.Fin.new4 {K : Post} {v : Value} {I : Ent → Prop} {a b c d : Ent} {G M : List Ent} (h : K v ⟨fun x => I x ∨ x ∈ M, c :: G⟩) : Fin K v ⟨I, a :: b :: c :: d :: (G ++ M)⟩ :=
  ⟨[a, b, d], M, c :: G, _, perm_sum fun f => by
    simp only [sumE, sumE_append]; omega, fun _ => .rfl, h⟩
theorem Row.ofCellsO {c : Nat → Value} {o n : Nat} {el : List Value} (h : cellsFrom c o n = el) : Row c o el := by
  subst h
  refine ⟨fun i hi => ?_⟩
  have hi2 : i < n := by simpa using hi
  rw [List.getD_eq_getElem?_getD, cellsFrom_get _ _ _ _ hi2]; rfl
theorem yWordsNil {S : St} : CallG Hvaf.prog 41 #[.slice none 0 0] S fun r S' => S = S' ∧ r = .slice none 0 0 := by
  refine CallG.start (C := mkC Hvaf.prog) cok (args := [.slice none 0 0]) Hvaf.func41 rfl Hvaf.ntmps41 (by simp) (by kernel_rfl) ?_
  repeat (first | refine SeqS.go cok ?_ | refine CondS.t rfl ?_)
  exact Fin.same ⟨rfl, rfl⟩
/-- What the walk needs of an account of the stage. -/
structure ElF (l : List Value) (ad bal : List Nat) (nn : Nat) (ca : Option Addr) (cn cc : Nat) : Prop where
  len : l.length = 55
  one : ∀ u ∈ l, one u = true
  ad : (l.drop 0).take 20 = bvs ad
  bal : (l.drop 21).take 32 = bvs bal
  c20 : l.getD 20 undef = .int .u64 (nn : Nat)
  c53 : l.getD 53 undef = .slice ca cn cc
  c54 : l.getD 54 undef = .slice none 0 0
/-- yp.New at the stage -/
theorem yNew {I : Ent → Prop} {G : List Ent} {v : Value} {ds : List Nat} {cc : Nat} {ca : Option Addr} (hR : RowI I 55 v [el1 (.slice ca ds.length cc), el2]) (hn : ds.length ≤ 256) (hb : Byt ⟨I, []⟩ (.slice ca ds.length cc) ds) :
    CallG Hvaf.prog 22 #[v, envV] ⟨I, G ++ []⟩ fun r S' => ∃ J sb cs l1 l2 vv tv, r = .tuple #[ptr sb 0, .bool true] ∧ S' = ⟨J, ⟨sb, 179, 118, upd (upd cs 0 vv) 18 tv⟩ :: G⟩ ∧ RowI J 24 vv [l1, l2] ∧ Ac0 J l1 ⟨ad1 1, 1, bev z32, ds, []⟩ ∧ Ac0 J l2 ⟨ad1 240, 0, bev w15, [], []⟩ ∧ NatI J tv (0 + bev z32 + bev w15) ∧ Row cs 59 envL ∧ (∀ k, 0 < k → k < 11 → cs k = nlV) ∧ (cs 11 = .int .u8 0 ∧ cs 12 = .int .u8 0 ∧ cs 13 = .int .u8 0) ∧ (∀ k, 14 ≤ k → k < 18 → cs k = nlV) := by
  have hwo := fun (G : List Ent) => lWorldOK (G := G) hR hn
  have F1 : ElF (el1 (.slice ca ds.length cc)) (ad1 1) z32 1 ca ds.length cc := ⟨rfl, el1_one _ rfl, rfl, rfl, rfl, rfl, rfl⟩
  have F2 : ElF el2 (ad1 240) w15 0 none 0 0 := ⟨rfl, el2_one, rfl, rfl, rfl, rfl, rfl⟩
  obtain ⟨vss, hvs⟩ : ∃ vss, [el1 (.slice ca ds.length cc), el2] = vss := ⟨_, rfl⟩
  have e1 : vss.getD 0 [] = el1 (.slice ca ds.length cc) := by rw [← hvs]; rfl
  have e2 : vss.getD 1 [] = el2 := by rw [← hvs]; rfl
  have hv2 : vss.length = 2 := by rw [← hvs]; rfl
  rw [hvs] at hR
  clear hvs
  generalize el1 (.slice ca ds.length cc) = E1 at *
  generalize el2 = E2 at *
  obtain ⟨a1, cap, e⟩ := hR.form
  rw [hv2] at e
  subst e
  obtain ⟨x, o, rfl, hx, hE⟩ := hR.some (by omega)
  have hrd : ∀ G, Rd ⟨I, G⟩ x := fun _ => .inl hx
  have p1 := F1.len
  have p2 := F1.one
  have p3 := F1.ad
  have p5 := F1.c20
  have p6 := F1.c53
  have p7 := F1.c54
  have r1 := F2.len
  have r2 := F2.one
  have r3 := F2.ad
  have r5 := F2.c20
  have r6 := F2.c53
  have r7 := F2.c54
  have hA1 : AdOk (ad1 1) := ⟨rfl, by decide⟩
  have hA2 : AdOk (ad1 240) := ⟨rfl, by decide⟩
  have p8 := hA1.bv
  have r8 := hA2.bv
  have hN1 := fun (I : Ent → Prop) (G : List Ent) => yNum (I := I) (G := G) (n := 1) (by decide)
  have hN0 := fun (I : Ent → Prop) (G : List Ent) => yNum (I := I) (G := G) (n := 0) (by decide)
  refine CallG.start (C := mkC Hvaf.prog) cok (args := [HL.sl x.b o 2 cap, envV]) Hvaf.func22 rfl Hvaf.ntmps22 (by simp) (by kernel_rfl) ?_
  intro b3
  repeat (first | refine SeqS.go cok ?_)
  refine (hwo _).mono ?_
  rintro r _ - ⟨rfl, rfl⟩
  repeat (first | refine GuardS.yes rfl ?_ | (refine QuG.keep ?_; first | refine QuG.lN cok 0 rfl rfl rfl rfl rfl (by first | exact Nat.le_of_ble_eq_true rfl | omega | (dsimp only; omega) | (simp only [addS_eq, mulS_eq]; omega)) ?_))
  refine lEnvOK.mono ?_
  rintro r _ - ⟨rfl, rfl⟩
  repeat (first | refine SeqS.go cok ?_ | refine GuardS.yes rfl ?_ | refine CondS.f rfl ?_)
  intro sb
  repeat (first | refine SeqS.go cok ?_ | (refine QuG.keep ?_; first | refine QuG.l1 cok 1 rfl rfl rfl rfl rfl (by first | exact Nat.le_of_ble_eq_true rfl | omega | (dsimp only; omega) | (simp only [addS_eq, mulS_eq]; omega)) ?_ | refine QuG.lN cok 1 rfl rfl rfl rfl rfl (by first | exact Nat.le_of_ble_eq_true rfl | omega | (dsimp only; omega) | (simp only [addS_eq, mulS_eq]; omega)) ?_) | (refine OpG.keep ?_; first | refine OpG.sL cok 0 rfl rfl rfl rfl rfl rfl rfl (by first | exact Nat.le_of_ble_eq_true rfl | omega | (dsimp only; omega) | (simp only [addS_eq, mulS_eq]; omega)) ?_))
  refine yWordsNil.mono ?_
  rintro r _ - ⟨rfl, rfl⟩
  repeat (first | (refine OpG.keep ?_; first | refine OpG.upF cok 0 rfl rfl rfl rfl rfl rfl (by first | exact Nat.le_of_ble_eq_true rfl | omega) (by first | exact Nat.le_of_ble_eq_true rfl | omega) rfl (by first | rfl | assumption) ?_) | refine SeqS.go cok ?_)
  refine W.rounds cok (by kernel_rfl) 3 ?_
  repeat (first | (refine QuG.keep ?_; first | refine QuG.elE cok _ (by assumption) (by first | assumption | exact ‹∀ G, Rd ⟨_, G⟩ _› _) (by assumption) rfl rfl rfl rfl rfl (by omega) ?_) | refine SeqS.go cok ?_ | refine CondS.t rfl ?_ | refine And.intro (by omega) ?_ | (refine NatS.keep ?_; first | with_reducible refine NatS.lit ?_))
  intro b8
  repeat (first | (refine QuG.keep ?_; first | refine QuG.subL cok 0 rfl rfl rfl rfl rfl rfl (by assumption) (by assumption) (by first | exact Nat.le_of_ble_eq_true rfl | omega) ?_ | refine QuG.upC cok 0 rfl rfl rfl rfl rfl rfl (by first | exact Nat.le_of_ble_eq_true rfl | omega) (by first | exact Nat.le_of_ble_eq_true rfl | omega) (by assumption) ?_) | (refine OpG.keep ?_; first | refine OpG.upS cok 0 rfl rfl rfl rfl rfl (by assumption) (by first | assumption | exact one_bvs _) (by first | exact Nat.le_of_ble_eq_true rfl | omega) ?_) | refine SeqS.go cok ?_ | refine And.intro (Eq.refl true) ?_ | (refine ValS.keep ?_; first | with_reducible refine ValS.sl0 ?_) | refine W.drawI 9 cok [0, 1, 0, 4, 12, 0, 32, 124, 0, 256, 1020, 2047, 0, 8191] [0, 1, 2, 3, 5, 6, 8, 9, 4, 7, 10, 11, 12, 13] [1, 3, 9] (by kernel_rfl) (by kernel_rfl) ?_)
  refine callNS (hN1 _ _) fun na1 nm1 nc1 J1 hs1 hn1 => ?_
  repeat (first | (refine still_in ?_; first | refine still_nil ?_ | refine still_drop (by decide) ?_ | (refine still_keep (by decide) rfl ?_ ?_; first | exact QuV.of (QuG.subL cok 0 rfl rfl rfl rfl rfl rfl (by assumption) (by assumption) (by first | exact Nat.le_of_ble_eq_true rfl | omega) rfl) | exact QuV.of (QuG.upC cok 0 rfl rfl rfl rfl rfl rfl (by first | exact Nat.le_of_ble_eq_true rfl | omega) (by first | exact Nat.le_of_ble_eq_true rfl | omega) (by assumption) rfl))))
  refine callNS (FromBE_byt (S := ⟨J1, _⟩) (sub_b List.mem_cons_self F1.bal rfl (by decide) (by decide) (Nat.le_of_ble_eq_true rfl)) (bev_NB (by decide) (by decide))) fun ba1 bm1 bc1 J2 hs2 hb1 => ?_
  repeat (first | (refine still_in ?_; first | refine still_nil ?_ | refine still_drop (by decide) ?_ | (refine still_keep (by decide) rfl ?_ ?_; first | exact QuV.of (QuG.subL cok 0 rfl rfl rfl rfl rfl rfl (by assumption) (by assumption) (by first | exact Nat.le_of_ble_eq_true rfl | omega) rfl) | exact QuV.of (QuG.upC cok 0 rfl rfl rfl rfl rfl rfl (by first | exact Nat.le_of_ble_eq_true rfl | omega) (by first | exact Nat.le_of_ble_eq_true rfl | omega) (by assumption) rfl))))
  refine callBS (yBytesOf (Byt.ext (hb.mono (hs1.trans hs2) (by simp)))) fun ca1 cc1 J3 hs3 hc1 => ?_
  have hm1 : Ac0 J3 (bvs (ad1 1) ++ [.slice na1 nm1 nc1, .slice ba1 bm1 bc1, .slice ca1 ds.length cc1, .slice none 0 0]) ⟨ad1 1, 1, bev z32, ds, []⟩ := ⟨hA1, rfl, _, _, _, rfl, (hn1.up hs2).up hs3, hb1.up hs3, hc1⟩
  have m1l := hm1.acct.len
  have m1o := hm1.acct.one
  have hsI3 : HL.Sub I J3 := (hs1.trans hs2).trans hs3
  have hrd3 : ∀ G, Rd ⟨J3, G⟩ x := fun _ => .inl (hsI3 _ hx)
  repeat (first | refine And.intro ⟨⟨by assumption, Nat.le_of_ble_eq_true rfl⟩, fillOk_of (Eq.refl true)⟩ ?_ | refine And.intro (Eq.refl true) ?_ | (refine still_in ?_; first | refine still_drop (by decide) ?_ | (refine still_keep (by decide) rfl ?_ ?_; first | exact QuV.of (QuG.subL cok 0 rfl rfl rfl rfl rfl rfl (by assumption) (by assumption) (by first | exact Nat.le_of_ble_eq_true rfl | omega) rfl))))
  intro b9
  repeat (first | (refine QuG.keep ?_; first | refine QuG.upC cok 1 rfl rfl rfl rfl rfl rfl (by first | exact Nat.le_of_ble_eq_true rfl | omega) (by first | exact Nat.le_of_ble_eq_true rfl | omega) (by assumption) ?_) | (refine OpG.keep ?_; first | refine OpG.upS cok 0 rfl rfl rfl rfl rfl (by assumption) (by first | assumption | exact one_bvs _) (by first | exact Nat.le_of_ble_eq_true rfl | omega) ?_) | refine SeqS.go cok ?_ | (refine still_in ?_; first | refine still_drop (by decide) ?_))
  refine W.rounds cok (by kernel_rfl) 1 ?_
  repeat (first | (refine QuG.keep ?_; first | refine QuG.upL cok 0 rfl rfl rfl rfl rfl rfl (by assumption) (by first | exact Nat.le_of_ble_eq_true rfl | omega) ?_) | refine And.intro ⟨⟨by assumption, Nat.le_of_ble_eq_true rfl⟩, trivial⟩ ?_ | refine SeqS.go cok ?_ | refine CondS.f rfl ?_ | refine And.intro (by dsimp only; omega) ?_ | (refine QuG.keep ?_; first | refine QuG.l1 cok 2 rfl rfl rfl rfl rfl (by first | exact Nat.le_of_ble_eq_true rfl | omega | (dsimp only; omega) | (simp only [addS_eq, mulS_eq]; omega)) ?_) | refine W.drawI 15 cok [0, 0, 2, 6, 14, 30, 62, 0, 128, 510, 1023, 2047, 4095, 8191, 16383] [0, 1, 2, 3, 4, 5, 6, 7, 8, 9, 10, 11, 12, 13, 14] [6, 7] (by kernel_rfl) (by kernel_rfl) ?_)
  intro tb
  repeat (first | (refine still_in ?_; first | refine still_nil ?_ | refine still_drop (by decide) ?_ | (refine still_keep (by decide) rfl ?_ ?_; first | exact QuV.l1 cok 3 rfl rfl rfl rfl rfl (by first | exact Nat.le_of_ble_eq_true rfl | omega | (dsimp only; omega) | (simp only [addS_eq, mulS_eq]; omega)) rfl)))
  refine OpG.keep ?_
  refine OpG.app1 cok (L := _ :: _ :: _ :: _ :: G) (M := []) (vss := []) (el := bvs (ad1 1) ++ [.slice na1 nm1 nc1, .slice ba1 bm1 bc1, .slice ca1 ds.length cc1, .slice none 0 0]) rfl rfl rfl rfl rfl rfl rfl rfl rfl (OwnL.nil _ _) ?_ m1l m1o (by decide) ?_
  · exact Row.ofCells (n := 24) rfl
  intro w1 M1 hO1
  have hw1 : one w1 = true := by
    obtain ⟨wad, wcap, e⟩ := hO1.form
    rw [e]; rfl
  repeat (first | (refine OpG.keep ?_; refine OpG.s1E cok 2 0 rfl rfl rfl rfl rfl rfl (Nat.le_of_ble_eq_true rfl) rfl hw1 ?_) | refine SeqS.go cok ?_ | (refine QuG.keep ?_; first | refine QuG.l1 cok 0 rfl rfl rfl rfl rfl (by first | exact Nat.le_of_ble_eq_true rfl | omega | (dsimp only; omega) | (simp only [addS_eq, mulS_eq]; omega)) ?_ | refine QuG.l1 cok 2 rfl rfl rfl rfl rfl (by first | exact Nat.le_of_ble_eq_true rfl | omega | (dsimp only; omega) | (simp only [addS_eq, mulS_eq]; omega)) ?_) | (refine still_in ?_; first | refine still_drop (by decide) ?_) | refine W.drawI 16 cok [0, 0, 2, 6, 14, 30, 0, 64, 254, 511, 1023, 2047, 4095] [0, 1, 2, 3, 4, 5, 6, 7, 8, 9, 10, 11, 12] [5, 7] (by kernel_rfl) (by kernel_rfl) ?_)
  refine callNS (nAdd (NatI.zero J3) (hb1.up hs3) (NB_p (by decide +kernel))) fun ta1 tm1 tc1 J4 hs4 ht1 => ?_
  have hrd4 : ∀ G, Rd ⟨J4, G⟩ x := fun _ => .inl (hs4 _ (hsI3 _ hx))
  have hsI4 : HL.Sub I J4 := hsI3.trans hs4
  have hm1' := hm1.up hs4
  repeat (first | (refine QuG.keep ?_; first | refine QuG.elE cok _ (by assumption) (by first | assumption | exact ‹∀ G, Rd ⟨_, G⟩ _› _) (by assumption) rfl rfl rfl rfl rfl (by omega) ?_) | refine SeqS.go cok ?_ | refine CondS.t rfl ?_ | refine And.intro (by omega) ?_ | (refine NatS.keep ?_; first | with_reducible refine NatS.nat ?_) | (refine ValS.keep ?_; first | (with_reducible refine ValS.kI64 ?_; first | (with_reducible refine ValS.addI64_LL ?_ ?_ ; omega))) | (refine still_in ?_; first | refine still_nil ?_ | refine still_drop (by decide) ?_) | (refine OpG.keep ?_; first | refine OpG.s1 cok 2 rfl rfl rfl rfl rfl (by first | exact Nat.le_of_ble_eq_true rfl | omega | (dsimp only; omega) | (simp only [addS_eq, mulS_eq]; omega)) rfl rfl ?_))
  intro b8'
  repeat (first | (refine QuG.keep ?_; first | refine QuG.subL cok 0 rfl rfl rfl rfl rfl rfl (by assumption) (by assumption) (by first | exact Nat.le_of_ble_eq_true rfl | omega) ?_ | refine QuG.upC cok 0 rfl rfl rfl rfl rfl rfl (by first | exact Nat.le_of_ble_eq_true rfl | omega) (by first | exact Nat.le_of_ble_eq_true rfl | omega) (by assumption) ?_) | (refine OpG.keep ?_; first | refine OpG.upS cok 0 rfl rfl rfl rfl rfl (by assumption) (by first | assumption | exact one_bvs _) (by first | exact Nat.le_of_ble_eq_true rfl | omega) ?_) | refine SeqS.go cok ?_ | refine And.intro (Eq.refl true) ?_ | (refine ValS.keep ?_; first | with_reducible refine ValS.sl0 ?_) | refine W.drawI 9 cok [0, 1, 0, 4, 12, 0, 32, 124, 0, 256, 1020, 2047, 0, 8191] [0, 1, 2, 3, 5, 6, 8, 9, 4, 7, 10, 11, 12, 13] [1, 3, 9] (by kernel_rfl) (by kernel_rfl) ?_)
  refine CallG.drop12 ?_
  refine callNS (hN0 _ _) fun na2 nm2 nc2 J5 hs5 hn2 => ?_
  repeat (first | (refine still_in ?_; first | refine still_nil ?_ | refine still_drop (by decide) ?_ | (refine still_keep (by decide) rfl ?_ ?_; first | exact QuV.of (QuG.subL cok 0 rfl rfl rfl rfl rfl rfl (by assumption) (by assumption) (by first | exact Nat.le_of_ble_eq_true rfl | omega) rfl) | exact QuV.of (QuG.upC cok 0 rfl rfl rfl rfl rfl rfl (by first | exact Nat.le_of_ble_eq_true rfl | omega) (by first | exact Nat.le_of_ble_eq_true rfl | omega) (by assumption) rfl))))
  refine callNS (FromBE_byt (S := ⟨J5, _⟩) (sub_b List.mem_cons_self F2.bal rfl (by decide) (by decide) (Nat.le_of_ble_eq_true rfl)) (bev_NB (by decide) (by decide))) fun ba2 bm2 bc2 J6 hs6 hb2 => ?_
  repeat (first | (refine still_in ?_; first | refine still_nil ?_ | refine still_drop (by decide) ?_ | (refine still_keep (by decide) rfl ?_ ?_; first | exact QuV.of (QuG.subL cok 0 rfl rfl rfl rfl rfl rfl (by assumption) (by assumption) (by first | exact Nat.le_of_ble_eq_true rfl | omega) rfl) | exact QuV.of (QuG.upC cok 0 rfl rfl rfl rfl rfl rfl (by first | exact Nat.le_of_ble_eq_true rfl | omega) (by first | exact Nat.le_of_ble_eq_true rfl | omega) (by assumption) rfl))))
  refine callBS (yBytesOf (ds := []) (Byt.nil _)) fun ca2 cc2 J7 hs7 hc2 => ?_
  have hm2 : Ac0 J7 (bvs (ad1 240) ++ [.slice na2 nm2 nc2, .slice ba2 bm2 bc2, .slice ca2 0 cc2, .slice none 0 0]) ⟨ad1 240, 0, bev w15, [], []⟩ := ⟨hA2, rfl, _, _, _, rfl, (hn2.up hs6).up hs7, hb2.up hs7, hc2⟩
  have m2l := hm2.acct.len
  have m2o := hm2.acct.one
  repeat (first | refine And.intro ⟨⟨by assumption, Nat.le_of_ble_eq_true rfl⟩, fillOk_of (Eq.refl true)⟩ ?_ | refine And.intro (Eq.refl true) ?_ | (refine still_in ?_; first | refine still_drop (by decide) ?_ | (refine still_keep (by decide) rfl ?_ ?_; first | exact QuV.of (QuG.subL cok 0 rfl rfl rfl rfl rfl rfl (by assumption) (by assumption) (by first | exact Nat.le_of_ble_eq_true rfl | omega) rfl))))
  intro b9'
  repeat (first | (refine QuG.keep ?_; first | refine QuG.upC cok 1 rfl rfl rfl rfl rfl rfl (by first | exact Nat.le_of_ble_eq_true rfl | omega) (by first | exact Nat.le_of_ble_eq_true rfl | omega) (by assumption) ?_) | (refine OpG.keep ?_; first | refine OpG.upS cok 0 rfl rfl rfl rfl rfl (by assumption) (by first | assumption | exact one_bvs _) (by first | exact Nat.le_of_ble_eq_true rfl | omega) ?_) | refine SeqS.go cok ?_ | (refine still_in ?_; first | refine still_drop (by decide) ?_))
  refine W.rounds cok (by kernel_rfl) 1 ?_
  repeat (first | (refine QuG.keep ?_; first | refine QuG.upL cok 0 rfl rfl rfl rfl rfl rfl (by assumption) (by first | exact Nat.le_of_ble_eq_true rfl | omega) ?_) | refine And.intro ⟨⟨by assumption, Nat.le_of_ble_eq_true rfl⟩, trivial⟩ ?_ | refine SeqS.go cok ?_ | refine CondS.f rfl ?_ | refine And.intro (by dsimp only; omega) ?_ | (refine QuG.keep ?_; first | refine QuG.l1 cok 2 rfl rfl rfl rfl rfl (by first | exact Nat.le_of_ble_eq_true rfl | omega | (dsimp only; omega) | (simp only [addS_eq, mulS_eq]; omega)) ?_) | refine W.drawI 15 cok [0, 0, 2, 6, 14, 30, 62, 0, 128, 510, 1023, 2047, 4095, 8191, 16383] [0, 1, 2, 3, 4, 5, 6, 7, 8, 9, 10, 11, 12, 13, 14] [6, 7] (by kernel_rfl) (by kernel_rfl) ?_)
  intro tb2
  repeat (first | (refine still_in ?_; first | refine still_nil ?_ | refine still_drop (by decide) ?_ | (refine still_keep (by decide) rfl ?_ ?_; first | exact QuV.l1 cok 3 rfl rfl rfl rfl rfl (by first | exact Nat.le_of_ble_eq_true rfl | omega | (dsimp only; omega) | (simp only [addS_eq, mulS_eq]; omega)) rfl)))
  refine OpG.keep ?_
  refine OpG.app1 cok (v := w1) (L := _ :: _ :: _ :: _ :: G) (M := M1) (vss := [bvs (ad1 1) ++ [Value.slice na1 nm1 nc1, Value.slice ba1 bm1 bc1, Value.slice ca1 ds.length cc1, Value.slice none 0 0]]) (el := bvs (ad1 240) ++ [Value.slice na2 nm2 nc2, Value.slice ba2 bm2 bc2, Value.slice ca2 0 cc2, Value.slice none 0 0]) rfl rfl rfl rfl rfl rfl rfl rfl rfl hO1 ?_ m2l m2o (by show 1 < 2 ^ 20; decide) ?_
  · exact Row.ofCells (n := 24) rfl
  intro w2 M2 hO2
  have hw2 : one w2 = true := by
    obtain ⟨wad, wcap, e⟩ := hO2.form
    rw [e]; rfl
  repeat (first | (refine OpG.keep ?_; refine OpG.s1E cok 2 0 rfl rfl rfl rfl rfl rfl (Nat.le_of_ble_eq_true rfl) rfl hw2 ?_) | refine SeqS.go cok ?_ | (refine QuG.keep ?_; first | refine QuG.l1 cok 0 rfl rfl rfl rfl rfl (by first | exact Nat.le_of_ble_eq_true rfl | omega | (dsimp only; omega) | (simp only [addS_eq, mulS_eq]; omega)) ?_ | refine QuG.l1 cok 2 rfl rfl rfl rfl rfl (by first | exact Nat.le_of_ble_eq_true rfl | omega | (dsimp only; omega) | (simp only [addS_eq, mulS_eq]; omega)) ?_) | (refine still_in ?_; first | refine still_drop (by decide) ?_) | refine W.drawI 16 cok [0, 0, 2, 6, 14, 30, 0, 64, 254, 511, 1023, 2047, 4095] [0, 1, 2, 3, 4, 5, 6, 7, 8, 9, 10, 11, 12] [5, 7] (by kernel_rfl) (by kernel_rfl) ?_)
  refine callNS (nAdd (ht1.up ((hs5.trans hs6).trans hs7)) (hb2.up hs7) (NB_p (by decide +kernel))) fun ta2 tm2 tc2 J8 hs8 ht2 => ?_
  repeat (first | refine SeqS.go cok ?_ | refine CondS.f rfl ?_ | (refine ValS.keep ?_; first | (with_reducible refine ValS.kI64 ?_; first | (with_reducible refine ValS.addI64_L ?_ ?_ ; omega))) | (refine still_in ?_; first | refine still_nil ?_ | refine still_drop (by decide) ?_) | (refine OpG.keep ?_; first | refine OpG.s1 cok 2 rfl rfl rfl rfl rfl (by first | exact Nat.le_of_ble_eq_true rfl | omega | (dsimp only; omega) | (simp only [addS_eq, mulS_eq]; omega)) rfl rfl ?_))
  refine Fin.new4 ⟨_, sb, _, _, _, w2, _, rfl, rfl, hO2.row fun x hx => .inr hx, (hm1'.up (((hs5.trans hs6).trans hs7).trans hs8)).up sub_frz, (hm2.up hs8).up sub_frz, ht2.up sub_frz, Row.ofCellsO (o := 59) (n := 120) rfl, ?_, ⟨rfl, rfl, rfl⟩, ?_⟩
  · intro k h1 h2
    have : k = 1 ∨ k = 2 ∨ k = 3 ∨ k = 4 ∨ k = 5 ∨ k = 6 ∨ k = 7 ∨ k = 8 ∨ k = 9 ∨ k = 10 := by omega
    rcases this with rfl | rfl | rfl | rfl | rfl | rfl | rfl | rfl | rfl | rfl <;> rfl
  · intro k h1 h2
    have : k = 14 ∨ k = 15 ∨ k = 16 ∨ k = 17 := by omega
    rcases this with rfl | rfl | rfl | rfl <;> rfl
end Go.Proofs.YgvafwGreat
