import Derived.Test.YgvafwGreatZ3
import Derived.Test.YgvafwGreatY81
import Derived.Test.YgvafwGreatY80
import Derived.Test.YgvafwGreatY70
import Derived.Test.YgvafwGreatY84
import Derived.Test.YgvafwGreatY83
import Derived.Test.YgvafwGreatL9
set_option exponentiation.threshold 1000
set_option maxRecDepth 100000
set_option maxHeartbeats 4000000
set_option linter.unusedVariables false
set_option linter.unusedSimpArgs false
-- v2
-- v4
-- v5
-- v6
-- v7
-- still: exact QuV.of (QuG.upC cok 1 rfl rfl rfl rfl rfl rfl (by first | exact Nat.le_of_ble_eq_true rfl | omega) (by first | exact Nat.le_of_ble_eq_true rfl | omega) (by assumption) rfl)
namespace Go.Proofs.YgvafwGreat
open Go.HL Go.Proofs

/-- The state's cells ahead of a transaction. -/
structure BS (I : Ent → Prop) (cs : Nat → Value) (code : List Nat) : Prop where
  acc : AcctsD I (cs 0) [⟨adNo 1, 1, 0, code, []⟩, ⟨adNo 240, 0, 2 ^ 128, [], []⟩]
  nl : ∀ k, 0 < k → k < 11 → cs k = nlV
  ph : cs 11 = .int .u8 0
  st : cs 12 = .int .u8 0
  ap : cs 13 = .int .u8 0
  nl2 : ∀ k, 14 ≤ k → k < 18 → cs k = nlV
  tot : NatI I (cs 18) (2 ^ 128)
  env : Row cs 59 envL
theorem _root_.Go.HL.CallG.cell3 {P : Program} {f : FuncId} {args : Array Value} {I : Ent → Prop} {x y z : Ent} {b s : Nat} {T : TypeId} {c : Nat → Value} {G : List Ent} {K : Post} (c' : Nat → Value) (e : c = c') (h : CallG P f args ⟨I, x :: y :: z :: ⟨b, s, T, c'⟩ :: G⟩ K) : CallG P f args ⟨I, x :: y :: z :: ⟨b, s, T, c⟩ :: G⟩ K := e ▸ h
/-- The state's cells where the slots are gathered. -/
def begA (cs : Nat → Value) (gv tv pv : Value) : Nat → Value :=
  upd (updN (upd (upd (upd (upd (upd (updN cs 39 (bvs (List.replicate 20 0))) 9 nlV) 13 (.int .u8 (1 : Nat))) 14 gv) 15 tv) 17 pv) 19 (bvs (adNo 240))) 8 nlV
theorem put_n (code : List Nat) : putA { getA [⟨adNo 1, 1, 0, code, []⟩, ⟨adNo 240, 0, 2 ^ 128, [], []⟩] (adNo 240) with nonce := 0 + 1 } [⟨adNo 1, 1, 0, code, []⟩, ⟨adNo 240, 0, 2 ^ 128, [], []⟩] = [⟨adNo 1, 1, 0, code, []⟩, ⟨adNo 240, 1, 2 ^ 128, [], []⟩] := rfl
theorem put_b (code : List Nat) (gas : Nat) : putA { getA [⟨adNo 1, 1, 0, code, []⟩, ⟨adNo 240, 1, 2 ^ 128, [], []⟩] (adNo 240) with bal := 2 ^ 128 - gas * 0 } [⟨adNo 1, 1, 0, code, []⟩, ⟨adNo 240, 1, 2 ^ 128, [], []⟩] = [⟨adNo 1, 1, 0, code, []⟩, ⟨adNo 240, 1, 2 ^ 128, [], []⟩] := rfl
theorem wa_okC {l : List (List Nat)} (h : ∀ x ∈ l, x.length = 20 ∧ ∀ d ∈ x, d < 256) : ∀ x ∈ l, AdOk x := fun x hx => ⟨(h x hx).1, (h x hx).2⟩
/-- The addresses that are warm at the start. -/
def waN : List (List Nat) := withA (adNo 5) (withA (adNo 4) (withA (adNo 1) (withA (adNo 192) (withA (adNo 240) []))))
/-- What Begin leaves. -/
def begP (sb gas : Nat) (cs : Nat → Value) (ds code : List Nat) (S' : St) : Prop :=
  ∃ J fb fsz cf fc gv tv pv w w2 v1 v2 v3 v4 v5 cv iv vv av wv m1 m2 nv2, S' = ⟨J, [⟨sb, 179, 118, upd (upd (upd (upd (upd (upd (upd (upd (upd (upd (upd (begA cs gv tv pv) 0 w) 0 w2) 1 v1) 1 v2) 1 v3) 1 v4) 1 v5) 10 nlV) 11 (.int .u8 1)) 10 nlV) 9 (HL.sl fb 0 1 fc)⟩, ⟨fb, fsz, 156, cf⟩]⟩ ∧ FzI fc fsz ∧ Row cf 0 (frL tv vv cv iv (adNo 1) (adNo 240) [av, wv, nlV, nv2, nlV, nlV, nlV, nlV]) ∧ NatI J nv2 0 ∧ RowI J 24 av [m1, m2] ∧ Ac0 J m1 ⟨adNo 1, 1, 0, code, []⟩ ∧ Ac0 J m2 ⟨adNo 240, 1, 2 ^ 128, [], []⟩ ∧ RowI J 20 wv (waN.map bvs) ∧ NatI J gv gas ∧ NatI J tv (gas - intN ds) ∧ NatI J pv 0 ∧ NatI J vv 0 ∧ Byt ⟨J, []⟩ cv code ∧ Byt ⟨J, []⟩ iv ds ∧ AcctsD J w2 [⟨adNo 1, 1, 0, code, []⟩, ⟨adNo 240, 1, 2 ^ 128, [], []⟩] ∧ RowI J 20 v5 (waN.map bvs)
section
variable {I : Ent → Prop} {sb gas dc : Nat} {cs : Nat → Value} {da : Option Addr} {ds code : List Nat}
theorem yBegin0 (hB : BS I cs code) (hNd : Byt ⟨I, []⟩ (.slice da ds.length dc) ds) (hg : gas ≤ 1048576) (hd : ds.length ≤ 1024) (hi : intN ds ≤ gas) :
    CallG Hvaf.prog 29 #[ptr sb 0, txV (.slice da ds.length dc) gas] ⟨I, [⟨sb, 179, 118, cs⟩]⟩ fun r S' => r = .int .u8 0 ∧ begP sb gas cs ds code S' := by
  have hbase : Row cs 146 (bvs z32) := row_sub (p := 87) hB.env rfl
  have hgl : cs 81 = .int .u64 1048576 := hB.env.get 22 (by show 22 < 120; decide)
  have hcb : Row cs 59 (bvs (adNo 192)) := row_sub (p := 0) hB.env rfl
  have hph := hB.ph
  have hap := hB.ap
  have hver := fun (G : List Ent) => yVerdict0 (G := G) (sb := sb) (Ts := 118) (ssz := 179) (by decide) hbase hB.ph hB.ap hgl hB.acc.acc (by show 2 < 2 ^ 20; decide) rfl rfl hNd (by omega) hg hd hi
  have hac := fun (I2 : Ent → Prop) (hs : HL.Sub I I2) (G : List Ent) => yAccountF (I := I2) (G := G) (wb := sb) (sz := 179) (T := 118) (a := adNo 240) (by decide) (hB.acc.acc.up hs) ⟨rfl, by decide⟩ (by show 2 < 2 ^ 30; decide)
  have hUg := fun (I : Ent → Prop) (G : List Ent) => yNum (I := I) (G := G) (n := gas) (by omega)
  obtain ⟨vss, hRv, hvl, hel⟩ := hB.acc.out
  have hv2 : vss.length = 2 := hvl
  obtain ⟨ad, cap, hc0⟩ := hRv.form
  rw [hc0] at hRv
  rw [hv2] at hc0
  obtain ⟨x, o, rfl, hx, hE⟩ := hRv.some (by omega)
  have D1 := hel 0 (by show 0 < 2; decide)
  have D2 := hel 1 (by show 1 < 2; decide)
  obtain ⟨l1, e1⟩ : ∃ l1, vss.getD 0 [] = l1 := ⟨_, rfl⟩
  obtain ⟨l2, e2⟩ : ∃ l2, vss.getD 1 [] = l2 := ⟨_, rfl⟩
  rw [e1] at D1
  rw [e2] at D2
  have d1 := D1.len
  have d2 := D1.one
  have d3 := D1.z rfl
  have f1 := D2.len
  have f2 := D2.one
  have f3 := D2.z rfl
  have hU1 := fun (I : Ent → Prop) (G : List Ent) => yNum (I := I) (G := G) (n := 1) (by decide)
  refine CallG.start (C := mkC Hvaf.prog) cok (args := [ptr sb 0, txV (.slice da ds.length dc) gas]) Hvaf.func29 rfl Hvaf.ntmps29 (by simp) (by kernel_rfl) ?_
  intro b3
  repeat (first | refine SeqS.go cok ?_ | (refine QuG.keep ?_; first | refine QuG.lN cok 0 rfl rfl rfl rfl rfl (by first | exact Nat.le_of_ble_eq_true rfl | omega | (dsimp only; omega) | (simp only [addS_eq, mulS_eq]; omega)) ?_))
  refine CallG.behind [_] (hver _) ?_
  rintro r J1 _ hs1 ⟨e, rfl⟩
  cases e
  replace hs1 : HL.Sub I J1 := hs1
  repeat (first | refine SeqS.go cok ?_ | refine CondS.f rfl ?_ | (refine QuG.keep ?_; first | refine QuG.lN cok 0 rfl rfl rfl rfl rfl (by first | exact Nat.le_of_ble_eq_true rfl | omega | (dsimp only; omega) | (simp only [addS_eq, mulS_eq]; omega)) ?_) | refine W.drawI 5 cok [0, 1, 3, 0, 8, 31, 0, 127] [0, 1, 2, 3, 4, 5, 6, 7] [4] (by kernel_rfl) (by kernel_rfl) ?_)
  refine CallG.behind [_] (hac J1 hs1 _) ?_
  rintro r J2 _ hs2 ⟨e, l, nv, bv, ca, cc, rfl, hF⟩
  cases e
  have q0 := hF.len
  have q1 := hF.one
  have q2 := hF.c20
  have q3 := hF.c21
  repeat (first | (refine still_in ?_; first | refine still_nil ?_ | refine still_drop (by decide) ?_))
  intro b7
  repeat (first | (refine OpG.keep ?_; first | refine OpG.upS cok 0 rfl rfl rfl rfl rfl (by assumption) (by first | assumption | exact one_bvs _) (by first | exact Nat.le_of_ble_eq_true rfl | omega) ?_) | refine SeqS.go cok ?_ | (refine QuG.keep ?_; first | refine QuG.lN cok 1 rfl rfl rfl rfl rfl (by first | exact Nat.le_of_ble_eq_true rfl | omega | (dsimp only; omega) | (simp only [addS_eq, mulS_eq]; omega)) ?_) | (refine still_in ?_; first | refine still_drop (by decide) ?_))
  intro b8
  repeat (first | (refine QuG.keep ?_; first | refine QuG.l1E cok 3 rfl rfl rfl rfl rfl (by first | exact Nat.le_of_ble_eq_true rfl | omega | (dsimp only; omega) | (simp only [addS_eq, mulS_eq]; omega)) (by assumption) ?_) | refine SeqS.go cok ?_ | refine CondS.f rfl ?_ | refine And.intro (fillOk_of (Eq.refl true)) ?_ | (refine ValS.keep ?_; first | (with_reducible refine ValS.kU8 ?_; first | (with_reducible refine ValS.addU8_LL ?_ ?_ ; omega))) | (refine QuG.keep ?_; first | refine QuG.l1 cok 2 rfl rfl rfl rfl rfl (by first | exact Nat.le_of_ble_eq_true rfl | omega | (dsimp only; omega) | (simp only [addS_eq, mulS_eq]; omega)) ?_) | (refine OpG.keep ?_; first | refine OpG.s1 cok 3 rfl rfl rfl rfl rfl (by first | exact Nat.le_of_ble_eq_true rfl | omega | (dsimp only; omega) | (simp only [addS_eq, mulS_eq]; omega)) rfl rfl ?_ | refine OpG.sL cok 0 rfl rfl rfl rfl rfl rfl rfl (by first | exact Nat.le_of_ble_eq_true rfl | omega | (dsimp only; omega) | (simp only [addS_eq, mulS_eq]; omega)) ?_ | refine OpG.sL cok 3 rfl rfl rfl rfl rfl rfl rfl (by first | exact Nat.le_of_ble_eq_true rfl | omega | (dsimp only; omega) | (simp only [addS_eq, mulS_eq]; omega)) ?_))
  refine callNS (hUg _ _) fun ga gn gc J3 hs3 hgN => ?_
  repeat (first | refine SeqS.go cok ?_ | (refine QuG.keep ?_; first | refine QuG.l1 cok 3 rfl rfl rfl rfl rfl (by first | exact Nat.le_of_ble_eq_true rfl | omega | (dsimp only; omega) | (simp only [addS_eq, mulS_eq]; omega)) ?_ | refine QuG.lN cok 2 rfl rfl rfl rfl rfl (by first | exact Nat.le_of_ble_eq_true rfl | omega | (dsimp only; omega) | (simp only [addS_eq, mulS_eq]; omega)) ?_) | (refine OpG.keep ?_; first | refine OpG.s1 cok 3 rfl rfl rfl rfl rfl (by first | exact Nat.le_of_ble_eq_true rfl | omega | (dsimp only; omega) | (simp only [addS_eq, mulS_eq]; omega)) rfl rfl ?_) | refine W.drawI 14 cok [0, 0, 2, 6, 14, 0, 32, 126, 255, 511, 1023] [0, 1, 2, 3, 4, 5, 6, 7, 8, 9, 10] [4, 5] (by kernel_rfl) (by kernel_rfl) ?_)
  refine callNS (yIntrinsic (hNd.up (hs1.trans hs3)) hd) fun ia im ic J4 hs4 hiN => ?_
  repeat (first | (refine still_in ?_; first | refine still_nil ?_ | refine still_drop (by decide) ?_ | (refine still_keep (by decide) rfl ?_ ?_; first | exact QuV.l1 cok 3 rfl rfl rfl rfl rfl (by first | exact Nat.le_of_ble_eq_true rfl | omega | (dsimp only; omega) | (simp only [addS_eq, mulS_eq]; omega)) rfl)))
  refine callNS (yLess (hgN.up hs4) hiN) fun ta tn tc J5 hs5 htN => ?_
  have hbase2 : Row (upd (upd (upd (upd (updN cs 39 (bvs (List.replicate 20 0))) 9 nlV) 13 (.int .u8 (1 : Nat))) 14 (.slice ga gn gc)) 15 (.slice ta tn tc)) 146 (bvs z32) := Row.keep hbase fun k hk => by
    rw [upd_ne (by omega), upd_ne (by omega), upd_ne (by omega), upd_ne (by omega), updN_ge (by show 39 + 20 ≤ k; omega)]
  repeat (first | refine SeqS.go cok ?_ | (refine QuG.keep ?_; first | refine QuG.lN cok 2 rfl rfl rfl rfl rfl (by first | exact Nat.le_of_ble_eq_true rfl | omega | (dsimp only; omega) | (simp only [addS_eq, mulS_eq]; omega)) ?_) | (refine still_in ?_; first | refine still_nil ?_ | refine still_drop (by decide) ?_) | (refine OpG.keep ?_; first | refine OpG.s1 cok 3 rfl rfl rfl rfl rfl (by first | exact Nat.le_of_ble_eq_true rfl | omega | (dsimp only; omega) | (simp only [addS_eq, mulS_eq]; omega)) rfl rfl ?_))
  refine CallG.cell3 (upd (upd (upd (upd (updN cs 39 (bvs (List.replicate 20 0))) 9 nlV) 13 (.int .u8 (1 : Nat))) 14 (.slice ga gn gc)) 15 (.slice ta tn tc)) rfl ?_
  refine CallG.behind [_, _, _] (yPrice (by decide) hbase2) ?_
  rintro r J6 _ hs6 ⟨e, hpN0⟩
  cases e
  replace hs6 : HL.Sub J5 J6 := hs6
  replace hpN0 : NatI J6 r 0 := hpN0
  have hp1 := NatI.isl hpN0
  repeat (first | (refine QuG.keep ?_; first | refine QuG.l1E cok 3 rfl rfl rfl rfl rfl (by first | exact Nat.le_of_ble_eq_true rfl | omega | (dsimp only; omega) | (simp only [addS_eq, mulS_eq]; omega)) (by assumption) ?_) | (refine OpG.keep ?_; first | refine OpG.s1 cok 3 rfl rfl rfl rfl rfl (by first | exact Nat.le_of_ble_eq_true rfl | omega | (dsimp only; omega) | (simp only [addS_eq, mulS_eq]; omega)) rfl (by assumption) ?_) | refine SeqS.go cok ?_ | (refine QuG.keep ?_; first | refine QuG.lN cok 2 rfl rfl rfl rfl rfl (by first | exact Nat.le_of_ble_eq_true rfl | omega | (dsimp only; omega) | (simp only [addS_eq, mulS_eq]; omega)) ?_) | (refine OpG.keep ?_; first | refine OpG.s1 cok 3 rfl rfl rfl rfl rfl (by first | exact Nat.le_of_ble_eq_true rfl | omega | (dsimp only; omega) | (simp only [addS_eq, mulS_eq]; omega)) rfl rfl ?_ | refine OpG.sL cok 3 rfl rfl rfl rfl rfl rfl rfl (by first | exact Nat.le_of_ble_eq_true rfl | omega | (dsimp only; omega) | (simp only [addS_eq, mulS_eq]; omega)) ?_))
  have hsI6 : HL.Sub I J6 := (((hs1.trans hs3).trans hs4).trans hs5).trans hs6
  have hrd6 : ∀ G, Rd ⟨J6, G⟩ x := fun _ => .inl (hsI6 _ hx)
  have hNn : NatI J6 nv 0 := hF.n.up (((hs3.trans hs4).trans hs5).trans hs6)
  have hNb : NatI J6 bv (2 ^ 128) := hF.b.up (((hs3.trans hs4).trans hs5).trans hs6)
  refine W.loopF cok (by kernel_rfl) 0 (fun (i : Nat) e' S' => (∃ z7 z8, S' = ⟨J6, [⟨b8, 20, 31, updN z8 0 (bvs (adNo 1))⟩, ⟨b7, 24, 121, updN z7 0 l⟩, ⟨b3, 174, 40, vc (txV (.slice da ds.length dc) gas)⟩, ⟨sb, 179, 118, begA cs (.slice ga gn gc) (.slice ta tn tc) r⟩]⟩) ∧ i ≤ 2 ∧ slots [(3, ptr b3 0), (5, ptr sb 0), (7, ptr b7 0), (8, ptr b8 0), (94, HL.sl x.b o 2 cap), (95, .int .i64 (2 : Nat)), (96, .int .i64 (i : Nat))] e') (fun i => 2 - i) 0
    (Rel.same ⟨⟨_, _, rfl⟩, by decide, rfl, rfl, rfl, rfl, rfl, rfl, rfl, trivial⟩) (fun e' S' => (∃ z7 z8, S' = ⟨J6, [⟨b8, 20, 31, updN z8 0 (bvs (adNo 1))⟩, ⟨b7, 24, 121, updN z7 0 l⟩, ⟨b3, 174, 40, vc (txV (.slice da ds.length dc) gas)⟩, ⟨sb, 179, 118, begA cs (.slice ga gn gc) (.slice ta tn tc) r⟩]⟩) ∧ slots [(3, ptr b3 0), (5, ptr sb 0), (7, ptr b7 0), (8, ptr b8 0)] e') ?_ ?_
  · rintro e' S2 - ⟨⟨z7, z8, rfl⟩, hsl⟩
    refine SeqS.slots cok _ hsl fun e => ?_
    clear hver hac hUg hsl
    repeat (first | (refine QuG.keep ?_; first | refine QuG.upC cok 1 rfl rfl rfl rfl rfl rfl (by first | exact Nat.le_of_ble_eq_true rfl | omega) (by first | exact Nat.le_of_ble_eq_true rfl | omega) (by assumption) ?_) | (refine QuG.keep ?_; first | refine QuG.lN cok 2 rfl rfl rfl rfl rfl (by first | exact Nat.le_of_ble_eq_true rfl | omega | (dsimp only; omega) | (simp only [addS_eq, mulS_eq]; omega)) ?_) | refine W.drawI 27 cok [0, 1, 3, 0, 8, 0, 32, 0, 224, 511] [0, 1, 2, 3, 4, 5, 6, 7, 8, 9] [4, 6] (by kernel_rfl) (by kernel_rfl) ?_)
    refine callNS (hU1 _ _) fun oa om oc J7 hs7 hoN => ?_
    repeat (first | (refine still_in ?_; first | refine still_nil ?_ | (refine still_keep (by decide) rfl ?_ ?_; first | exact QuV.lN cok 2 rfl rfl rfl rfl rfl (by first | exact Nat.le_of_ble_eq_true rfl | omega | (dsimp only; omega) | (simp only [addS_eq, mulS_eq]; omega)) rfl | exact QuV.of (QuG.upC cok 1 rfl rfl rfl rfl rfl rfl (by first | exact Nat.le_of_ble_eq_true rfl | omega) (by first | exact Nat.le_of_ble_eq_true rfl | omega) (by assumption) rfl))))
    refine callNS (nAdd (hNn.up hs7) hoN (by decide +kernel)) fun na nm nc J8 hs8 hn1 => ?_
    have hsI8 : HL.Sub I J8 := (hsI6.trans hs7).trans hs8
    have hsn := fun (G : List Ent) => ySetNonceD (G := G) (wb := sb) (sz := 179) (T := 118) (c := begA cs (.slice ga gn gc) (.slice ta tn tc) r) (a := adNo 240) (by decide) (hB.acc.up hsI8) ⟨rfl, by decide⟩ hn1 (by show 2 < 2 ^ 19; decide) rfl
    repeat (first | (refine still_in ?_; first | refine still_nil ?_ | refine still_drop (by decide) ?_ | (refine still_keep (by decide) rfl ?_ ?_; first | exact QuV.lN cok 2 rfl rfl rfl rfl rfl (by first | exact Nat.le_of_ble_eq_true rfl | omega | (dsimp only; omega) | (simp only [addS_eq, mulS_eq]; omega)) rfl)))
    refine CallG.behind [_, _, _] (hsn _) ?_
    rintro r2 J9 _ hs9 ⟨J9', w, e9, hA9⟩
    cases e9
    replace hs9 : HL.Sub J8 J9 := hs9
    rw [put_n code] at hA9
    have hs69 : HL.Sub J6 J9 := (hs7.trans hs8).trans hs9
    repeat (first | (refine QuG.keep ?_; first | refine QuG.upC cok 1 rfl rfl rfl rfl rfl rfl (by first | exact Nat.le_of_ble_eq_true rfl | omega) (by first | exact Nat.le_of_ble_eq_true rfl | omega) (by assumption) ?_) | refine SeqS.go cok ?_ | (refine QuG.keep ?_; first | refine QuG.l1 cok 3 rfl rfl rfl rfl rfl (by first | exact Nat.le_of_ble_eq_true rfl | omega | (dsimp only; omega) | (simp only [addS_eq, mulS_eq]; omega)) ?_ | refine QuG.lN cok 2 rfl rfl rfl rfl rfl (by first | exact Nat.le_of_ble_eq_true rfl | omega | (dsimp only; omega) | (simp only [addS_eq, mulS_eq]; omega)) ?_) | (refine still_in ?_; first | refine still_drop (by decide) ?_) | refine W.drawI 28 cok [0, 1, 3, 0, 8, 0, 32, 0, 128, 384, 896, 0, 2048, 6144, 14336, 32640, 65504, 131071] [0, 1, 2, 3, 4, 5, 6, 7, 8, 9, 10, 11, 12, 13, 14, 15, 16, 17] [4, 6, 10, 14] (by kernel_rfl) (by kernel_rfl) ?_)
    refine callNS (nMul (hgN.up ((hs4.trans hs5).trans (hs6.trans hs69))) (hpN0.up hs69) (NB_p (by rw [Nat.mul_zero]; decide +kernel))) fun ma mn mc J10 hs10 hmN => ?_
    repeat (first | (refine still_in ?_; first | refine still_nil ?_ | refine still_drop (by decide) ?_ | (refine still_keep (by decide) rfl ?_ ?_; first | exact QuV.lN cok 2 rfl rfl rfl rfl rfl (by first | exact Nat.le_of_ble_eq_true rfl | omega | (dsimp only; omega) | (simp only [addS_eq, mulS_eq]; omega)) rfl | exact QuV.of (QuG.upC cok 1 rfl rfl rfl rfl rfl rfl (by first | exact Nat.le_of_ble_eq_true rfl | omega) (by first | exact Nat.le_of_ble_eq_true rfl | omega) (by assumption) rfl))))
    refine callNS (yLess (hNb.up (hs69.trans hs10)) hmN) fun ba bm bc J11 hs11 hb1 => ?_
    have hsb := fun (G : List Ent) => ySetBalanceD (G := G) (wb := sb) (sz := 179) (T := 118) (c := upd (begA cs (.slice ga gn gc) (.slice ta tn tc) r) 0 w) (a := adNo 240) (by decide) (hA9.up (hs10.trans hs11)) ⟨rfl, by decide⟩ hb1 (by show 2 < 2 ^ 19; decide) rfl
    repeat (first | (refine still_in ?_; first | refine still_nil ?_ | refine still_drop (by decide) ?_ | (refine still_keep (by decide) rfl ?_ ?_; first | exact QuV.lN cok 2 rfl rfl rfl rfl rfl (by first | exact Nat.le_of_ble_eq_true rfl | omega | (dsimp only; omega) | (simp only [addS_eq, mulS_eq]; omega)) rfl)))
    refine CallG.behind [_, _, _] (hsb _) ?_
    rintro r3 J12 _ hs12 ⟨J12', w2, e12, hA12⟩
    cases e12
    replace hs12 : HL.Sub J11 J12 := hs12
    rw [put_b code gas] at hA12
    have hw0 : RowI J12 20 (upd (upd (begA cs (.slice ga gn gc) (.slice ta tn tc) r) 0 w) 0 w2 1) (([] : List (List Nat)).map bvs) := by
      show RowI J12 20 (cs 1) []
      rw [hB.nl 1 (by decide) (by decide)]; exact RowI.nil _ _
    have hwm1 := fun (G : List Ent) => yWarm (G := G) (wb := sb) (sz := 179) (T := 118) (a := adNo 240) (by decide) hw0 ⟨rfl, by decide⟩ (by simp) (by decide)
    repeat (first | refine SeqS.go cok ?_ | (refine QuG.keep ?_; first | refine QuG.lN cok 2 rfl rfl rfl rfl rfl (by first | exact Nat.le_of_ble_eq_true rfl | omega | (dsimp only; omega) | (simp only [addS_eq, mulS_eq]; omega)) ?_) | (refine still_in ?_; first | refine still_drop (by decide) ?_) | refine W.drawI 29 cok [0, 1, 3, 0, 8, 31] [0, 1, 2, 3, 4, 5] [4] (by kernel_rfl) (by kernel_rfl) ?_)
    refine CallG.behind [_, _, _] (hwm1 _) ?_
    rintro r4 J13 _ hs13 ⟨J13', v1, e13, hv1⟩
    cases e13
    replace hs13 : HL.Sub J12 J13 := hs13
    have hcb2 : Row (upd (upd (upd (begA cs (.slice ga gn gc) (.slice ta tn tc) r) 0 w) 0 w2) 1 v1) 59 (bvs (adNo 192)) := Row.keep hcb fun k hk => by
      unfold begA
      rw [upd_ne (by omega), upd_ne (by omega), upd_ne (by omega), upd_ne (by omega), updN_ge (by show 19 + 20 ≤ k; omega), upd_ne (by omega), upd_ne (by omega), upd_ne (by omega), upd_ne (by omega), upd_ne (by omega), updN_ge (by show 39 + 20 ≤ k; omega)]
    have h192 : (bvs (adNo 192)).length = 20 := rfl
    have h1l : (bvs (adNo 1)).length = 20 := rfl
    have hwm2 := fun (G : List Ent) => yWarm (G := G) (wb := sb) (sz := 179) (T := 118) (c := upd (upd (upd (begA cs (.slice ga gn gc) (.slice ta tn tc) r) 0 w) 0 w2) 1 v1) (a := adNo 192) (by decide) hv1 ⟨rfl, by decide⟩ (wa_okC (by decide)) (by decide)
    repeat (first | (refine QuG.keep ?_; first | refine QuG.rowA cok 3 rfl rfl rfl rfl rfl (by assumption) (by assumption) (by first | exact Nat.le_of_ble_eq_true rfl | omega | (dsimp only; omega) | (simp only [addS_eq, mulS_eq]; omega)) ?_) | refine SeqS.go cok ?_ | (refine still_in ?_; first | refine still_drop (by decide) ?_) | refine W.drawI 30 cok [0, 1, 3, 0, 8, 24, 56, 120, 255] [0, 1, 2, 3, 4, 5, 6, 7, 8] [7] (by kernel_rfl) (by kernel_rfl) ?_)
    refine CallG.behind [_, _, _] (hwm2 _) ?_
    rintro r5 J14 _ hs14 ⟨J14', v2, e14, hv2'⟩
    cases e14
    replace hs14 : HL.Sub J13 J14 := hs14
    have hwm3 := fun (G : List Ent) => yWarm (G := G) (wb := sb) (sz := 179) (T := 118) (c := upd (upd (upd (upd (begA cs (.slice ga gn gc) (.slice ta tn tc) r) 0 w) 0 w2) 1 v1) 1 v2) (a := adNo 1) (by decide) hv2' ⟨rfl, by decide⟩ (wa_okC (by decide)) (by decide)
    repeat (first | (refine QuG.keep ?_; first | refine QuG.upL cok 0 rfl rfl rfl rfl rfl rfl (by assumption) (by first | exact Nat.le_of_ble_eq_true rfl | omega) ?_) | refine SeqS.go cok ?_ | (refine still_in ?_; first | refine still_drop (by decide) ?_) | refine W.drawI 31 cok [0, 1, 3, 0, 15] [0, 1, 2, 3, 4] [3] (by kernel_rfl) (by kernel_rfl) ?_)
    refine CallG.behind [_, _, _] (hwm3 _) ?_
    rintro r6 J15 _ hs15 ⟨J15', v3, e15, hv3⟩
    cases e15
    replace hs15 : HL.Sub J14 J15 := hs15
    have hwm4 := fun (G : List Ent) => yWarm (G := G) (wb := sb) (sz := 179) (T := 118) (c := upd (upd (upd (upd (upd (begA cs (.slice ga gn gc) (.slice ta tn tc) r) 0 w) 0 w2) 1 v1) 1 v2) 1 v3) (a := adNo 4) (by decide) hv3 ⟨rfl, by decide⟩ (wa_okC (by decide)) (by decide)
    repeat (first | refine SeqS.go cok ?_ | refine And.intro (fillOk_of (Eq.refl true)) ?_ | (refine still_in ?_; first | refine still_drop (by decide) ?_))
    refine CallG.behind [_, _, _] (hwm4 _) ?_
    rintro r7 J16 _ hs16 ⟨J16', v4, e16, hv4⟩
    cases e16
    replace hs16 : HL.Sub J15 J16 := hs16
    have hwm5 := fun (G : List Ent) => yWarm (G := G) (wb := sb) (sz := 179) (T := 118) (c := upd (upd (upd (upd (upd (upd (begA cs (.slice ga gn gc) (.slice ta tn tc) r) 0 w) 0 w2) 1 v1) 1 v2) 1 v3) 1 v4) (a := adNo 5) (by decide) hv4 ⟨rfl, by decide⟩ (wa_okC (by decide)) (by decide)
    repeat (first | refine SeqS.go cok ?_ | refine And.intro (fillOk_of (Eq.refl true)) ?_)
    refine CallG.behind [_, _, _] (hwm5 _) ?_
    rintro r8 J17 _ hs17 ⟨J17', v5, e17, hv5⟩
    cases e17
    replace hs17 : HL.Sub J16 J17 := hs17
    repeat (first | refine SeqS.go cok ?_ | (refine QuG.keep ?_; first | refine QuG.l1 cok 2 rfl rfl rfl rfl rfl (by first | exact Nat.le_of_ble_eq_true rfl | omega | (dsimp only; omega) | (simp only [addS_eq, mulS_eq]; omega)) ?_))
    refine W.loopF cok (by kernel_rfl) 4 (fun (i : Nat) e' S' => (∃ z7 z8, S' = ⟨J17, [⟨b8, 20, 31, updN z8 0 (bvs (adNo 1))⟩, ⟨b7, 24, 121, updN z7 0 l⟩, ⟨b3, 174, 40, vc (txV (.slice da ds.length dc) gas)⟩, ⟨sb, 179, 118, upd (upd (upd (upd (upd (upd (upd (begA cs (.slice ga gn gc) (.slice ta tn tc) r) 0 w) 0 w2) 1 v1) 1 v2) 1 v3) 1 v4) 1 v5⟩]⟩) ∧ i = 0 ∧ slots [(3, ptr b3 0), (5, ptr sb 0), (8, ptr b8 0), (185, .int .i64 (0 : Nat)), (186, .int .i64 (0 : Nat))] e') (fun i => i) 0
      (Rel.same ⟨⟨_, _, rfl⟩, rfl, rfl, rfl, rfl, rfl, rfl, trivial⟩) (fun e' S' => (∃ z7 z8, S' = ⟨J17, [⟨b8, 20, 31, updN z8 0 (bvs (adNo 1))⟩, ⟨b7, 24, 121, updN z7 0 l⟩, ⟨b3, 174, 40, vc (txV (.slice da ds.length dc) gas)⟩, ⟨sb, 179, 118, upd (upd (upd (upd (upd (upd (upd (begA cs (.slice ga gn gc) (.slice ta tn tc) r) 0 w) 0 w2) 1 v1) 1 v2) 1 v3) 1 v4) 1 v5⟩]⟩) ∧ slots [(3, ptr b3 0), (5, ptr sb 0), (8, ptr b8 0)] e') ?_ ?_
    · rintro e' S2 - ⟨⟨z7', z8', rfl⟩, hsl⟩
      refine SeqS.slots cok _ hsl fun e => ?_
      clear hwm1 hwm2 hwm3 hwm4 hwm5 hsb hsn hsl
      have hs12' : HL.Sub J12 J17 := ((hs13.trans hs14).trans (hs15.trans hs16)).trans hs17
      have hsI17 : HL.Sub I J17 := ((hsI8.trans hs9).trans (hs10.trans (hs11.trans hs12))).trans hs12'
      have h1l' : (bvs (adNo 1)).length = 20 := rfl
      repeat (first | (refine QuG.keep ?_; first | refine QuG.upL cok 0 rfl rfl rfl rfl rfl rfl (by assumption) (by first | exact Nat.le_of_ble_eq_true rfl | omega) ?_) | refine SeqS.go cok ?_ | refine And.intro (Eq.refl true) ?_ | (refine ValS.keep ?_; first | with_reducible refine ValS.sl0 ?_) | (refine QuG.keep ?_; first | refine QuG.l1 cok 3 rfl rfl rfl rfl rfl (by first | exact Nat.le_of_ble_eq_true rfl | omega | (dsimp only; omega) | (simp only [addS_eq, mulS_eq]; omega)) ?_ | refine QuG.lN cok 2 rfl rfl rfl rfl rfl (by first | exact Nat.le_of_ble_eq_true rfl | omega | (dsimp only; omega) | (simp only [addS_eq, mulS_eq]; omega)) ?_) | (refine OpG.keep ?_; first | refine OpG.s1 cok 3 rfl rfl rfl rfl rfl (by first | exact Nat.le_of_ble_eq_true rfl | omega | (dsimp only; omega) | (simp only [addS_eq, mulS_eq]; omega)) rfl rfl ?_) | refine W.drawI 45 cok [0, 1, 3, 7, 0, 16, 48, 0, 0, 256, 1023, 0, 4095] [0, 1, 2, 3, 4, 5, 7, 8, 9, 6, 10, 11, 12] [3, 7, 9] (by kernel_rfl) (by kernel_rfl) ?_)
      refine callNS (yZeroBE (box_b (l := txL (.slice da ds.length dc) gas) (p := 75) (m := 32) (List.mem_cons_of_mem _ (List.mem_cons_of_mem _ List.mem_cons_self)) rfl rfl (by decide) (by decide) (Nat.le_of_ble_eq_true rfl))) fun va vn vc' J18 hs18 hvN => ?_
      repeat (first | refine And.intro (fillOk_of (Eq.refl true)) ?_ | refine And.intro (Eq.refl true) ?_ | (refine still_in ?_; first | (refine still_keep (by decide) rfl ?_ ?_; first | exact QuV.l1 cok 3 rfl rfl rfl rfl rfl (by first | exact Nat.le_of_ble_eq_true rfl | omega | (dsimp only; omega) | (simp only [addS_eq, mulS_eq]; omega)) rfl | exact QuV.lN cok 0 rfl rfl rfl rfl rfl (by first | exact Nat.le_of_ble_eq_true rfl | omega | (dsimp only; omega) | (simp only [addS_eq, mulS_eq]; omega)) rfl | exact QuV.lN cok 2 rfl rfl rfl rfl rfl (by first | exact Nat.le_of_ble_eq_true rfl | omega | (dsimp only; omega) | (simp only [addS_eq, mulS_eq]; omega)) rfl)))
      intro bf
      repeat (first | (refine QuG.keep ?_; first | refine QuG.upL cok 1 rfl rfl rfl rfl rfl rfl (by assumption) (by first | exact Nat.le_of_ble_eq_true rfl | omega) ?_) | refine SeqS.go cok ?_ | refine CondS.t rfl ?_ | (refine QuG.keep ?_; first | refine QuG.l1 cok 3 rfl rfl rfl rfl rfl (by first | exact Nat.le_of_ble_eq_true rfl | omega | (dsimp only; omega) | (simp only [addS_eq, mulS_eq]; omega)) ?_) | (refine still_in ?_; first | refine still_drop (by decide) ?_) | (refine OpG.keep ?_; first | refine OpG.sL cok 0 rfl rfl rfl rfl rfl rfl rfl (by first | exact Nat.le_of_ble_eq_true rfl | omega | (dsimp only; omega) | (simp only [addS_eq, mulS_eq]; omega)) ?_))
      refine yNativeAt1.mono ?_
      rintro r9 _ - ⟨rfl, rfl⟩
      repeat (first | (refine OpG.keep ?_; first | refine OpG.upF cok 0 rfl rfl rfl rfl rfl rfl (by first | exact Nat.le_of_ble_eq_true rfl | omega) (by first | exact Nat.le_of_ble_eq_true rfl | omega) rfl (by first | rfl | assumption) ?_) | (refine QuG.keep ?_; first | refine QuG.upL cok 1 rfl rfl rfl rfl rfl rfl (by assumption) (by first | exact Nat.le_of_ble_eq_true rfl | omega) ?_) | refine SeqS.go cok ?_ | refine CondS.t rfl ?_ | (refine QuG.keep ?_; first | refine QuG.l1 cok 0 rfl rfl rfl rfl rfl (by first | exact Nat.le_of_ble_eq_true rfl | omega | (dsimp only; omega) | (simp only [addS_eq, mulS_eq]; omega)) ?_) | refine W.drawI 49 cok [0, 1, 3, 0, 15, 31, 63, 127, 255] [0, 1, 2, 3, 4, 5, 6, 7, 8] [3] (by kernel_rfl) (by kernel_rfl) ?_)
      have hacT := fun (G : List Ent) => yAccountF (I := J18) (G := G) (wb := sb) (sz := 179) (T := 118) (c := upd (upd (upd (upd (upd (upd (upd (upd (begA cs (.slice ga gn gc) (.slice ta tn tc) r) 0 w) 0 w2) 1 v1) 1 v2) 1 v3) 1 v4) 1 v5) 10 nlV) (a := adNo 1) (by decide) (hA12.acc.up (hs12'.trans hs18)) ⟨rfl, by decide⟩ (by show 2 < 2 ^ 30; decide)
      refine CallG.behind [_, _, _, _] (hacT _) ?_
      rintro r10 J19 _ hs19 ⟨e19, l', nv', bv', ca', cc', rfl, hF'⟩
      cases e19
      have w0' := hF'.len
      have w22 : l'.getD 22 undef = .slice ca' code.length cc' := hF'.c22
      have wcb : Byt ⟨J18, []⟩ (.slice ca' code.length cc') code := hF'.cb
      repeat (first | (refine QuG.keep ?_; first | refine QuG.fldE cok Hvaf.underlying121 rfl rfl rfl rfl (by first | omega | (simp; omega)) (by assumption) ?_) | (refine still_in ?_; first | refine still_drop (by decide) ?_))
      refine callBS (yBytesOf (Byt.ext wcb)) fun xa xc J20 hs20 hxN => ?_
      repeat (first | (refine OpG.keep ?_; first | refine OpG.upF cok 0 rfl rfl rfl rfl rfl rfl (by first | exact Nat.le_of_ble_eq_true rfl | omega) (by first | exact Nat.le_of_ble_eq_true rfl | omega) rfl (by first | rfl | assumption) ?_) | refine SeqS.go cok ?_ | (refine QuG.keep ?_; first | refine QuG.l1 cok 3 rfl rfl rfl rfl rfl (by first | exact Nat.le_of_ble_eq_true rfl | omega | (dsimp only; omega) | (simp only [addS_eq, mulS_eq]; omega)) ?_) | (refine still_in ?_; first | refine still_drop (by decide) ?_))
      refine callBS (yBytesOf (Byt.ext (hNd.up ((hsI17.trans hs18).trans hs20)))) fun ya yc J21 hs21 hyN => ?_
      have hs17' : HL.Sub J17 J21 := (hs18.trans hs20).trans hs21
      have hvN' : NatI J21 (.slice va vn vc') 0 := (hvN.up hs20).up hs21
      have hen := yEnterD (I := J21) (G := []) (sb := sb) (ssz := 179) (Ts := 118) (cs := upd (upd (upd (upd (upd (upd (upd (upd (upd (begA cs (.slice ga gn gc) (.slice ta tn tc) r) 0 w) 0 w2) 1 v1) 1 v2) 1 v3) 1 v4) 1 v5) 10 nlV) 11 (.int .u8 1)) (wa := waN) (ga := ta) (gn := tn) (gc := tc) (ca := xa) (cn := code.length) (cc := xc) (ia := ya) (im := ds.length) (ic := yc) (by decide) (hA12.up (hs12'.trans hs17')) rfl rfl (hv5.up hs17') (by decide) (hB.nl 2 (by decide) (by decide)) (hB.nl 3 (by decide) (by decide)) (hB.nl 4 (by decide) (by decide)) (hB.nl 5 (by decide) (by decide)) (hB.nl 6 (by decide) (by decide)) (hB.nl 7 (by decide) (by decide)) rfl hvN'
      repeat (first | (refine OpG.keep ?_; first | refine OpG.upF cok 0 rfl rfl rfl rfl rfl rfl (by first | exact Nat.le_of_ble_eq_true rfl | omega) (by first | exact Nat.le_of_ble_eq_true rfl | omega) rfl (by first | rfl | assumption) ?_) | refine SeqS.go cok ?_ | (refine QuG.keep ?_; first | refine QuG.lN cok 0 rfl rfl rfl rfl rfl (by first | exact Nat.le_of_ble_eq_true rfl | omega | (dsimp only; omega) | (simp only [addS_eq, mulS_eq]; omega)) ?_) | (refine OpG.keep ?_; first | refine OpG.s1 cok 4 rfl rfl rfl rfl rfl (by first | exact Nat.le_of_ble_eq_true rfl | omega | (dsimp only; omega) | (simp only [addS_eq, mulS_eq]; omega)) rfl rfl ?_))
      refine CallG.behind [_, _, _, _] hen ?_
      rintro r11 J22 _ hs22 ⟨J22', fb, fsz, cf, fc, av, wv, m1, m2, nv2, e22, h60, hrow, q1', q2', q3', q4', q5'⟩
      cases e22
      replace hs22 : HL.Sub J21 J22 := hs22
      have hs6' : HL.Sub J6 J22 := (((hs69.trans hs10).trans (hs11.trans hs12)).trans (hs12'.trans hs17')).trans hs22
      repeat (first | refine SeqS.go cok ?_)
      exact Fin.drop [⟨sb, 179, 118, upd (upd (upd (upd (upd (upd (upd (upd (upd (upd (upd (begA cs (.slice ga gn gc) (.slice ta tn tc) r) 0 w) 0 w2) 1 v1) 1 v2) 1 v3) 1 v4) 1 v5) 10 nlV) 11 (.int .u8 1)) 10 nlV) 9 (HL.sl fb 0 1 fc)⟩, ⟨fb, fsz, _, cf⟩] [_, _, _, _] ⟨rfl, J22, fb, fsz, cf, fc, .slice ga gn gc, .slice ta tn tc, r, w, w2, v1, v2, v3, v4, v5, .slice xa code.length xc, .slice ya ds.length yc, .slice va vn vc', av, wv, m1, m2, nv2, rfl, h60, hrow, q1', q2', q3', q4', q5', hgN.up ((hs4.trans hs5).trans (hs6.trans hs6')), htN.up (hs6.trans hs6'), hpN0.up hs6', hvN'.up hs22, (hxN.up hs21).up hs22, hyN.up hs22, hA12.up ((hs12'.trans hs17').trans hs22), hv5.up (hs17'.trans hs22)⟩
    · rintro i e' S2 - ⟨⟨z7', z8', rfl⟩, rfl, hsl⟩
      refine W.slots _ hsl fun e => ?_
      repeat (first | refine SeqS.go cok ?_ | refine CondS.f rfl ?_)
      exact ⟨⟨z7', z8', rfl⟩, rfl, rfl, rfl, trivial⟩
  · rintro i e' S2 - ⟨⟨z7, z8, rfl⟩, hi2, hsl⟩
    refine W.slots _ hsl fun e => ?_
    have hic : i = 0 ∨ i = 1 ∨ i = 2 := by omega
    rcases hic with rfl | rfl | rfl
    · repeat (first | (refine QuG.keep ?_; first | refine QuG.elE cok _ (by assumption) (by first | assumption | exact ‹∀ G, Rd ⟨_, G⟩ _› _) (by assumption) rfl rfl rfl rfl rfl (by omega) ?_) | refine SeqS.go cok ?_ | refine CondS.t rfl ?_ | refine And.intro (by omega) ?_ | (refine NatS.keep ?_; first | with_reducible refine NatS.nat ?_))
      intro b10
      repeat (first | (refine QuG.keep ?_; first | refine QuG.upC cok 0 rfl rfl rfl rfl rfl rfl (by first | exact Nat.le_of_ble_eq_true rfl | omega) (by first | exact Nat.le_of_ble_eq_true rfl | omega) (by assumption) ?_) | (refine OpG.keep ?_; first | refine OpG.upS cok 0 rfl rfl rfl rfl rfl (by assumption) (by first | assumption | exact one_bvs _) (by first | exact Nat.le_of_ble_eq_true rfl | omega) ?_) | refine SeqS.go cok ?_)
      refine W.rounds cok (by kernel_rfl) 1 ?_
      repeat (first | refine SeqS.go cok ?_ | refine CondS.f rfl ?_ | (refine ValS.keep ?_; first | (with_reducible refine ValS.kI64 ?_; first | (with_reducible refine ValS.addI64_L ?_ ?_ ; omega))))
      exact ⟨1, Rel.drop _ [_] ⟨⟨z7, z8, rfl⟩, by decide, rfl, rfl, rfl, rfl, rfl, rfl, rfl, trivial⟩, by decide⟩
    · repeat (first | (refine QuG.keep ?_; first | refine QuG.elE cok _ (by assumption) (by first | assumption | exact ‹∀ G, Rd ⟨_, G⟩ _› _) (by assumption) rfl rfl rfl rfl rfl (by omega) ?_) | refine SeqS.go cok ?_ | refine CondS.t rfl ?_ | refine And.intro (by omega) ?_ | (refine NatS.keep ?_; first | with_reducible refine NatS.nat ?_))
      intro b10
      repeat (first | (refine QuG.keep ?_; first | refine QuG.upC cok 0 rfl rfl rfl rfl rfl rfl (by first | exact Nat.le_of_ble_eq_true rfl | omega) (by first | exact Nat.le_of_ble_eq_true rfl | omega) (by assumption) ?_) | (refine OpG.keep ?_; first | refine OpG.upS cok 0 rfl rfl rfl rfl rfl (by assumption) (by first | assumption | exact one_bvs _) (by first | exact Nat.le_of_ble_eq_true rfl | omega) ?_) | refine SeqS.go cok ?_)
      refine W.rounds cok (by kernel_rfl) 1 ?_
      repeat (first | refine SeqS.go cok ?_ | refine CondS.f rfl ?_ | (refine ValS.keep ?_; first | (with_reducible refine ValS.kI64 ?_; first | (with_reducible refine ValS.addI64_L ?_ ?_ ; omega))))
      exact ⟨2, Rel.drop _ [_] ⟨⟨z7, z8, rfl⟩, by decide, rfl, rfl, rfl, rfl, rfl, rfl, rfl, trivial⟩, by decide⟩
    · repeat (first | refine SeqS.go cok ?_ | refine CondS.f rfl ?_)
      exact ⟨⟨z7, z8, rfl⟩, rfl, rfl, rfl, rfl, trivial⟩
end
end Go.Proofs.YgvafwGreat
