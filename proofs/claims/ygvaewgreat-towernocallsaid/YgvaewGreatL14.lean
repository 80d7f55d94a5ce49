import Derived.Test.YgvaewGreatL10
import Derived.Test.YgvaewGreatL13
set_option exponentiation.threshold 1000
set_option maxRecDepth 100000
set_option maxHeartbeats 4000000
set_option linter.unusedVariables false
set_option linter.unusedSimpArgs false
-- v2
-- v4
-- v5
-- v6
-- v7
namespace Go.Proofs.YgvaewGreat
open Go.HL Go.Proofs

theorem row1 {I : Ent → Prop} {b : Nat} {T : TypeId} {c : Nat → Value} {v : Value} (hb : I ⟨b, 1, T, c⟩) (hc : c 0 = v) : RowI I 1 (HL.sl b 0 1 1) [[v]] := by
  refine ⟨by simp, .inr ⟨⟨b, 1, T, c⟩, 0, 1, rfl, Nat.le_refl _, hb, by simp, ⟨fun i hi => ?_⟩, Nat.le_refl _⟩⟩
  have h0 : i = 0 := by simpa using hi
  subst h0
  exact hc
theorem frzRow1 {P : Program} {f : FuncId} {args : Array Value} {I : Ent → Prop} {b : Nat} {T : TypeId} {c : Nat → Value} {K : Post} (v : Value) (hc : c 0 = v) (h : ∀ J, HL.Sub I J → RowI J 1 (HL.sl b 0 1 1) [[v]] → CallG P f args ⟨J, []⟩ K) : CallG P f args ⟨I, [⟨b, 1, T, c⟩]⟩ K :=
  CallG.frz [⟨b, 1, T, c⟩] [] (h _ (fun _ h => .inl h) (row1 (.inr List.mem_cons_self) hc))
theorem frzTx {P : Program} {f : FuncId} {args : Array Value} {I : Ent → Prop} {b : Nat} {T : TypeId} {c : Nat → Value} {K : Post} (L : List Value) (hc : cellsFrom c 0 174 = L) (h : ∀ J ct, HL.Sub I J → J ⟨b, 174, T, ct⟩ → Row ct 0 L → CallG P f args ⟨J, []⟩ K) : CallG P f args ⟨I, [⟨b, 174, T, c⟩]⟩ K :=
  CallG.frz [⟨b, 174, T, c⟩] [] (h _ c (fun _ h => .inl h) (.inr List.mem_cons_self) (Row.ofCells hc))
theorem lStageF {I : Ent → Prop} {G : List Ent} {v cv : Value} {ds : List Nat} (hR : RowI I 1 v [[cv]]) (hb : Byt ⟨I, []⟩ cv ds) :
    CallG Hvae.prog 5 #[v] ⟨I, G⟩ fun r S' => S'.G = G ∧ ∃ wa wc ca cc, r = .slice wa 2 wc ∧ RowI S'.I 55 (.slice wa 2 wc) [el1 (.slice ca (stgN ds).length cc), el2] ∧ Byt ⟨S'.I, []⟩ (.slice ca (stgN ds).length cc) (stgN ds) := by
  refine (lStage hR rfl rfl hb).mono ?_
  rintro r S' - ⟨h1, cv', h2, h3⟩
  obtain ⟨wa, wc, rfl⟩ := h2.form
  obtain ⟨ca, cc, rfl, _⟩ := h3.form
  exact ⟨h1, wa, wc, ca, cc, rfl, h2, h3⟩
/-- law.TowerNoCall -/
theorem lTowerNoCall {I : Ent → Prop} {cv dv : Value} {cd ds : List Nat} {gas : Nat} (hc : BytE ⟨I, []⟩ cv cd) (hd : BytE ⟨I, []⟩ dv ds) (hg : gas < 2 ^ 64) :
    CallG Hvae.prog 3 #[cv, dv, .int .u64 (gas : Nat)] ⟨I, []⟩ fun r S' => r = .bool true := by
  have hcp := fun (J : Ent → Prop) (hs : HL.Sub I J) (G : List Ent) => lCopyOE (I := J) (G := G) (hc.up hs)
  have hcall := fun (J : Ent → Prop) (hs : HL.Sub I J) (G : List Ent) => lCallOfE (I := J) (G := G) hg (hd.up hs)
  obtain ⟨hc8, hc47, ca, cc, rfl⟩ := hc.b
  obtain ⟨hd8, hd47, da, dc, rfl⟩ := hd.b
  refine CallG.start (C := mkC Hvae.prog) cok (args := [.slice ca cd.length cc, .slice da ds.length dc, .int .u64 (gas : Nat)]) Hvae.func3 rfl Hvae.ntmps3 (by simp) (by kernel_rfl) ?_
  repeat (first | refine SeqS.go cok ?_ | refine And.intro (fillOk_of (Eq.refl true)) ?_ | refine And.intro (by dsimp only; omega) ?_)
  intro b8
  skip
  refine frzRow1 (.slice ca cd.length cc) rfl fun J0 hs0 hR0 => ?_
  refine (lUnmadeE hR0 rfl rfl ⟨_, _, rfl⟩ hc8 hc47 (hcp J0 hs0)).mono ?_
  rintro r ⟨J1, _⟩ hs1 ⟨rfl, cv1, hR1, hb1⟩
  replace hs1 : HL.Sub I J1 := hs0.trans hs1
  replace hb1 : Byt ⟨J1, []⟩ cv1 (cd.map unmN) := hb1
  replace hR1 : RowI J1 1 r [[cv1]] := hR1
  skip
  refine (lStageF hR1 hb1).mono ?_
  rintro r2 ⟨J2, _⟩ hs2 ⟨rfl, wa, wc, sa, sc, rfl, hR2, hb2⟩
  replace hs2 : HL.Sub J1 J2 := hs2
  replace hR2 : RowI J2 55 (.slice wa 2 wc) [el1 (.slice sa (stgN (cd.map unmN)).length sc), el2] := hR2
  replace hb2 : Byt ⟨J2, []⟩ (.slice sa (stgN (cd.map unmN)).length sc) (stgN (cd.map unmN)) := hb2
  skip
  refine lStageEnv.mono ?_
  rintro r3 _ - ⟨rfl, rfl⟩
  skip
  refine (hcall J2 (hs1.trans hs2) _).mono ?_
  rintro r4 ⟨J3, _⟩ hs3 ⟨rfl, da2, dc2, rfl, hb3⟩
  replace hs3 : HL.Sub J2 J3 := hs3
  replace hb3 : Byt ⟨J3, []⟩ (.slice da2 ds.length dc2) ds := hb3
  repeat (first | refine And.intro (fillOk_of (Eq.refl true)) ?_ | refine And.intro (by dsimp only; omega) ?_)
  intro b15
  skip
  refine frzTx (txL (.slice da2 ds.length dc2) gas) rfl fun J4 ct hs4 htb hct => ?_
  refine (lTowerP htb hct (hR2.up (hs3.trans hs4)) (hb2.mono (hs3.trans hs4) (by simp)) (stg_len _) fam_unm (hb3.mono hs4 (by simp)) hg).mono ?_
  rintro r5 S5 - rfl
  repeat (first | refine SeqS.go cok ?_)
  exact Fin.same rfl
end Go.Proofs.YgvaewGreat
