import Derived.Test.YgvafwGreatL6
import Derived.Test.YgvafwGreatY9
set_option maxRecDepth 100000
set_option maxHeartbeats 4000000
set_option linter.unusedVariables false
set_option linter.unusedSimpArgs false
-- v2
-- v4
-- v5
-- v6
-- v7
namespace Go.Proofs.YgvafwGreat
open Go.HL Go.Proofs

theorem Row.ofCells {c : Nat → Value} {n : Nat} {el : List Value} (h : cellsFrom c 0 n = el) : Row c 0 el := by
  subst h
  refine ⟨fun i hi => ?_⟩
  have hi2 : i < n := by simpa using hi
  rw [List.getD_eq_getElem?_getD, cellsFrom_get _ _ _ _ hi2]; rfl
abbrev w15 : List Nat := [0, 0, 0, 0, 0, 0, 0, 0, 0, 0, 0, 0, 0, 0, 0, 1, 0, 0, 0, 0, 0, 0, 0, 0, 0, 0, 0, 0, 0, 0, 0, 0]
def el1 (cv : Value) : List Value := bvs (ad1 1) ++ (.int .u64 (1 : Nat) :: (bvs z32 ++ [cv, .slice none 0 0]))
def el2 : List Value := bvs (ad1 240) ++ (.int .u64 (0 : Nat) :: (bvs w15 ++ [.slice none 0 0, .slice none 0 0]))
theorem el1_one (cv : Value) (h : one cv = true) : ∀ u ∈ el1 cv, one u = true := by
  intro u hu
  simp only [el1, List.mem_append, List.mem_cons, List.not_mem_nil, or_false] at hu
  rcases hu with hu | rfl | hu | rfl | rfl
  · exact one_bvs _ u hu
  · rfl
  · exact one_bvs _ u hu
  · exact h
  · rfl
theorem el2_one : ∀ u ∈ el2, one u = true := by
  intro u hu
  simp only [el2, List.mem_append, List.mem_cons, List.not_mem_nil, or_false] at hu
  rcases hu with hu | rfl | hu | rfl | rfl
  · exact one_bvs _ u hu
  · rfl
  · exact one_bvs _ u hu
  · rfl
  · rfl
/-- law.Stage at one code -/
theorem lStage0 {I : Ent → Prop} {G : List Ent} {v cv : Value} {ds : List Nat} {vss : List (List Value)} (hR : RowI I 1 v vss) (hv1 : vss.length = 1) (hv0 : vss.getD 0 [] = [cv]) (hb : Byt ⟨I, []⟩ cv ds) (hds : ds.length ≤ 256) :
    CallG Hvaf.prog 5 #[v] ⟨I, G ++ []⟩ fun r S' => S'.G = G ∧ ∃ cv', RowI S'.I 55 r [el1 cv', el2] ∧ Byt ⟨S'.I, []⟩ cv' ds := by
  obtain ⟨a1, cap, rfl⟩ := hR.form
  obtain ⟨x, o, rfl, hx, hE⟩ := hR.some (by omega)
  obtain ⟨ca, cn, rfl, -⟩ := hb.form
  have hrd : ∀ G, Rd ⟨I, G⟩ x := fun _ => .inl hx
  refine CallG.start (C := mkC Hvaf.prog) cok (args := [HL.sl x.b o vss.length cap]) Hvaf.func5 rfl Hvaf.ntmps5 (by simp) (by kernel_rfl) ?_
  repeat (first | refine SeqS.go cok ?_)
  refine W.rounds cok (by kernel_rfl) 2 ?_
  repeat (first | (refine QuG.keep ?_; first | refine QuG.el1E cok (by assumption) (by first | assumption | exact ‹∀ G, Rd ⟨_, G⟩ _› _) (by assumption) rfl rfl rfl rfl (by omega) ?_) | refine SeqS.go cok ?_ | refine CondS.f rfl ?_ | refine And.intro (by omega) ?_ | (refine NatS.keep ?_; first | with_reducible refine NatS.lit ?_) | (refine ValS.keep ?_; first | (with_reducible refine ValS.kI64 ?_; first | (with_reducible refine ValS.addI64_LL ?_ ?_ ; omega)) | (with_reducible refine ValS.kU8 ?_; first | (with_reducible refine ValS.convU8 ?_ ?_ ; omega))) | (refine CondS.keep ?_; first | refine CondS.d1 rfl (by omega) ?_))
  refine (lAddrNo (n := 1) (by decide)).mono ?_
  rintro r _ - ⟨rfl, rfl⟩
  repeat (first | refine And.intro (fillOk_of (Eq.refl true)) ?_ | refine And.intro (Eq.refl true) ?_)
  intro b6
  repeat (first | refine SeqS.go cok ?_ | (refine OpG.keep ?_; first | refine OpG.sL cok 0 rfl rfl rfl rfl rfl rfl rfl (by first | exact Nat.le_of_ble_eq_true rfl | omega | (dsimp only; omega) | (simp only [addS_eq, mulS_eq]; omega)) ?_) | (refine CondS.keep ?_; first | refine CondS.d1 rfl (by omega) ?_))
  refine (lCopy (Byt.ext hb)).mono ?_
  rintro r ⟨J, _⟩ hs ⟨rfl, hr⟩
  replace hs : HL.Sub I J := hs
  replace hr : Byt ⟨J, []⟩ _ ds := hr
  obtain ⟨a2, cap2, rfl, -⟩ := hr.form
  repeat (first | (refine OpG.keep ?_; first | refine OpG.upF cok 0 rfl rfl rfl rfl rfl rfl (by first | exact Nat.le_of_ble_eq_true rfl | omega) (by first | exact Nat.le_of_ble_eq_true rfl | omega) rfl (by first | rfl | assumption) ?_) | refine SeqS.go cok ?_ | refine And.intro (fillOk_of (Eq.refl true)) ?_ | refine And.intro (by dsimp only; omega) ?_ | (refine QuG.keep ?_; first | refine QuG.lN cok 0 rfl rfl rfl rfl rfl (by first | exact Nat.le_of_ble_eq_true rfl | omega | (dsimp only; omega) | (simp only [addS_eq, mulS_eq]; omega)) ?_))
  intro tb
  skip
  refine OpG.keep ?_
  refine OpG.app1 cok (L := _ :: G) (M := []) (vss := []) (el := el1 (.slice a2 ds.length cap2)) rfl rfl rfl rfl rfl rfl rfl rfl rfl (OwnL.nil _ _) ?_ rfl ?_ (by decide) ?_
  · exact Row.ofCells (n := 55) rfl
  · exact el1_one _ rfl
  intro w' M' hO'
  repeat (first | refine SeqS.go cok ?_ | (refine ValS.keep ?_; first | (with_reducible refine ValS.kI64 ?_; first | (with_reducible refine ValS.addI64_LL ?_ ?_ ; omega))) | (refine CondS.keep ?_; first | refine CondS.d0 rfl (by omega) ?_))
  refine lSender.mono ?_
  rintro r _ - ⟨rfl, rfl⟩
  repeat (first | refine And.intro (fillOk_of (Eq.refl true)) ?_ | refine And.intro (Eq.refl true) ?_ | refine And.intro (by dsimp only; omega) ?_)
  intro tb2
  skip
  refine OpG.keep ?_
  refine OpG.app1 cok (L := _ :: G) (M := M') (vss := [el1 (.slice a2 ds.length cap2)]) (el := el2) rfl rfl rfl rfl rfl rfl rfl rfl rfl hO' ?_ rfl ?_ (by show 1 < 2 ^ 20; decide) ?_
  · exact Row.ofCells (n := 55) rfl
  · exact el2_one
  intro w2 M2 hO2
  repeat (first | refine SeqS.go cok ?_)
  exact Fin.own [_] G M2 ⟨rfl, _, hO2.row fun x hx => .inr hx, hr.mono (fun x hx => .inl hx) (by simp)⟩
/-- law.Stage at one code that is too long -/
theorem lStage1 {I : Ent → Prop} {G : List Ent} {v cv : Value} {ds : List Nat} {vss : List (List Value)} (hR : RowI I 1 v vss) (hv1 : vss.length = 1) (hv0 : vss.getD 0 [] = [cv]) (hb : Byt ⟨I, []⟩ cv ds) (hds : ¬ ds.length ≤ 256) :
    CallG Hvaf.prog 5 #[v] ⟨I, G ++ []⟩ fun r S' => S'.G = G ∧ RowI S'.I 55 r [el1 (.slice none 0 0), el2] := by
  obtain ⟨a1, cap, rfl⟩ := hR.form
  obtain ⟨x, o, rfl, hx, hE⟩ := hR.some (by omega)
  have hl47 := hb.2.1
  obtain ⟨ca, cn, rfl, -⟩ := hb.form
  have hrd : ∀ G, Rd ⟨I, G⟩ x := fun _ => .inl hx
  refine CallG.start (C := mkC Hvaf.prog) cok (args := [HL.sl x.b o vss.length cap]) Hvaf.func5 rfl Hvaf.ntmps5 (by simp) (by kernel_rfl) ?_
  repeat (first | refine SeqS.go cok ?_)
  refine W.rounds cok (by kernel_rfl) 2 ?_
  repeat (first | (refine QuG.keep ?_; first | refine QuG.el1E cok (by assumption) (by first | assumption | exact ‹∀ G, Rd ⟨_, G⟩ _› _) (by assumption) rfl rfl rfl rfl (by omega) ?_) | refine SeqS.go cok ?_ | refine CondS.f rfl ?_ | refine And.intro (by omega) ?_ | (refine NatS.keep ?_; first | with_reducible refine NatS.lit ?_) | (refine ValS.keep ?_; first | (with_reducible refine ValS.kI64 ?_; first | (with_reducible refine ValS.addI64_LL ?_ ?_ ; omega)) | (with_reducible refine ValS.kU8 ?_; first | (with_reducible refine ValS.convU8 ?_ ?_ ; omega))) | (refine CondS.keep ?_; first | refine CondS.d1 rfl (by omega) ?_))
  refine (lAddrNo (n := 1) (by decide)).mono ?_
  rintro r _ - ⟨rfl, rfl⟩
  repeat (first | refine And.intro (fillOk_of (Eq.refl true)) ?_ | refine And.intro (Eq.refl true) ?_)
  intro b6
  repeat (first | refine SeqS.go cok ?_ | refine And.intro (fillOk_of (Eq.refl true)) ?_ | refine And.intro (by dsimp only; omega) ?_ | (refine QuG.keep ?_; first | refine QuG.lN cok 0 rfl rfl rfl rfl rfl (by first | exact Nat.le_of_ble_eq_true rfl | omega | (dsimp only; omega) | (simp only [addS_eq, mulS_eq]; omega)) ?_) | (refine OpG.keep ?_; first | refine OpG.sL cok 0 rfl rfl rfl rfl rfl rfl rfl (by first | exact Nat.le_of_ble_eq_true rfl | omega | (dsimp only; omega) | (simp only [addS_eq, mulS_eq]; omega)) ?_) | (refine CondS.keep ?_; first | refine CondS.d0 rfl (by omega) ?_))
  intro tb
  skip
  refine OpG.keep ?_
  refine OpG.app1 cok (L := _ :: G) (M := []) (vss := []) (el := el1 (.slice none 0 0)) rfl rfl rfl rfl rfl rfl rfl rfl rfl (OwnL.nil _ _) ?_ rfl ?_ (by decide) ?_
  · exact Row.ofCells (n := 55) rfl
  · exact el1_one _ rfl
  intro w' M' hO'
  repeat (first | refine SeqS.go cok ?_ | (refine ValS.keep ?_; first | (with_reducible refine ValS.kI64 ?_; first | (with_reducible refine ValS.addI64_LL ?_ ?_ ; omega))) | (refine CondS.keep ?_; first | refine CondS.d0 rfl (by omega) ?_))
  refine lSender.mono ?_
  rintro r _ - ⟨rfl, rfl⟩
  repeat (first | refine And.intro (fillOk_of (Eq.refl true)) ?_ | refine And.intro (Eq.refl true) ?_ | refine And.intro (by dsimp only; omega) ?_)
  intro tb2
  skip
  refine OpG.keep ?_
  refine OpG.app1 cok (L := _ :: G) (M := M') (vss := [el1 (.slice none 0 0)]) (el := el2) rfl rfl rfl rfl rfl rfl rfl rfl rfl hO' ?_ rfl ?_ (by show 1 < 2 ^ 20; decide) ?_
  · exact Row.ofCells (n := 55) rfl
  · exact el2_one
  intro w2 M2 hO2
  repeat (first | refine SeqS.go cok ?_)
  exact Fin.own [_] G M2 ⟨rfl, hO2.row fun x hx => .inr hx⟩
/-- The code that Stage lays. -/
def stgN (ds : List Nat) : List Nat := if ds.length ≤ 256 then ds else []
/-- law.Stage -/
theorem lStage {I : Ent → Prop} {G : List Ent} {v cv : Value} {ds : List Nat} {vss : List (List Value)} (hR : RowI I 1 v vss) (hv1 : vss.length = 1) (hv0 : vss.getD 0 [] = [cv]) (hb : Byt ⟨I, []⟩ cv ds) :
    CallG Hvaf.prog 5 #[v] ⟨I, G⟩ fun r S' => S'.G = G ∧ ∃ cv', RowI S'.I 55 r [el1 cv', el2] ∧ Byt ⟨S'.I, []⟩ cv' (stgN ds) := by
  rw [← List.append_nil G]
  by_cases hds : ds.length ≤ 256
  · have e : stgN ds = ds := if_pos hds
    rw [e]
    refine (lStage0 hR hv1 hv0 hb hds).mono ?_
    rintro r S' - ⟨e, h⟩
    exact ⟨by rw [List.append_nil]; exact e, h⟩
  · have e : stgN ds = [] := if_neg hds
    rw [e]
    refine (lStage1 hR hv1 hv0 hb hds).mono ?_
    rintro r S' - ⟨e, h⟩
    exact ⟨by rw [List.append_nil]; exact e, _, h, Byt.nil _⟩
end Go.Proofs.YgvafwGreat
