import Derived.Test.YgvafwGreatL1
set_option maxRecDepth 100000
set_option maxHeartbeats 4000000
set_option linter.unusedVariables false
set_option linter.unusedSimpArgs false
-- v2
-- v4
-- v5
-- v6
-- v7
namespace Go.Proofs.YgvafwGreat
open Go.HL Go.Proofs

/-- law.copyBytes -/
theorem lCopy {I : Ent → Prop} {G : List Ent} {v : Value} {ds : List Nat} (hb : Byt ⟨I, G⟩ v ds) :
    CallG Hvaf.prog 17 #[v] ⟨I, G⟩ fun r S' => S'.G = G ∧ Byt ⟨S'.I, []⟩ r ds := by
  rcases hb.cases with ⟨rfl, rfl⟩ | ⟨x, o, cap, rfl, h1, h2, hx, hbs⟩
  · refine CallG.start (C := mkC Hvaf.prog) cok (args := [.slice none 0 0]) Hvaf.func17 rfl Hvaf.ntmps17 (by simp) (by kernel_rfl) ?_
    repeat (first | refine SeqS.go cok ?_ | refine CondS.t rfl ?_)
    exact Fin.same ⟨rfl, Byt.nil _⟩
  · have hlen := hb.2.1
    refine CallG.start (C := mkC Hvaf.prog) cok (args := [.slice (some ⟨x.b, o, none⟩) ds.length cap]) Hvaf.func17 rfl Hvaf.ntmps17 (by simp) (by kernel_rfl) ?_
    repeat (first | refine SeqS.go cok ?_ | refine CondS.f rfl ?_ | refine And.intro (by dsimp only; omega) ?_ | (refine NatS.keep ?_; first | with_reducible refine NatS.nat ?_))
    intro b
    repeat (first | refine SeqS.go cok ?_)
    refine OpG.keep ?_
    refine OpG.copy cok 0 rfl (y := x) (hx.mono (.refl _) (fun y hy => List.mem_cons_of_mem _ hy)) rfl rfl rfl rfl rfl rfl rfl ?_ ?_ ?_ ?_
    · show 0 + mulS (Nat.min ds.length ds.length) 1 ≤ ds.length; rw [mulS_eq]; simp
    · show o + mulS (Nat.min ds.length ds.length) 1 ≤ x.sz; have := hbs.1; rw [mulS_eq]; simp; omega
    · intro p hp
      have hp : p < mulS (Nat.min ds.length ds.length) 1 := hp
      rw [mulS_eq] at hp; simp at hp
      rw [hbs.2 p (by omega)]; rfl
    repeat (first | refine SeqS.go cok ?_)
    refine Fin.frz [_] G ⟨rfl, ?_⟩
    refine Byt.mk0 (x := ⟨b, ds.length, _, _⟩) (.inr List.mem_cons_self) rfl hlen hb.1 (Nat.le_refl _) fun i hi => ?_
    show updN _ 0 (cellsFrom x.c o (mulS (Nat.min ds.length ds.length) 1)) i = _
    simp only [mulS_eq, Nat.mul_one]
    rw [updN_cellsFrom]
    simp only [Nat.zero_add, Nat.sub_zero, Nat.zero_le, true_and]
    rw [show Nat.min ds.length ds.length = ds.length by simp]
    have hi2 : i < ds.length := hi
    simp only [hi2, if_true]
    exact hbs.2 i hi
theorem _root_.Go.HL.QuG.strB {C : Cfg} {e : Env} {S : St} {ty : TypeId} {q : Value → Prop} (hC : C.Ok) {s d : TypeId} {a : Operand} {i j k : TI} {v : Value} {ds : List Nat} (hb : Byt S v ds) (hs : C.D s = some i) (hk : i.kind = 4) (hj : C.D i.elem = some j) (hjk : j.kind = 1) (hju : j.ik = .u8) (hd : C.D d = some k) (hdk : k.kind = 2) (ha : ev e a = v)
    (h : q (.string (strOf ds))) : QuG C.P (.convert s d a) ty e S q := by
  rcases hb.cases with ⟨rfl, rfl⟩ | ⟨x, o, cap, rfl, h1, h2, hx, hbs⟩
  · exact QuG.str0 hC hs hk hj hjk hju hd hdk ha h
  · exact QuG.str hC (x := x) ⟨fun p hp => by rw [bvs_len] at hp; rw [hbs.2 p hp]; simp [bvs, List.getD_eq_getElem?_getD, List.getElem?_eq_getElem hp]⟩ hx hs hk hj hjk hju hd hdk ha rfl rfl hbs.1 h
/-- law.equalBytes -/
theorem lEq {S : St} {v u : Value} {a b : List Nat} (ha : Byt S v a) (hb : Byt S u b) :
    CallG Hvaf.prog 50 #[v, u] S fun r S' => S = S' ∧ r = .bool (decide (a = b)) := by
  obtain ⟨a1, cap, rfl, -⟩ := ha.form
  obtain ⟨a2, cap2, rfl, -⟩ := hb.form
  have h8 := ha.1
  have h8' := hb.1
  refine CallG.start (C := mkC Hvaf.prog) cok (args := [.slice a1 a.length cap, .slice a2 b.length cap2]) Hvaf.func50 rfl Hvaf.ntmps50 (by simp) (by kernel_rfl) ?_
  repeat (first | (refine QuG.keep ?_; first | refine QuG.strB cok (by assumption) rfl rfl rfl rfl rfl rfl rfl rfl ?_ | refine QuG.strEq rfl rfl (by assumption) (by assumption) ?_) | refine SeqS.go cok ?_)
  exact Fin.same ⟨rfl, rfl⟩
end Go.Proofs.YgvafwGreat
