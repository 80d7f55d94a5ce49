import Derived.Test.YgvafwGreatL4
import Derived.Test.YgvafwGreatOp2
import Derived.Test.YgvafwGreatY50
set_option maxRecDepth 100000
set_option maxHeartbeats 4000000
set_option linter.unusedVariables false
set_option linter.unusedSimpArgs false
-- v2
-- v4
-- v5
-- v6
-- v7
-- plus: (refine QuG.keep ?_; refine QuG.ow cok 0 rfl how2 rfl rfl rfl rfl rfl rfl (by omega) (by show _ ≤ ds.length; omega) ?_)
-- plus: (refine OpG.keep ?_; refine OpG.ow cok 0 rfl how2 rfl rfl rfl rfl rfl rfl rfl (by omega) (by show _ ≤ ds.length; omega) ?_)
namespace Go.Proofs.YgvafwGreat
open Go.HL Go.Proofs

/-- law.copyBytes, the copy one's own -/
theorem lCopyO {I : Ent → Prop} {G : List Ent} {v : Value} {ds : List Nat} (hb : Byt ⟨I, G⟩ v ds) :
    CallG Hvaf.prog 17 #[v] ⟨I, G⟩ fun r S' => (ds = [] ∧ r = .slice none 0 0 ∧ S' = ⟨I, G⟩) ∨ ∃ b c, r = sl b 0 ds.length ds.length ∧ S' = ⟨I, ⟨b, ds.length, 5, c⟩ :: G⟩ ∧ Ow c ds := by
  rcases hb.cases with ⟨rfl, rfl⟩ | ⟨x, o, cap, rfl, h1, h2, hx, hbs⟩
  · refine CallG.start (C := mkC Hvaf.prog) cok (args := [.slice none 0 0]) Hvaf.func17 rfl Hvaf.ntmps17 (by simp) (by kernel_rfl) ?_
    repeat (first | refine SeqS.go cok ?_ | refine CondS.t rfl ?_)
    exact Fin.same (.inl ⟨rfl, rfl, rfl⟩)
  · have hlen := hb.2.1
    refine CallG.start (C := mkC Hvaf.prog) cok (args := [.slice (some ⟨x.b, o, none⟩) ds.length cap]) Hvaf.func17 rfl Hvaf.ntmps17 (by simp) (by kernel_rfl) ?_
    repeat (first | refine SeqS.go cok ?_ | refine CondS.f rfl ?_ | refine And.intro (by dsimp only; omega) ?_ | (refine NatS.keep ?_; first | with_reducible refine NatS.nat ?_))
    intro b
    repeat (first | refine SeqS.go cok ?_)
    refine OpG.keep ?_
    refine OpG.copy cok 0 rfl (y := x) (hx.mono (.refl _) (fun y hy => List.mem_cons_of_mem _ hy)) rfl rfl rfl rfl rfl rfl rfl ?_ ?_ ?_ ?_
    · show 0 + mulS (Nat.min ds.length ds.length) 1 ≤ ds.length; rw [mulS_eq]; simp
    · show o + mulS (Nat.min ds.length ds.length) 1 ≤ x.sz; have := hbs.1; rw [mulS_eq]; simp; omega
    · intro p hp
      have hp : p < mulS (Nat.min ds.length ds.length) 1 := hp
      rw [mulS_eq] at hp; simp at hp
      rw [hbs.2 p (by omega)]; rfl
    repeat (first | refine SeqS.go cok ?_)
    refine Fin.same (.inr ⟨b, _, rfl, rfl, ⟨fun i hi => ?_⟩⟩)
    show updN _ 0 (cellsFrom x.c o (mulS (Nat.min ds.length ds.length) 1)) i = _
    simp only [mulS_eq, Nat.mul_one]
    rw [updN_cellsFrom]
    simp only [Nat.zero_add, Nat.sub_zero, Nat.zero_le, true_and]
    rw [show Nat.min ds.length ds.length = ds.length by simp]
    have hi2 : i < ds.length := hi
    simp only [hi2, if_true]
    exact hbs.2 i hi
/-- A byte that neither calls nor creates. -/
def unmN (o : Nat) : Nat := if o = 240 ∨ o = 245 ∨ famN o = 16 then 254 else o
def unmP (ds : List Nat) (k : Nat) : List Nat := (ds.map unmN).take k ++ ds.drop k
theorem unmP_len (ds : List Nat) (k : Nat) (h : k ≤ ds.length) : (unmP ds k).length = ds.length := by simp [unmP]; omega
theorem unmP_get {ds : List Nat} {k : Nat} (h : k < ds.length) : (unmP ds k).getD k 0 = ds.getD k 0 := by
  unfold unmP
  rw [List.getD_eq_getElem?_getD, List.getElem?_append_right (by simp; omega)]
  simp [Nat.min_eq_left (Nat.le_of_lt h), List.getD_eq_getElem?_getD]
theorem unmP_set {ds : List Nat} {k : Nat} (h : k < ds.length) : (unmP ds k).set k (unmN (ds.getD k 0)) = unmP ds (k + 1) := by
  apply List.ext_getElem?
  intro i
  rw [List.getElem?_set]
  unfold unmP
  rcases Nat.lt_trichotomy i k with hi | rfl | hi
  · rw [if_neg (by omega), List.getElem?_append_left (by simp; omega), List.getElem?_append_left (by simp; omega), List.getElem?_take, List.getElem?_take, if_pos (by omega), if_pos (by omega)]
  · rw [if_pos rfl, if_pos (by simp; omega), List.getElem?_append_left (by simp; omega), List.getElem?_take, if_pos (by omega)]
    simp [List.getElem?_eq_getElem h, List.getD_eq_getElem?_getD]
  · rw [if_neg (by omega), List.getElem?_append_right (by simp; omega), List.getElem?_append_right (by simp; omega)]
    simp only [List.length_take, List.length_map, List.getElem?_drop]
    congr 1; omega
theorem unmP_same {ds : List Nat} {k : Nat} (h : k < ds.length) (hu : unmN (ds.getD k 0) = ds.getD k 0) : unmP ds (k + 1) = unmP ds k := by
  rw [← unmP_set h, hu]
  conv => lhs; rw [← unmP_get h]
  have hl := unmP_len ds k (Nat.le_of_lt h)
  apply List.ext_getElem?
  intro i
  rw [List.getElem?_set]
  split
  · rename_i hi; subst hi
    rw [if_pos (by omega), List.getD_eq_getElem?_getD, List.getElem?_eq_getElem (by omega)]; rfl
  · rfl
theorem unmP_all (ds : List Nat) : unmP ds ds.length = ds.map unmN := by
  unfold unmP
  rw [List.drop_length, List.append_nil, List.take_of_length_le (by simp)]
theorem unmN_lt {o : Nat} (h : o < 256) : unmN o < 256 := by unfold unmN; split <;> omega
end Go.Proofs.YgvafwGreat
