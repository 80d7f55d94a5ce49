import Derived.Test.YgvafwGreatY30
set_option maxRecDepth 100000
set_option maxHeartbeats 4000000
set_option linter.unusedVariables false
set_option linter.unusedSimpArgs false
-- v2
-- v4
-- v5
-- v6
-- v7
namespace Go.Proofs.YgvafwGreat
open Go.HL Go.Proofs

theorem flat_one {vss : List (List Value)} (h : ∀ l ∈ vss, ∀ u ∈ l, one u = true) : ∀ u ∈ vss.flatten, one u = true := by
  intro u hu
  obtain ⟨l, hl, hul⟩ := List.mem_flatten.1 hu
  exact h l hl u hul
/-- yp.addrsOf -/
theorem yAddrsOf {I : Ent → Prop} {G : List Ent} {v : Value} {vss : List (List Value)} (hN : RowI I 20 v vss) (h1 : ∀ l ∈ vss, ∀ u ∈ l, one u = true) (hlen : vss.length < 2 ^ 20) :
    CallG Hvaf.prog 228 #[v] ⟨I, G⟩ fun r S' => S'.G = G ∧ RowI S'.I 20 r vss := by
  rcases hN.2 with ⟨rfl, rfl⟩ | ⟨x, o, cap, rfl, hc, hx, hE⟩
  · refine CallG.start (C := mkC Hvaf.prog) cok (args := [.slice none 0 0]) Hvaf.func228 rfl Hvaf.ntmps228 (by simp) (by kernel_rfl) ?_
    repeat (first | refine SeqS.go cok ?_ | refine CondS.t rfl ?_)
    exact Fin.same ⟨rfl, RowI.nil _ _⟩
  · have hfl := flat_len hN.1
    have hcell : cellsFrom x.c o (vss.length * 20) = vss.flatten := hE.row.cells hfl
    have hfit := hE.fit
    refine CallG.start (C := mkC Hvaf.prog) cok (args := [sl x.b o vss.length cap]) Hvaf.func228 rfl Hvaf.ntmps228 (by simp) (by kernel_rfl) ?_
    repeat (first | refine SeqS.go cok ?_ | refine CondS.f rfl ?_ | refine And.intro (by dsimp only; omega) ?_ | (refine NatS.keep ?_; first | with_reducible refine NatS.nat ?_))
    intro b
    repeat (first | refine SeqS.go cok ?_)
    refine OpG.keep ?_
    refine OpG.copy cok 0 rfl (y := x) (.inl hx) rfl rfl rfl rfl rfl rfl rfl ?_ ?_ ?_ ?_
    · show 0 + mulS (Nat.min vss.length vss.length) 20 ≤ mulS vss.length 20
      rw [show Nat.min vss.length vss.length = vss.length by simp]; omega
    · show o + mulS (Nat.min vss.length vss.length) 20 ≤ x.sz
      rw [show Nat.min vss.length vss.length = vss.length by simp, mulS_eq]; exact hfit
    · intro p hp
      have hp : p < mulS (Nat.min vss.length vss.length) 20 := hp
      rw [show Nat.min vss.length vss.length = vss.length by simp, mulS_eq] at hp
      rw [hE.row.get p (by rw [hfl]; exact hp), List.getD_eq_getElem?_getD, List.getElem?_eq_getElem (by rw [hfl]; exact hp)]
      exact flat_one h1 _ (List.getElem_mem _)
    repeat (first | refine SeqS.go cok ?_)
    refine Fin.frz [_] G ⟨rfl, hN.1, .inr ⟨_, 0, vss.length, rfl, Nat.le_refl _, .inr List.mem_cons_self, hN.1, ?_, ?_⟩⟩
    · show Row (updN _ 0 (cellsFrom x.c o (mulS (Nat.min vss.length vss.length) 20))) 0 vss.flatten
      rw [show Nat.min vss.length vss.length = vss.length by simp, mulS_eq, hcell]
      exact Row.updN2 _ 0 _
    · show 0 + vss.length * 20 ≤ mulS vss.length 20
      rw [mulS_eq]; omega
end Go.Proofs.YgvafwGreat
