import Derived.Test.YgvafwGreatL2
set_option maxRecDepth 100000
set_option maxHeartbeats 4000000
set_option linter.unusedVariables false
set_option linter.unusedSimpArgs false
-- v2
-- v4
-- v5
-- v6
-- v7
namespace Go.Proofs.YgvafwGreat
open Go.HL Go.Proofs

theorem row_b {I : Ent → Prop} {x : Ent} {o k i : Nat} {ws : List (List Nat)} {G : List Ent} (hE : Els x o k (ws.map bvs)) (hx : I x) (hk : k < 2 ^ 40) (h8 : ∀ y ∈ ws, ∀ d ∈ y, d < 256) (hi : i < ws.length) : Byt ⟨I, G⟩ (sl x.b (addS o (mulS i k)) k k) (ws.getD i []) := by
  have hi2 : i < (ws.map bvs).length := by simpa using hi
  have he : (ws.map bvs).getD i [] = bvs (ws.getD i []) := by simp [List.getD_eq_getElem?_getD, List.getElem?_eq_getElem hi]
  obtain ⟨h1, h2, h3⟩ := hE.at hi2
  rw [he] at h1 h2
  rw [bvs_len] at h2
  have hm : ws.getD i [] ∈ ws := by rw [List.getD_eq_getElem?_getD, List.getElem?_eq_getElem hi]; exact List.getElem_mem hi
  refine ⟨h8 _ hm, by rw [h2]; omega, _, k, by rw [h2]; rfl, by rw [h2]; exact Nat.le_refl _, by omega, .inr ⟨x, _, rfl, .inl hx, ?_, fun p hp => ?_⟩⟩
  · rw [addS_eq, mulS_eq, h2]; exact h3
  · rw [addS_eq, mulS_eq, h1.get p (by rw [bvs_len]; exact hp), bvs_getD _ _ hp]
/-- law.wordsMeet -/
theorem lWordsMeet {I : Ent → Prop} {G : List Ent} {v u : Value} {ws : List (List Nat)} (h : RowI I 32 v (ws.map bvs)) (h' : RowI I 32 u (ws.map bvs)) (h8 : ∀ x ∈ ws, ∀ d ∈ x, d < 256) (hn : ws.length < 2 ^ 30) :
    CallG Hvaf.prog 51 #[v, u] ⟨I, G⟩ fun r S' => ⟨I, G⟩ = S' ∧ r = .bool true := by
  obtain ⟨a1, cap, rfl⟩ := h.form
  obtain ⟨a2, cap2, rfl⟩ := h'.form
  have hml : (ws.map bvs).length = ws.length := by simp
  refine CallG.start (C := mkC Hvaf.prog) cok (args := [.slice a1 (ws.map bvs).length cap, .slice a2 (ws.map bvs).length cap2]) Hvaf.func51 rfl Hvaf.ntmps51 (by simp) (by kernel_rfl) ?_
  repeat (first | refine SeqS.go cok ?_ | (refine CondS.keep ?_; first | refine CondS.nd0 rfl (by omega) ?_))
  refine W.loopG cok (by kernel_rfl) 0 (fun (i : Nat) e' => i ≤ ws.length ∧ slots [(0, .slice a1 (ws.map bvs).length cap), (1, .slice a2 (ws.map bvs).length cap2), (12, .int .i64 ((ws.map bvs).length : Nat)), (13, .int .i64 (i : Nat))] e') (fun i => ws.length - i) 0
    ⟨Nat.zero_le _, rfl, rfl, rfl, rfl, trivial⟩ (fun e' => True) ?_ ?_
  · rintro e' -
    repeat (first | refine SeqS.go cok ?_)
    exact Fin.same ⟨rfl, rfl⟩
  · rintro i e' ⟨hi, hsl⟩
    refine W.slots _ hsl fun e => ?_
    by_cases hlt : i < ws.length
    · obtain ⟨x, o, rfl, hx, hE⟩ := h.some (by omega)
      obtain ⟨x', o', rfl, hx', hE'⟩ := h'.some (by omega)
      repeat (first | refine SeqS.go cok ?_ | refine And.intro (Eq.refl true) ?_ | refine And.intro (by omega) ?_ | (refine NatS.keep ?_; first | with_reducible refine NatS.nat ?_) | (refine ValS.keep ?_; first | with_reducible refine ValS.sl0 ?_) | refine W.drawI 6 cok [0, 0, 3, 7, 0, 0, 48, 112, 255, 511] [0, 1, 2, 3, 4, 5, 6, 7, 8, 9] [] (by kernel_rfl) (by kernel_rfl) ?_ | (refine CondS.keep ?_; first | refine CondS.d1 rfl (by omega) ?_))
      refine (lEq (row_b hE hx (by decide) h8 hlt) (row_b hE' hx' (by decide) h8 hlt)).mono ?_
      rintro r _ - ⟨rfl, hr⟩
      cases hr.trans (congrArg Value.bool (decide_eq_true rfl))
      repeat (first | refine SeqS.go cok ?_ | refine CondS.f rfl ?_ | (refine ValS.keep ?_; first | (with_reducible refine ValS.kI64 ?_; first | (with_reducible refine ValS.addI64_L ?_ ?_ ; omega))))
      exact ⟨i + 1, Rel.same ⟨rfl, hlt, rfl, rfl, rfl, rfl, trivial⟩, by show ws.length - (i + 1) < ws.length - i; omega⟩
    · repeat (first | refine SeqS.go cok ?_ | (refine CondS.keep ?_; first | refine CondS.d0 rfl (by omega) ?_))
      exact ⟨rfl, trivial⟩
end Go.Proofs.YgvafwGreat
