import Derived.Test.YgvafwGreatHQ
set_option maxRecDepth 100000
set_option maxHeartbeats 4000000
set_option linter.unusedVariables false
set_option linter.unusedSimpArgs false
-- v2
namespace Go.Proofs.YgvafwGreat
open Go.HL Go.Proofs
theorem getD_big {ds : List Nat} {i : Nat} (h : ¬ i < ds.length) : ds.getD i 0 = 0 := by
  rw [List.getD_eq_getElem?_getD, List.getElem?_eq_none (by omega)]; rfl
theorem _root_.Go.HL.GW.frz {P : Program} {n : Nat} {c : Code} {e : Env} {Q : HPost} {I : Ent → Prop} (Z G : List Ent) (h : GW P n c e ⟨fun x => I x ∨ x ∈ Z, G⟩ Q) : GW P n c e ⟨I, Z ++ G⟩ Q :=
  ⟨fun F a w s hw => wp_mono (h.run F a w s hw.freeze) fun _ _ _ ⟨e', S', s', hh, hs, q⟩ => ⟨e', S', s', hh, fun x hx => hs x (.inl hx), q⟩⟩
theorem dig_at {ds : List Nat} (h : ∀ d ∈ ds, d < 256) (j : Nat) : val ds / 256 ^ j % 256 = ds.getD j 0 := by
  induction ds generalizing j with
  | nil => simp [val]
  | cons d ds ih =>
    have hd := h d (by simp)
    cases j with
    | zero => simp only [val, Nat.pow_zero, Nat.div_one, List.getD_cons_zero]; omega
    | succ j =>
      rw [List.getD_cons_succ, ← ih (fun x hx => h x (by simp [hx])) j, Nat.pow_succ, Nat.mul_comm, ← Nat.div_div_eq_div_mul]
      simp only [val]
      rw [show (d + 256 * val ds) / 256 = val ds by omega]
theorem _root_.Go.HL.Byt.one1 {I : Ent → Prop} {G : List Ent} {x : Ent} {d : Nat} (hx : x ∈ G) (hs : x.sz = 1) (hc : x.c 0 = .int .u8 (d : Nat)) (hd : d < 256) : Byt ⟨I, G⟩ (sl x.b 0 1 1) [d] := by
  refine ⟨by simpa using hd, by simp, some ⟨x.b, 0, none⟩, 1, rfl, by simp, by decide, .inr ⟨x, 0, rfl, .inr hx, by simp [hs], ?_⟩⟩
  intro i hi
  obtain rfl : i = 0 := by simpa using hi
  simpa using hc
end Go.Proofs.YgvafwGreat
