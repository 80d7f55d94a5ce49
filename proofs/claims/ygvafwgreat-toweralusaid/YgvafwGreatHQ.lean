import Derived.Test.YgvafwGreatY1
set_option maxRecDepth 100000
set_option maxHeartbeats 4000000
set_option linter.unusedVariables false
set_option linter.unusedSimpArgs false
-- v2
namespace Go.Proofs.YgvafwGreat
open Go.HL Go.Proofs
theorem _root_.Go.HL.Byt.cases {S : St} {v : Value} {ds : List Nat} (h : Byt S v ds) : (v = .slice none 0 0 ∧ ds = []) ∨ ∃ x o cap, v = .slice (some ⟨x.b, o, none⟩) ds.length cap ∧ ds.length ≤ cap ∧ cap < 2 ^ 63 ∧ Rd S x ∧ Bs x o ds := by
  obtain ⟨h1, h2, a, cap, h3, h4, h5, h6⟩ := h
  rcases h6 with ⟨ha, hd, hc⟩ | ⟨x, o, ha, hx, hb⟩
  · left; subst ha hd hc; exact ⟨h3, rfl⟩
  · right; subst ha; exact ⟨x, o, cap, h3, h4, h5, hx, hb⟩
theorem _root_.Go.HL.GW.drop {P : Program} {n : Nat} {c : Code} {e : Env} {Q : HPost} {I : Ent → Prop} (D G : List Ent) (h : GW P n c e ⟨I, G⟩ Q) : GW P n c e ⟨I, D ++ G⟩ Q :=
  ⟨fun F a w s hw => wp_mono (h.run F a w s (hw.drop (S := ⟨I, D ++ G⟩))) fun _ _ _ ⟨e', S', s', hh, hs, q⟩ => ⟨e', S', s', hh, hs, q⟩⟩
theorem _root_.Go.HL.CallG.frz {P : Program} {f : FuncId} {args : Array Value} {K : Post} {I : Ent → Prop} (Z G : List Ent) (h : CallG P f args ⟨fun x => I x ∨ x ∈ Z, G⟩ K) : CallG P f args ⟨I, Z ++ G⟩ K :=
  ⟨fun F w hw => (h.run F w hw.freeze).mono fun _ _ ⟨v, S', e, hh, hs, k⟩ => ⟨v, S', e, hh, fun x hx => hs x (.inl hx), k⟩⟩
theorem _root_.Go.HL.CallG.drop {P : Program} {f : FuncId} {args : Array Value} {K : Post} {I : Ent → Prop} (D G : List Ent) (h : CallG P f args ⟨I, G⟩ K) : CallG P f args ⟨I, D ++ G⟩ K :=
  ⟨fun F w hw => (h.run F w (hw.drop (S := ⟨I, D ++ G⟩))).mono fun _ _ ⟨v, S', e, hh, hs, k⟩ => ⟨v, S', e, hh, hs, k⟩⟩
theorem sub_frz {I : Ent → Prop} {Z : List Ent} : Sub I (fun x => I x ∨ x ∈ Z) := fun _ h => .inl h
theorem callS {P : Program} {f : FuncId} {args : Array Value} {I : Ent → Prop} {G : List Ent} {x : Nat} {b : Bool} {K : Post} (h : CallG P f args ⟨I, G⟩ fun r S' => S'.G = G ∧ ∃ w, r = .tuple #[w, .bool b] ∧ NatI S'.I w x)
    (k : ∀ w J, Sub I J → NatI J w x → K (.tuple #[w, .bool b]) ⟨J, G⟩) : CallG P f args ⟨I, G⟩ K := by
  refine h.mono ?_
  rintro r ⟨J, G'⟩ hs ⟨h1, w, rfl, h2⟩
  dsimp only at h1 hs h2
  subst h1
  exact k w J hs h2
theorem _root_.Go.HL.Fin.drop1 {K : Post} {v : Value} {I : Ent → Prop} (x : Ent) (G D : List Ent) (h : K v ⟨I, x :: G⟩) : HL.Fin K v ⟨I, x :: (D ++ G)⟩ :=
  ⟨D, [], x :: G, I, by simpa using List.perm_append_comm, fun x => by simp, h⟩
end Go.Proofs.YgvafwGreat
