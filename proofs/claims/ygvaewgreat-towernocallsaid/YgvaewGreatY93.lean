import Derived.Test.YgvaewGreatN5
set_option exponentiation.threshold 1000
set_option maxRecDepth 100000
set_option maxHeartbeats 4000000
set_option linter.unusedVariables false
set_option linter.unusedSimpArgs false
-- v2
namespace Go.Proofs.YgvaewGreat
open Go.HL Go.Proofs

/-- yp.Chain.Export behind a transaction -/
theorem yExportE {I : Ent → Prop} {G : List Ent} {sb : Nat} {cs : Nat → Value} {code : List Nat} {ss : List (Nat × Nat)} (hA : AcctsI I (cs 0) (alN code ss)) (hS : SsOk ss) (hl : ss.length < 2 ^ 17) :
    CallG Hvae.prog 15 #[ptr sb 0] ⟨I, ⟨sb, 179, 118, cs⟩ :: G⟩ fun r S' => S'.G = G ∧ OWI S'.I r (wlE code ss) := by
  refine CallG.frz [⟨sb, 179, 118, cs⟩] G ?_
  have hA2 : AcctsI (fun x => I x ∨ x ∈ [(⟨sb, 179, 118, cs⟩ : Ent)]) (cs 0) (alN code ss) := hA.up fun _ h => .inl h
  rw [← exY_E]
  have hm : ∀ {P : YA → Prop}, P ⟨adNo 1, 1, 0, code, ss⟩ → P ⟨adNo 240, 1, 2 ^ 128, [], []⟩ → ∀ a ∈ alN code ss, P a := fun h1 h2 a ha => by
    unfold alN at ha
    rcases List.mem_cons.1 ha with rfl | ha
    · exact h1
    · rw [List.mem_singleton.1 ha]; exact h2
  refine yExport (.inr List.mem_cons_self) hA2 (by show 2 < 2 ^ 17; decide) (hm ?_ ?_) (hm ?_ ?_) (hm ?_ ?_) (hm ?_ ?_)
  · show 1 < 2 ^ 64; decide
  · show 1 < 2 ^ 64; decide
  · show 0 < 2 ^ 256; decide
  · show 2 ^ 128 < 2 ^ 256; decide
  · exact hl
  · show 0 < 2 ^ 17; decide
  · exact fun p hp => ⟨hS.kb p hp, hS.vb p hp⟩
  · intro p hp; cases hp
end Go.Proofs.YgvaewGreat
