import Derived.Test.YgvafwGreatN9
import Derived.Test.YgvafwGreatN5
import Derived.Test.YgvafwGreatN12
set_option exponentiation.threshold 1000
set_option maxRecDepth 100000
set_option maxHeartbeats 4000000
set_option linter.unusedVariables false
set_option linter.unusedSimpArgs false
-- v2
namespace Go.Proofs.YgvafwGreat
open Go.HL Go.Proofs

/-- yp.Chain.Export behind a transaction -/
theorem yExport2 {I : Ent → Prop} {G : List Ent} {sb : Nat} {cs : Nat → Value} {code : List Nat} {ss : List (Nat × Nat)} (hA : AcctsI I (cs 0) (alN code ss)) (hS : SsOk ss) (hl : ss.length < 2 ^ 17) :
    CallG Hvaf.prog 15 #[ptr sb 0] ⟨I, ⟨sb, 179, 118, cs⟩ :: G⟩ fun r S' => S'.G = G ∧ OWI S'.I r (wlE code ss) := by
  refine CallG.frz [⟨sb, 179, 118, cs⟩] G ?_
  have hA2 : AcctsI (fun x => I x ∨ x ∈ [(⟨sb, 179, 118, cs⟩ : Ent)]) (cs 0) (alN code ss) := hA.up fun _ h => .inl h
  rw [← exY_E]
  have hm : ∀ {P : YA → Prop}, P ⟨adNo 1, 1, 0, code, ss⟩ → P ⟨adNo 240, 1, 2 ^ 128, [], []⟩ → ∀ a ∈ alN code ss, P a := fun h1 h2 a ha => by
    unfold alN at ha
    rcases List.mem_cons.1 ha with rfl | ha
    · exact h1
    · rw [List.mem_singleton.1 ha]; exact h2
  refine yExport (.inr List.mem_cons_self) hA2 (by show 2 < 2 ^ 17; decide) (hm ?_ ?_) (hm ?_ ?_) (hm ?_ ?_) (hm ?_ ?_)
  · show 1 < 2 ^ 64; decide
  · show 1 < 2 ^ 64; decide
  · show 0 < 2 ^ 256; decide
  · show 2 ^ 128 < 2 ^ 256; decide
  · exact hl
  · show 0 < 2 ^ 17; decide
  · exact fun p hp => ⟨hS.kb p hp, hS.vb p hp⟩
  · intro p hp; cases hp
/-- yp.Chain.Export behind a transaction that made an account -/
theorem yExport3 {I : Ent → Prop} {G : List Ent} {sb : Nat} {cs : Nat → Value} {code : List Nat} (hA : AcctsI I (cs 0) (alC code)) :
    CallG Hvaf.prog 15 #[ptr sb 0] ⟨I, ⟨sb, 179, 118, cs⟩ :: G⟩ fun r S' => S'.G = G ∧ OWI S'.I r (exY (alC code)) := by
  refine CallG.frz [⟨sb, 179, 118, cs⟩] G ?_
  have hA2 : AcctsI (fun x => I x ∨ x ∈ [(⟨sb, 179, 118, cs⟩ : Ent)]) (cs 0) (alC code) := hA.up fun _ h => .inl h
  have hm : ∀ {P : YA → Prop}, P ⟨adNo 1, 2, 0, code, []⟩ → P ⟨adNo 240, 1, 2 ^ 128, [], []⟩ → P ⟨crAd, 1, 0, [], []⟩ → ∀ a ∈ alC code, P a := fun h1 h2 h3 a ha => by
    unfold alC at ha
    rcases List.mem_cons.1 ha with rfl | ha
    · exact h1
    · rcases List.mem_cons.1 ha with rfl | ha
      · exact h2
      · rw [List.mem_singleton.1 ha]; exact h3
  refine yExport (.inr List.mem_cons_self) hA2 (by show 3 < 2 ^ 17; decide) (hm ?_ ?_ ?_) (hm ?_ ?_ ?_) (hm ?_ ?_ ?_) (hm ?_ ?_ ?_)
  · show 2 < 2 ^ 64; decide
  · show 1 < 2 ^ 64; decide
  · show 1 < 2 ^ 64; decide
  · show 0 < 2 ^ 256; decide
  · show 2 ^ 128 < 2 ^ 256; decide
  · show 0 < 2 ^ 256; decide
  · show 0 < 2 ^ 17; decide
  · show 0 < 2 ^ 17; decide
  · show 0 < 2 ^ 17; decide
  · intro p hp; cases hp
  · intro p hp; cases hp
  · intro p hp; cases hp
/-- yp.Chain.Export behind a transaction -/
theorem yExportE {I : Ent → Prop} {G : List Ent} {sb : Nat} {cs : Nat → Value} {q : AQ} {e : NE} (hA : AcctsI I (cs 0) e.w.al) (hF : FinA q e) :
    CallG Hvaf.prog 15 #[ptr sb 0] ⟨I, ⟨sb, 179, 118, cs⟩ :: G⟩ fun r S' => S'.G = G ∧ OWI S'.I r (exY e.w.al) := by
  rcases hF.al with ⟨ss, h1, h2⟩ | h1
  · have hsl := sz_sl hF.sz
    rw [h1] at hsl hA ⊢
    rw [exY_E]
    exact yExport2 hA h2 hsl
  · rw [h1] at hA ⊢
    exact yExport3 hA
end Go.Proofs.YgvafwGreat
