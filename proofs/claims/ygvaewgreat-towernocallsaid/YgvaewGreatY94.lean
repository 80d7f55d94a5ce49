import Derived.Test.YgvaewGreatY93
import Derived.Test.YgvaewGreatY89
import Derived.Test.YgvaewGreatY80
import Derived.Test.YgvaewGreatY82
import Derived.Test.YgvaewGreatE80
set_option exponentiation.threshold 1000
set_option maxRecDepth 100000
set_option maxHeartbeats 4000000
set_option linter.unusedVariables false
set_option linter.unusedSimpArgs false
-- v2
-- v4
-- v5
-- v6
-- v7
namespace Go.Proofs.YgvaewGreat
open Go.HL Go.Proofs

theorem BS.accI {I : Ent → Prop} {cs : Nat → Value} {code : List Nat} (h : BS I cs code) : AcctsI I (cs 0) [⟨adNo 1, 1, 0, code, []⟩, ⟨adNo 240, 0, 2 ^ 128, [], []⟩] := h.acc.acc
/-- yp.Chain.Export ahead of any transaction -/
theorem yExportU {I : Ent → Prop} {G : List Ent} {sb : Nat} {cs : Nat → Value} {code : List Nat} (hB : BS I cs code) :
    CallG Hvae.prog 15 #[ptr sb 0] ⟨I, ⟨sb, 179, 118, cs⟩ :: G⟩ fun r S' => S'.G = G ∧ OWI S'.I r (wlU code) := by
  refine CallG.frz [⟨sb, 179, 118, cs⟩] G ?_
  have hA2 : AcctsI (fun x => I x ∨ x ∈ [(⟨sb, 179, 118, cs⟩ : Ent)]) (cs 0) [⟨adNo 1, 1, 0, code, []⟩, ⟨adNo 240, 0, 2 ^ 128, [], []⟩] := hB.accI.up fun _ h => .inl h
  rw [show wlU code = exY [⟨adNo 1, 1, 0, code, []⟩, ⟨adNo 240, 0, 2 ^ 128, [], []⟩] from rfl]
  have hm : ∀ {P : YA → Prop}, P ⟨adNo 1, 1, 0, code, []⟩ → P ⟨adNo 240, 0, 2 ^ 128, [], []⟩ → ∀ a ∈ [(⟨adNo 1, 1, 0, code, []⟩ : YA), ⟨adNo 240, 0, 2 ^ 128, [], []⟩], P a := fun h1 h2 a ha => by
    rcases List.mem_cons.1 ha with rfl | ha
    · exact h1
    · rw [List.mem_singleton.1 ha]; exact h2
  refine yExport (.inr List.mem_cons_self) hA2 (by show 2 < 2 ^ 17; decide) (hm ?_ ?_) (hm ?_ ?_) (hm ?_ ?_) (hm ?_ ?_)
  · show 1 < 2 ^ 64; decide
  · show 0 < 2 ^ 64; decide
  · show 0 < 2 ^ 256; decide
  · show 2 ^ 128 < 2 ^ 256; decide
  · show 0 < 2 ^ 17; decide
  · show 0 < 2 ^ 17; decide
  · intro p hp; cases hp
  · intro p hp; cases hp
end Go.Proofs.YgvaewGreat
