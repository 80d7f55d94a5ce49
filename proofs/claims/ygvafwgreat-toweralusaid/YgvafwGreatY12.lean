import Derived.Test.YgvafwGreatY12a
import Derived.Test.YgvafwGreatY12b
import Derived.Test.YgvafwGreatY12c
set_option maxRecDepth 100000
set_option maxHeartbeats 4000000
set_option linter.unusedVariables false
set_option linter.unusedSimpArgs false
-- v2
-- v4
namespace Go.Proofs.YgvafwGreat
open Go.HL Go.Proofs

/-- yp.World.put -/
theorem yPut {I : Ent → Prop} {G : List Ent} {wb sz : Nat} {T : TypeId} {c : Nat → Value} {al : List YA} {l : List Value} {a : YA} (hsz : 8 ≤ sz) (hN : AcctsI I (c 0) al) (hA : AcctC I l a) (hlen : al.length < 2 ^ 19) :
    CallG Hvaf.prog 137 #[ptr wb 0, .agg l.toArray] ⟨I, ⟨wb, sz, T, c⟩ :: G⟩ fun r S' => ∃ J w, S' = ⟨J, ⟨wb, sz, T, upd c 0 w⟩ :: G⟩ ∧ AcctsI J w (putA a al) := by
  unfold putA noA
  cases hE : emptyA a
  · exact yPutA hsz hN hA hlen hE rfl (Nat.zero_le _)
  · by_cases hs : a.slots.length = 0
    · rw [decide_eq_true hs]; exact yPutB hsz hN hA hlen hE rfl hs
    · rw [decide_eq_false hs]; exact yPutC hsz hN hA hlen hE rfl (by omega)
end Go.Proofs.YgvafwGreat
