import Derived.Test.YgvaewGreatRows
import Derived.WalkKit
import Derived.ProofKit
import Derived.OpenShut
import Derived.Test.YgvaewGreatW2
import Derived.Test.YgvaewGreatW3
import Derived.Test.YgvaewGreatW4
import Derived.Test.YgvaewGreatW5
set_option maxHeartbeats 8000000
set_option maxRecDepth 100000
namespace Go.Proofs.YgvaewGreat.towerNoCall
open Go.ChangeShapes Go.WideShapes Go.ChangeAt Go.RowKit
theorem j12 : (Rows.towerNoCallRow.recurses == Hvae.prog.recurses 3) = true := by
  rw [rec_eq]
  exact j11
theorem closed : joinedFacts Hvae.prog 3 Hvae.f3 Rows.towerNoCallSpec Rows.towerNoCallRow = true := by
  unfold joinedFacts
  simp only [Bool.and_eq_true]
  and_intros
  · as_aux_lemma => kernel_rfl
  · as_aux_lemma => kernel_rfl
  · as_aux_lemma => kernel_rfl
  · as_aux_lemma => kernel_rfl
  · as_aux_lemma => kernel_rfl
  · as_aux_lemma => kernel_rfl
  · as_aux_lemma => kernel_rfl
  · as_aux_lemma => kernel_rfl
  · as_aux_lemma => kernel_rfl
  · exact j10
  · exact j11
  · exact j12
  · exact j13
  · as_aux_lemma => kernel_rfl
  · as_aux_lemma => kernel_rfl
  · as_aux_lemma => kernel_rfl
  · as_aux_lemma => kernel_rfl
  · as_aux_lemma => kernel_rfl
  · as_aux_lemma => kernel_rfl
  · as_aux_lemma => kernel_rfl
  · as_aux_lemma => kernel_rfl
  · as_aux_lemma => kernel_rfl
  · as_aux_lemma => kernel_rfl
  · as_aux_lemma => kernel_rfl
  · as_aux_lemma => kernel_rfl
  · as_aux_lemma => kernel_rfl
  · as_aux_lemma => kernel_rfl
  · as_aux_lemma => kernel_rfl
  · as_aux_lemma => kernel_rfl
  · as_aux_lemma => kernel_rfl
  · as_aux_lemma => kernel_rfl
  · as_aux_lemma => kernel_rfl
end Go.Proofs.YgvaewGreat.towerNoCall
