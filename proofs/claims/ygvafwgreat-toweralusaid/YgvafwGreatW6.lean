import Derived.Test.YgvafwGreatRows
import Derived.WalkKit
import Derived.ProofKit
import Derived.OpenShut
import Derived.Test.YgvafwGreatW2
import Derived.Test.YgvafwGreatW3
import Derived.Test.YgvafwGreatW4
import Derived.Test.YgvafwGreatW5
set_option maxHeartbeats 8000000
set_option maxRecDepth 100000
namespace Go.Proofs.YgvafwGreat.towerAlu
open Go.ChangeShapes Go.WideShapes Go.ChangeAt Go.RowKit
theorem j12 : (Rows.towerAluRow.recurses == Hvaf.prog.recurses 3) = true := by
  rw [rec_eq]
  exact j11
theorem closed : joinedFacts Hvaf.prog 3 Hvaf.f3 Rows.towerAluSpec Rows.towerAluRow = true := by
  unfold joinedFacts
  simp only [Bool.and_eq_true]
  and_intros
  · as_aux_lemma => kernel_rfl
  · as_aux_lemma => kernel_rfl
  · as_aux_lemma => kernel_rfl
  · as_aux_lemma => kernel_rfl
  · as_aux_lemma => kernel_rfl
  · as_aux_lemma => kernel_rfl
  · as_aux_lemma => kernel_rfl
  · as_aux_lemma => kernel_rfl
  · as_aux_lemma => kernel_rfl
  · exact j10
  · exact j11
  · exact j12
  · exact j13
  · as_aux_lemma => kernel_rfl
  · as_aux_lemma => kernel_rfl
  · as_aux_lemma => kernel_rfl
  · as_aux_lemma => kernel_rfl
  · as_aux_lemma => kernel_rfl
  · as_aux_lemma => kernel_rfl
  · as_aux_lemma => kernel_rfl
  · as_aux_lemma => kernel_rfl
  · as_aux_lemma => kernel_rfl
  · as_aux_lemma => kernel_rfl
  · as_aux_lemma => kernel_rfl
  · as_aux_lemma => kernel_rfl
  · as_aux_lemma => kernel_rfl
  · as_aux_lemma => kernel_rfl
  · as_aux_lemma => kernel_rfl
  · as_aux_lemma => kernel_rfl
  · as_aux_lemma => kernel_rfl
  · as_aux_lemma => kernel_rfl
  · as_aux_lemma => kernel_rfl
end Go.Proofs.YgvafwGreat.towerAlu
