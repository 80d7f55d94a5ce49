import Derived.Test.YgvafwGreatRows
import Derived.WalkKit
import Derived.ProofKit
import Derived.OpenShut
namespace Go.Proofs.YgvafwGreat.towerAlu
open Go.ChangeShapes Go.WideShapes Go.ChangeAt Go.RowKit
theorem j11 : (Rows.towerAluRow.unfollowed == Hvaf.prog.unfollowed 3) = true := by kernel_rfl
end Go.Proofs.YgvafwGreat.towerAlu
