import Derived.Test.YgvafwGreatRows
import Derived.WalkKit
import Derived.ProofKit
import Derived.OpenShut
namespace Go.Proofs.YgvafwGreat.towerAlu
open Go.ChangeShapes Go.WideShapes Go.ChangeAt Go.RowKit
theorem j13 : (Rows.towerAluRow.named == Hvaf.prog.varsNamed 3) = true := by kernel_rfl
end Go.Proofs.YgvafwGreat.towerAlu
