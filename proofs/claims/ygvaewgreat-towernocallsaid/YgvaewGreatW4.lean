import Derived.Test.YgvaewGreatRows
import Derived.WalkKit
import Derived.ProofKit
import Derived.OpenShut
namespace Go.Proofs.YgvaewGreat.towerNoCall
open Go.ChangeShapes Go.WideShapes Go.ChangeAt Go.RowKit
theorem j13 : (Rows.towerNoCallRow.named == Hvae.prog.varsNamed 3) = true := by kernel_rfl
end Go.Proofs.YgvaewGreat.towerNoCall
