import Derived.Test.YgvaewGreatRows
import Derived.WalkKit
import Derived.ProofKit
import Derived.OpenShut
namespace Go.Proofs.YgvaewGreat.towerNoCall
open Go.ChangeShapes Go.WideShapes Go.ChangeAt Go.RowKit
theorem j10 : (Rows.towerNoCallRow.inPlace == Hvae.prog.inPlace 3) = true := by kernel_rfl
end Go.Proofs.YgvaewGreat.towerNoCall
