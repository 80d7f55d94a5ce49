import Derived.Test.YgvaewGreatW1
import Derived.Test.YgvaewGreatL14
namespace Go.Proofs.YgvaewGreat.towerNoCall
/-- THE STATEMENT -/
theorem proved : Rows.TowerNoCallSaid := over fun hc hd hg => lTowerNoCall hc hd hg
end Go.Proofs.YgvaewGreat.towerNoCall
