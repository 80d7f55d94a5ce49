import Derived.Test.YgvafwGreatW1
import Derived.Test.YgvafwGreatL16
namespace Go.Proofs.YgvafwGreat.towerAlu
/-- THE STATEMENT -/
theorem proved : Rows.TowerAluSaid := over fun {_I o a b c} ho ha hb hc => lTowerAlu (q := ⟨o, a, b, c⟩) ⟨ho, ha, hb, hc⟩
end Go.Proofs.YgvafwGreat.towerAlu
