import Derived.Test.YgvaewGreatK12
import Derived.Test.YgvaewGreatY45
set_option linter.unusedVariables false
namespace Go.Proofs.YgvaewGreat
open Go.HL Go.Proofs
/-- The specification's hash answers kecN. -/
theorem kecOk : KecOk kecN := ⟨fun _ _ _ _ hB hl => kSum hB hl, kecN_len, kecN_b8⟩
end Go.Proofs.YgvaewGreat
