import Derived.Test.YgvafwGreatK12
import Derived.Test.YgvafwGreatY45
set_option linter.unusedVariables false
namespace Go.Proofs.YgvafwGreat
open Go.HL Go.Proofs
/-- The specification's hash answers kecN. -/
theorem kecOk : KecOk kecN := ⟨fun _ _ _ _ hB hl => kSum hB hl, kecN_len, kecN_b8⟩
end Go.Proofs.YgvafwGreat
