/-
  No cell of these rows narrows 'for every input' (looked for: loops, veiled, ifaces, maps, wideKeys, modest, calm, conditions, laid).
  DERIVED. THE GIVEN ROWS OF THIS SEAT. 1 by the template 'for every input the law returns true; each argument reads behind the call as it read before'; 0 by the template 'total and deterministic' (their statements: YgvaewGreatTotals.lean).
  GIVEN WITH THE SEED: the statements are not yours to turn. If you find one false, say at which input.
  Laid BY PROGRAM, IN A SANDBOX (cutbox-rows.mjs): the forced cells as the released guide's own fill.sh prints them over the translation 47827b02c1314ad8… (all of the seat's roots in one cut). By AI agents, Wed Nov 11 2026. No macro, syntax, notation, axiom, sorry.
-/
import Derived.Test.YgvaewGreatChecked
import GoSem.Claim
import GoSem.ClaimJoined
import GoSem.ClaimMapViews
import Derived.JoinedTies
import Derived.KernelRfl
namespace Go.Proofs.YgvaewGreat
/- THE CELL 'sum', in the pinned program and in every row, IS THE sha256 OF THE DUMP (.gsa) THAT YgvaewGreatProg.lean LOADS. Nothing in Lean hashes anything: it is a label: what it is worth is what the hold of that sum in a sandbox is worth. -/
noncomputable def Hvae.pinned : Pinned := { name := "ygvaewgreat", sum := "47827b02c1314ad80a9a5ba2c39ada7eb66506b6363eb8c3b1530a1e70e43040", checked := Hvae.checked }
namespace Rows
def none {H : Type} : Left H := { results := [], args := [] }

/-- 'law.TowerNoCall': WHATEVER THE INPUT: true; the input reads as it did. -/
def towerNoCallSpec : ChangeSpec := { name := "towerNoCall", fn := fun _ => fun
  | [d1, d2, d3] => { results := [.lit (.bool true)], args := [d1, d2, d3] }
  | _ => none }
def towerNoCallRow : OpenClaim := { program := "ygvaewgreat", sum := "47827b02c1314ad80a9a5ba2c39ada7eb66506b6363eb8c3b1530a1e70e43040", func := "yellow/law.TowerNoCall", spec := "towerNoCall", inPlace := ["math/bits.Add64", "math/bits.Sub64"], named := ["math/bits.divideError", "math/bits.overflowError"], apart := false }
def TowerNoCallSaid : Prop := towerNoCallRow.holds Hvae.pinned (OpenSpec.ofChange towerNoCallSpec)

/-- ITS FALSE NEIGHBOUR: 'it returns false'. Refute it at one input. -/
def towerNoCallWrong : ChangeSpec := { name := "towerNoCall", fn := fun _ => fun
  | [d1, d2, d3] => { results := [.lit (.bool false)], args := [d1, d2, d3] }
  | _ => none }
def TowerNoCallWrongFalsely : Prop := towerNoCallRow.holds Hvae.pinned (OpenSpec.ofChange towerNoCallWrong)

end Rows
end Go.Proofs.YgvaewGreat
