/-
  No cell of these rows narrows 'for every input' (looked for: loops, veiled, ifaces, maps, wideKeys, modest, calm, conditions, laid).
  DERIVED. THE GIVEN ROWS OF THIS SEAT. 1 by the template 'for every input the law returns true; each argument reads behind the call as it read before'; 0 by the template 'total and deterministic' (their statements: YgvafwGreatTotals.lean).
  GIVEN WITH THE SEED: the statements are not yours to turn. If you find one false, say at which input.
  Laid BY PROGRAM, IN A SANDBOX (cutbox-rows.mjs): the forced cells as the released guide's own fill.sh prints them over the translation 1420dec949228f82… (all of the seat's roots in one cut). By AI agents, Wed Nov 11 2026. No macro, syntax, notation, axiom, sorry.
-/
import Derived.Test.YgvafwGreatChecked
import GoSem.Claim
import GoSem.ClaimJoined
import GoSem.ClaimMapViews
import Derived.JoinedTies
import Derived.KernelRfl
namespace Go.Proofs.YgvafwGreat
/- THE CELL 'sum', in the pinned program and in every row, IS THE sha256 OF THE DUMP (.gsa) THAT YgvafwGreatProg.lean LOADS. Nothing in Lean hashes anything: it is a label: what it is worth is what the hold of that sum in a sandbox is worth. -/
noncomputable def Hvaf.pinned : Pinned := { name := "ygvafwgreat", sum := "1420dec949228f82defb26a9ed5e3a07b2e6b6c53d5835a4ba90814ce566b8f2", checked := Hvaf.checked }
namespace Rows
def none {H : Type} : Left H := { results := [], args := [] }

/-- 'law.TowerAlu': WHATEVER THE INPUT: true; the input reads as it did. -/
def towerAluSpec : ChangeSpec := { name := "towerAlu", fn := fun _ => fun
  | [d1, d2, d3, d4] => { results := [.lit (.bool true)], args := [d1, d2, d3, d4] }
  | _ => none }
def towerAluRow : OpenClaim := { program := "ygvafwgreat", sum := "1420dec949228f82defb26a9ed5e3a07b2e6b6c53d5835a4ba90814ce566b8f2", func := "yellow/law.TowerAlu", spec := "towerAlu", inPlace := ["math/bits.Add64", "math/bits.Sub64"], named := ["math/bits.divideError", "math/bits.overflowError"], apart := false }
def TowerAluSaid : Prop := towerAluRow.holds Hvaf.pinned (OpenSpec.ofChange towerAluSpec)

/-- ITS FALSE NEIGHBOUR: 'it returns false'. Refute it at one input. -/
def towerAluWrong : ChangeSpec := { name := "towerAlu", fn := fun _ => fun
  | [d1, d2, d3, d4] => { results := [.lit (.bool false)], args := [d1, d2, d3, d4] }
  | _ => none }
def TowerAluWrongFalsely : Prop := towerAluRow.holds Hvaf.pinned (OpenSpec.ofChange towerAluWrong)

end Rows
end Go.Proofs.YgvafwGreat
