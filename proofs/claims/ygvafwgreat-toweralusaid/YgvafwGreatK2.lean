import Derived.Test.YgvafwGreatNum3
import Derived.Test.YgvafwGreatY13
set_option maxRecDepth 100000
set_option linter.unusedVariables false
set_option linter.unusedSimpArgs false
namespace Go.HL
open Go.Proofs
/-- A row of n bits. -/
structure BB (c : Nat → Value) (n : Nat) (A : Nat → Bool) : Prop where
  get : ∀ i, i < n → c i = .bool (A i)
section
variable {C : Cfg} {e : Env} {S : St} {ty : TypeId} {q : Value → Prop} {t : TypeId} {a : Operand} {ti : TI} {b b' o n sz : Nat} {T : TypeId} {c : Nat → Value} {A B : Nat → Bool}
theorem QuG.bb (hC : C.Ok) (k : Nat) (hx : S.G[k]? = some ⟨b, sz, T, c⟩) (hA : BB c n A) (hD : C.D t = some ti) (hk : isAggK ti = false) (ha : ev e a = ptr b' o) (hb : b = b') (hi : o < n) (hn : n ≤ sz) (h : q (.bool (A o))) : QuG C.P (.load t a) ty e S q := by
  refine QuG.l1 hC k hx hD hk ha hb (by omega) ?_
  rw [hA.get o hi]; exact h
theorem BB.upd {v : Bool} (h : BB c n A) (hB : ∀ i, i < n → B i = if i = o then v else A i) : BB (HL.upd c o (.bool v)) n B := by
  refine ⟨fun i hi => ?_⟩
  simp only [HL.upd]
  rw [hB i hi]
  split
  · rfl
  · exact h.get i hi
theorem BB.ext (h : BB c n A) (hB : ∀ i, i < n → B i = A i) : BB c n B := ⟨fun i hi => by rw [hB i hi]; exact h.get i hi⟩
end
end Go.HL
namespace Go.Proofs.YgvafwGreat
open Go.HL
/-- The sum of the first y bits of a column. -/
def par (A : Nat → Bool) (x z : Nat) : Nat → Bool
  | 0 => false
  | y + 1 => par A x z y != A (x * 320 + y * 64 + z)
def thD (A : Nat → Bool) (x z : Nat) : Bool := par A ((x + 4) % 5) z 5 != par A ((x + 1) % 5) ((z + 63) % 64) 5
def thN (A : Nat → Bool) (i : Nat) : Bool := A i != thD A (i / 320) (i % 64)
end Go.Proofs.YgvafwGreat
