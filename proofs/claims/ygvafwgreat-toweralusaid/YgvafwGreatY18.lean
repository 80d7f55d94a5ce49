import Derived.Test.YgvafwGreatY17
set_option maxRecDepth 100000
set_option maxHeartbeats 4000000
set_option linter.unusedVariables false
set_option linter.unusedSimpArgs false
-- v2
-- v4
-- v5
namespace Go.Proofs.YgvafwGreat
open Go.HL Go.Proofs

def sameT (t x : TM) : Bool := decide (x.1 = t.1) && decide (x.2.1 = t.2.1)
def insT (t x : TM) : Bool := sameT t x || (ltL t.1 x.1 || (decide (t.1 = x.1) && decide (t.2.1 < x.2.1)))
/-- The transient slots with one set. -/
def tstT (t : TM) (laid : Bool) : List TM → List TM
  | [] => if laid then [] else [t]
  | x :: l => (if !laid && insT t x then [t] else []) ++ ((if sameT t x then [] else [x]) ++ tstT t (laid || insT t x) l)
theorem tstT_len (t : TM) : ∀ (l : List TM) (laid : Bool), (tstT t laid l).length ≤ l.length + 1 ∧ (laid = true → (tstT t laid l).length ≤ l.length)
  | [], laid => by cases laid <;> simp [tstT]
  | x :: l, laid => by
    have ih := tstT_len t l (laid || insT t x)
    unfold tstT
    generalize insT t x = b at ih ⊢
    generalize sameT t x = d at ih ⊢
    cases laid <;> cases b <;> cases d <;> simp at ih ⊢ <;> omega
theorem build22 {A : List Value} (h : A.length = 20) (z : Nat → Value) (k v : Value) : cellsFrom (HL.updN (HL.updN (HL.updN z 0 A) 20 [k]) 21 [v]) 0 22 = A ++ [k, v] := by
  apply List.ext_getElem?
  intro i
  by_cases hi : i < 22
  · rw [cellsFrom_get _ _ _ _ hi, Nat.zero_add]
    by_cases h20 : i < 20
    · rw [List.getElem?_append_left (by omega)]
      simp only [HL.updN, List.length_singleton, h, Nat.zero_add, Nat.zero_le, true_and, Nat.sub_zero]
      rw [if_neg (by omega), if_neg (by omega), if_pos h20, List.getD_eq_getElem?_getD, List.getElem?_eq_getElem (by omega)]; rfl
    · rw [List.getElem?_append_right (by omega), h]
      have : i = 20 ∨ i = 21 := by omega
      rcases this with rfl | rfl <;> rfl
  · rw [List.getElem?_eq_none (by simp; omega), List.getElem?_eq_none (by simp; omega)]
theorem TmC.new {I : Ent → Prop} {a : List Nat} {k n : Nat} {v u : Value} (hA : AdOk a) (hv : NatI I v k) (hu : NatI I u n) : TmC I (bvs a ++ [v, u]) (a, k, n) := ⟨hA, v, u, rfl, hv, hu⟩
end Go.Proofs.YgvafwGreat
