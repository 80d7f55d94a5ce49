import Derived.KernelRfl
set_option linter.unusedVariables false
namespace Go.Proofs.YgvafwGreat

/-! ### Merging runs, with no Go in sight -/
section
variable {α : Type} (le : α → α → Bool)
/-- One pass: neighbouring runs of w are merged. -/
def passL (w : Nat) : Nat → List α → List α
  | 0, l => l
  | f + 1, l => if l.length = 0 then [] else List.merge (l.take w) ((l.drop w).take w) le ++ passL w f (l.drop (2 * w))
/-- RunsW of w, 2w, .. -/
def msL : Nat → Nat → List α → List α
  | 0, _, l => l
  | f + 1, w, l => if w < l.length then msL f (2 * w) (passL le w l.length l) else l
def RunsW (w : Nat) (l : List α) : Prop := ∀ j, ((l.drop (w * j)).take w).Pairwise fun a b => le a b = true
variable {le}
theorem passL_nil (w f : Nat) : passL le w f [] = [] := by cases f <;> simp [passL]
theorem passL_perm {w : Nat} (hw : 0 < w) : ∀ f l, (passL le w f l).Perm l
  | 0, l => .refl _
  | f + 1, l => by
    unfold passL
    split
    · rename_i h; rw [List.length_eq_zero_iff.1 h]
    · refine ((List.merge_perm_append le).append (passL_perm hw f (l.drop (2 * w)))).trans ?_
      have : l.drop (2 * w) = (l.drop w).drop w := by rw [List.drop_drop]; congr 1; omega
      rw [this, List.append_assoc, List.take_append_drop, List.take_append_drop]
theorem passL_len {w : Nat} (hw : 0 < w) (f : Nat) (l : List α) : (passL le w f l).length = l.length := (passL_perm hw f l).length_eq
theorem passL_drop1 {w : Nat} (hw : 0 < w) (f : Nat) (l : List α) : (passL le w (f + 1) l).drop (2 * w) = passL le w f (l.drop (2 * w)) := by
  have e : passL le w (f + 1) l = if l.length = 0 then [] else List.merge (l.take w) ((l.drop w).take w) le ++ passL le w f (l.drop (2 * w)) := rfl
  rw [e]
  split
  · rename_i h
    rw [List.length_eq_zero_iff.1 h]; simp [passL_nil]
  · by_cases hl : 2 * w ≤ l.length
    · rw [List.drop_append_of_le_length (by simp; omega)]
      rw [List.drop_eq_nil_of_le (by simp; omega)]
      simp
    · have h2 : l.drop (2 * w) = [] := List.drop_eq_nil_of_le (by omega)
      rw [h2, passL_nil, List.append_nil, List.drop_eq_nil_of_le (by simp; omega)]
theorem passL_take1 {w : Nat} (hw : 0 < w) (f : Nat) (l : List α) : (passL le w (f + 1) l).take (2 * w) = List.merge (l.take w) ((l.drop w).take w) le := by
  have e : passL le w (f + 1) l = if l.length = 0 then [] else List.merge (l.take w) ((l.drop w).take w) le ++ passL le w f (l.drop (2 * w)) := rfl
  rw [e]
  split
  · rename_i h
    rw [List.length_eq_zero_iff.1 h]; simp
  · by_cases hl : 2 * w ≤ l.length
    · have : (List.merge (l.take w) ((l.drop w).take w) le).length = 2 * w := by simp; omega
      rw [← this, List.take_left]
    · have h2 : l.drop (2 * w) = [] := List.drop_eq_nil_of_le (by omega)
      rw [h2, passL_nil, List.append_nil, List.take_of_length_le (by simp; omega)]
theorem passL_drop {w : Nat} (hw : 0 < w) : ∀ j f (l : List α), (passL le w (f + j) l).drop (2 * w * j) = passL le w f (l.drop (2 * w * j))
  | 0, f, l => by simp
  | j + 1, f, l => by
    have h1 : 2 * w * (j + 1) = 2 * w + 2 * w * j := by rw [Nat.mul_add, Nat.mul_one]; omega
    rw [h1, ← List.drop_drop, ← List.drop_drop, ← Nat.add_assoc, passL_drop1 hw, passL_drop hw j f]
theorem RunsW.pass {w : Nat} (hw : 0 < w) {l : List α} (tr : ∀ a b c, le a b = true → le b c = true → le a c = true) (tot : ∀ a b, (le a b || le b a) = true) (h : RunsW le w l) : RunsW le (2 * w) (passL le w l.length l) := by
  intro j
  by_cases hj : l.length ≤ 2 * w * j
  · rw [List.drop_eq_nil_of_le (by rw [passL_len hw]; exact hj)]; simp
  · have hjl : j + 1 ≤ l.length := by
      have : 1 * j ≤ 2 * w * j := Nat.mul_le_mul_right j (by omega)
      omega
    obtain ⟨f, hf⟩ : ∃ f, l.length = f + 1 + j := ⟨l.length - 1 - j, by omega⟩
    rw [hf, passL_drop hw j (f + 1), passL_take1 hw]
    refine List.pairwise_merge tr tot _ _ ?_ ?_
    · have := h (2 * j)
      rw [show w * (2 * j) = 2 * w * j by rw [← Nat.mul_assoc, Nat.mul_comm w 2]] at this
      exact this
    · have := h (2 * j + 1)
      rw [show w * (2 * j + 1) = 2 * w * j + w by rw [Nat.mul_add, ← Nat.mul_assoc, Nat.mul_comm w 2, Nat.mul_one]] at this
      rw [List.drop_drop]; exact this
theorem RunsW.one (l : List α) : RunsW le 1 l := by
  intro j
  match h : (l.drop (1 * j)).take 1 with
  | [] => exact .nil
  | [a] => simp
  | a :: b :: m =>
    have := congrArg List.length h
    simp at this
    omega
theorem msL_sorted (tr : ∀ a b c, le a b = true → le b c = true → le a c = true) (tot : ∀ a b, (le a b || le b a) = true) : ∀ f w (l : List α), 0 < w → l.length ≤ w + f → RunsW le w l → (msL le f w l).Perm l ∧ (msL le f w l).Pairwise fun a b => le a b = true
  | 0, w, l, hw, hf, hr => by
    refine ⟨.refl _, ?_⟩
    have := hr 0
    rw [Nat.mul_zero, List.drop_zero, List.take_of_length_le (by omega)] at this
    exact this
  | f + 1, w, l, hw, hf, hr => by
    unfold msL
    split
    · have h1 := msL_sorted tr tot f (2 * w) (passL le w l.length l) (by omega) (by rw [passL_len hw]; omega) (hr.pass hw tr tot)
      exact ⟨h1.1.trans (passL_perm hw _ _), h1.2⟩
    · refine ⟨.refl _, ?_⟩
      have := hr 0
      rw [Nat.mul_zero, List.drop_zero, List.take_of_length_le (by omega)] at this
      exact this
end
end Go.Proofs.YgvafwGreat
