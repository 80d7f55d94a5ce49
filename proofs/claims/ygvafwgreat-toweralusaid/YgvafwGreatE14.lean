import Derived.Test.YgvafwGreatE13
import Derived.Test.YgvafwGreatS1
set_option exponentiation.threshold 1000
set_option maxRecDepth 100000
set_option maxHeartbeats 4000000
set_option linter.unusedVariables false
set_option linter.unusedSimpArgs false
-- v2
namespace Go.Proofs.YgvafwGreat
open Go.HL Go.Proofs
theorem argN_some {s : List Nat} {i : Nat} (h : i < s.length) : argN s i = s.getD (s.length - 1 - i) 0 := by
  unfold argN; rw [if_pos h]
theorem midN_get (s : List Nat) : ∀ k j, j < k → (midN s k)[j]? = some (argN s (k - j))
  | 0, j, h => by omega
  | k + 1, 0, h => by rw [midN]; rfl
  | k + 1, j + 1, h => by rw [midN, List.getElem?_cons_succ, midN_get s k j (by omega)]; congr 2; omega
/-- SWAP by places and SWAP by lists. -/
theorem swap_law {s : List Nat} {t : Nat} (h2 : 2 ≤ t) (ht : t ≤ s.length) : swapL s (s.length - 1) (s.length - t) = swN s t := by
  unfold swapL swN
  have hl : (s.take (s.length - t)).length = s.length - t := by rw [List.length_take]; omega
  apply List.ext_getElem?
  intro i
  by_cases h : i < s.length - t
  · rw [List.getElem?_append_left (by omega), List.getElem?_set_ne (by omega), List.getElem?_set_ne (by omega), List.getElem?_take, if_pos h]
  rw [List.getElem?_append_right (by omega), hl]
  by_cases h0 : i = s.length - t
  · subst h0
    rw [List.getElem?_set_self (by rw [List.length_set]; omega), Nat.sub_self, argN_some (by omega)]
    rfl
  rw [List.getElem?_set_ne (by omega), List.getElem?_append_right (by simp only [List.length_cons, List.length_nil]; omega)]
  simp only [List.length_cons, List.length_nil]
  by_cases h1 : i < s.length - 1
  · rw [List.getElem?_set_ne (by omega), List.getElem?_append_left (by rw [midN_len]; omega), midN_get _ _ _ (by omega), argN_some (by omega)]
    rw [List.getD_eq_getElem?_getD, List.getElem?_eq_getElem (by omega), List.getElem?_eq_getElem (by omega)]
    simp only [Option.getD_some]
    congr 2
    omega
  · rw [List.getElem?_append_right (by rw [midN_len]; omega), midN_len]
    by_cases h3 : i = s.length - 1
    · subst h3
      rw [List.getElem?_set_self (by omega), argN_some (by omega), show s.length - 1 - (s.length - t) - (0 + 1) - (t - 2) = 0 by omega]
      simp only [List.getElem?_cons_zero]
      congr 2
      omega
    · rw [List.getElem?_eq_none (by rw [List.length_set]; omega), List.getElem?_eq_none (by simp only [List.length_cons, List.length_nil]; omega)]
end Go.Proofs.YgvafwGreat
