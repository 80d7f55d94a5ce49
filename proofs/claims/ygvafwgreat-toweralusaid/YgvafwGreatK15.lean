import Derived.Test.YgvafwGreatK14
import Derived.Test.YgvafwGreatY21
set_option maxRecDepth 100000
set_option maxHeartbeats 4000000
set_option linter.unusedVariables false
set_option linter.unusedSimpArgs false
-- v2
-- v4
-- v5
-- v6
-- v7
namespace Go.Proofs.YgvafwGreat
open Go.HL Go.Proofs
theorem laneP_congr {p q : Nat → Nat} {i : Nat} (h : ∀ k, k < 8 → p (8 * i + k) = q (8 * i + k)) : laneP p i = laneP q i := by
  unfold laneP
  congr 1
  exact List.map_congr_left fun k hk => h k (List.mem_range.1 hk)
theorem absL_congr {a p q : Nat → Nat} (h : ∀ i, i < 136 → p i = q i) : absL a p = absL a q := by
  unfold absL
  congr 1
  funext i
  by_cases hi : i < 17
  · rw [if_pos hi, if_pos hi, laneP_congr fun k hk => h _ (by omega)]
  · rw [if_neg hi, if_neg hi]
theorem drop_take {ds : List Nat} {m i : Nat} (h : m + 136 ≤ ds.length) (hi : i < 136) : ((ds.drop m).take 136).getD i 0 = ds.getD (m + i) 0 := by
  rw [List.getD_eq_getElem?_getD, List.getElem?_take, if_pos hi, List.getElem?_drop, ← List.getD_eq_getElem?_getD]
theorem st_full {ds : List Nat} {m : Nat} (h : 136 * m + 136 ≤ ds.length) : stL ds (m + 1) = absL (stL ds m) fun i => ((ds.drop (136 * m)).take 136).getD i 0 := by
  rw [stL]
  refine absL_congr fun i hi => ?_
  rw [drop_take h hi, padB, if_pos (by omega)]
/-- The last block. -/
def lastP (ds : List Nat) : List Nat := (List.range 136).map fun i => padB ds (136 * (ds.length / 136) + i)
theorem lastP_len (ds : List Nat) : (lastP ds).length = 136 := by simp [lastP]
theorem lastP_get {ds : List Nat} {i : Nat} (hi : i < 136) : (lastP ds).getD i 0 = padB ds (136 * (ds.length / 136) + i) := by
  simp only [lastP, List.getD_eq_getElem?_getD, List.getElem?_map, List.getElem?_range hi]; rfl
theorem lastP_lt {ds : List Nat} (h : ∀ d ∈ ds, d < 256) : ∀ d ∈ lastP ds, d < 256 := by
  intro d hd
  obtain ⟨i, _, rfl⟩ := List.mem_map.1 hd
  exact padB_lt h _
theorem st_last (ds : List Nat) : stL ds (ds.length / 136 + 1) = absL (stL ds (ds.length / 136)) fun i => (lastP ds).getD i 0 := by
  rw [stL]
  exact absL_congr fun i hi => (lastP_get hi).symm
theorem last_bs {ds : List Nat} {lb om r k : Nat} {T : TypeId} {xc z : Nat → Value} (hr : r = ds.length - 136 * (ds.length / 136)) (hz : ∀ i, i < 136 → z i = .int .u8 ((0 : Nat) : Int)) (hx : ∀ i, i < r → xc (om + i) = .int .u8 (ds.getD (136 * (ds.length / 136) + i) 0 : Nat)) (hk : k = if r = 135 then 1 else 0) :
    Bs ⟨lb, 136, T, upd (upd (updN z 0 (cellsFrom xc om (mulS r 1))) (addS 0 (mulS r 1)) (.int .u8 ((1 : Nat) : Int))) (addS 0 (mulS 135 1)) (.int .u8 ((k ||| 128 : Nat) : Int))⟩ 0 (lastP ds) := by
  refine ⟨by rw [lastP_len]; exact Nat.le_refl _, fun i hi => ?_⟩
  rw [lastP_len] at hi
  rw [lastP_get hi, addS_mulS _ _ _ rfl, addS_mulS _ _ _ rfl, Nat.zero_add, Nat.zero_add, Nat.zero_add, updN_cellsFrom, mulS_eq, Nat.mul_one]
  show upd (upd _ r _) 135 _ i = _
  have hmod : r < 136 := by omega
  unfold padB
  by_cases h135 : i = 135
  · subst h135
    rw [updEqK]
    by_cases hr5 : r = 135
    · rw [if_pos hr5] at hk
      rw [if_neg (by omega), if_pos (by omega), if_pos (by omega), hk]; rfl
    · rw [if_neg hr5] at hk
      rw [if_neg (by omega), if_neg (by omega), if_pos (by omega), hk]; rfl
  · rw [updNeK h135]
    by_cases h1 : i = r
    · subst h1
      rw [updEqK, if_neg (by omega), if_pos (by omega), if_neg (by omega)]
    · rw [updNeK h1]
      by_cases h2 : i < r
      · rw [if_pos (by omega), if_pos (by omega), Nat.sub_zero, hx i h2]
      · rw [if_neg (by omega), if_neg (by omega), if_neg (by omega), if_neg (by omega), hz i hi]
theorem dig_get2 : ∀ (k n i : Nat) (h : i < (dig k n).length), (dig k n)[i] = n / 2 ^ (8 * i) % 256
  | 0, n, i, h => by simp [dig] at h
  | k + 1, n, 0, h => by simp [dig]
  | k + 1, n, i + 1, h => by
    have h' : i < (dig k (n / 256)).length := by simpa [dig] using h
    have := dig_get2 k (n / 256) i h'
    simp only [dig, List.getElem_cons_succ, this, Nat.div_div_eq_div_mul]
    rw [show 8 * (i + 1) = 8 + 8 * i by omega, Nat.pow_add]
theorem val_dig8 {x : Nat} (hx : x < 2 ^ 64) : val (dig 8 x) = x := by
  simp only [dig, val]; omega
theorem dig_lt : ∀ (k n : Nat), ∀ d ∈ dig k n, d < 256
  | 0, n, d, h => by simp [dig] at h
  | k + 1, n, d, h => by
    rcases List.mem_cons.1 h with rfl | h
    · omega
    · exact dig_lt k _ d h
theorem be8_trn {x : Nat} (hx : x < 2 ^ 64) : be8 (trnN x) = (List.range 8).map fun k => x / 2 ^ (8 * k) % 256 := by
  have h1 : bev ((dig 8 x).reverse) = x := by unfold bev; rw [List.reverse_reverse, val_dig8 hx]
  have h8 : ∀ d ∈ (dig 8 x).reverse, d < 256 := fun d hd => dig_lt 8 x d (List.mem_reverse.1 hd)
  have hl : (dig 8 x).reverse.length = 8 := by rw [List.length_reverse, dig_len]
  have h2 := trn_bev h8 hl
  rw [h1, leN_val] at h2
  rw [be8_dig _ (trnN_lt), h2]
  have h3 := dig_val _ h8
  rw [hl] at h3
  rw [h3, List.reverse_reverse]
  apply List.ext_getElem
  · rw [dig_len]; simp
  · intro i a b
    rw [dig_get2]
    simp
/-- The hash, its first i groups. -/
def kecF (ds : List Nat) (i : Nat) : List Nat := (List.range 32).map fun j => if j < 8 * i then stL ds (ds.length / 136 + 1) (j / 8) / 2 ^ (8 * (j % 8)) % 256 else 0
theorem kecF_len (ds : List Nat) (i : Nat) : (kecF ds i).length = 32 := by simp [kecF]
theorem kecF_end (ds : List Nat) : kecF ds 4 = kecL ds := by
  unfold kecF kecL
  exact List.map_congr_left fun j hj => by rw [if_pos (by have := List.mem_range.1 hj; omega)]
theorem kecF_get {ds : List Nat} {i p : Nat} (hp : p < 32) : (ivs .u8 (kecF ds i)).getD p undef = .int .u8 ((if p < 8 * i then stL ds (ds.length / 136 + 1) (p / 8) / 2 ^ (8 * (p % 8)) % 256 else 0 : Nat) : Int) := by
  simp only [ivs, kecF, List.getD_eq_getElem?_getD, List.getElem?_map, List.getElem?_range hp]; rfl
theorem kecF_step {ds : List Nat} {i : Nat} {z : Nat → Value} (hi : i < 4) (hx : stL ds (ds.length / 136 + 1) i < 2 ^ 64) : updN (updN z 0 (ivs .u8 (kecF ds i))) (8 * i) (bvs (be8 (trnN (stL ds (ds.length / 136 + 1) i)))) = updN z 0 (ivs .u8 (kecF ds (i + 1))) := by
  rw [be8_trn hx]
  funext p
  have l1 : (ivs .u8 (kecF ds i)).length = 32 := by rw [ivs, List.length_map, kecF_len]
  have l2 : (ivs .u8 (kecF ds (i + 1))).length = 32 := by rw [ivs, List.length_map, kecF_len]
  unfold updN
  rw [l1, l2]
  simp only [bvs_len, List.length_map, List.length_range]
  by_cases hp : p < 32
  · rw [if_pos (by omega : 0 ≤ p ∧ p < 0 + 32), if_pos (by omega : 0 ≤ p ∧ p < 0 + 32), Nat.sub_zero, kecF_get hp, kecF_get hp]
    by_cases h1 : 8 * i ≤ p ∧ p < 8 * i + 8
    · rw [if_pos h1, if_pos (by omega)]
      simp only [bvs, List.map_map, List.getD_eq_getElem?_getD, List.getElem?_map, List.getElem?_range (show p - 8 * i < 8 by omega)]
      rw [show p / 8 = i by omega, show p % 8 = p - 8 * i by omega]; rfl
    · rw [if_neg h1]
      by_cases h2 : p < 8 * i
      · rw [if_pos h2, if_pos (by omega)]
      · rw [if_neg h2, if_neg (by omega)]
  · rw [if_neg (by omega), if_neg (by omega), if_neg (by omega)]
end Go.Proofs.YgvafwGreat
