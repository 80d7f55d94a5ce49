import Derived.Test.YgvafwGreatD10
set_option maxRecDepth 100000
set_option maxHeartbeats 4000000
set_option linter.unusedVariables false
set_option linter.unusedSimpArgs false
-- v2
-- v3
namespace Go.Proofs.YgvafwGreat
open Go.HL Go.Proofs

theorem lv_getD_zero : ∀ {L : List Nat}, lv L = 0 → ∀ i, L.getD i 0 = 0
  | [], _, i => by simp
  | d :: L, h, 0 => by simp only [lv] at h; simp; omega
  | d :: L, h, i + 1 => by
    simp only [lv] at h
    have := lv_getD_zero (L := L) (by omega) i
    simpa using this
theorem lv_drop_zero {L : List Nat} {k : Nat} (hk : k ≤ L.length) (h : lv L < 18446744073709551616 ^ k) : lv (L.drop k) = 0 := by
  rw [lv_split L k hk] at h
  rcases Nat.eq_zero_or_pos (lv (L.drop k)) with h0 | h0
  · exact h0
  · have := Nat.mul_le_mul_left (18446744073709551616 ^ k) h0
    omega
theorem lv_set_alg {d a b P g q : Nat} (ih : a + P * g = b + P * q) : d + 18446744073709551616 * a + P * 18446744073709551616 * g = d + 18446744073709551616 * b + P * 18446744073709551616 * q := by grind
theorem lv_set : ∀ (Q : List Nat) (j q : Nat), j < Q.length → lv (Q.set j q) + 18446744073709551616 ^ j * Q.getD j 0 = lv Q + 18446744073709551616 ^ j * q
  | [], j, q, h => by simp at h
  | d :: L, 0, q, h => by simp [lv]; omega
  | d :: L, j + 1, q, h => by
    have ih := lv_set L j q (by simpa using h)
    have e : (d :: L).getD (j + 1) 0 = L.getD j 0 := by simp
    rw [e, List.set_cons_succ, Nat.pow_succ]
    simp only [lv]
    exact lv_set_alg ih

/-- The long division's loop ahead of place j. -/
structure DI (A b j : Nat) (U Q : List Nat) : Prop where
  hU : Lim U
  hl : U.length = 9
  hQ : Lim Q
  hql : Q.length = 8
  zero : ∀ i, i < j → Q.getD i 0 = 0
  eq : lv Q * b + lv U = A
  lt : lv (U.drop j) < b

theorem DI.up {A b n j : Nat} {U Q : List Nat} (h : DI A b (j + 1) U Q) (hb : b < 18446744073709551616 ^ n) (hj : j + n ≤ 8) : lv (U.drop (j + (n + 1))) = 0 := by
  have := lv_drop_zero (L := U.drop (j + 1)) (k := n) (by have := h.hl; simp; omega) (Nat.lt_trans h.lt hb)
  rw [List.drop_drop] at this
  rw [show j + (n + 1) = j + 1 + n by omega]; exact this
theorem drop_cons' {U : List Nat} {j : Nat} (h : j < U.length) : U.drop j = U.getD j 0 :: U.drop (j + 1) := by
  rw [List.drop_eq_getElem_cons h, List.getD_eq_getElem?_getD, List.getElem?_eq_getElem h]; rfl
theorem lv_take_le (U : List Nat) (k : Nat) : lv (U.take k) ≤ lv U := by
  by_cases hk : k ≤ U.length
  · rw [lv_split U k hk]; omega
  · rw [List.take_of_length_le (by omega)]; exact Nat.le_refl _
theorem DI.low {A b n j : Nat} {U Q : List Nat} (h : DI A b (j + 1) U Q) (hj : j + n ≤ 8) : lv ((U.drop (j + 1)).take n) < b :=
  Nat.lt_of_le_of_lt (lv_take_le _ _) h.lt
theorem DI.seg {A b n j : Nat} {U Q : List Nat} (h : DI A b (j + 1) U Q) (hj : j + n ≤ 8) : lv ((U.drop j).take (n + 1)) < 18446744073709551616 * b := by
  have e : (U.drop j).take (n + 1) = U.getD j 0 :: (U.drop (j + 1)).take n := by
    rw [drop_cons' (by have := h.hl; omega), List.take_succ_cons]
  have h1 := getD_lim h.hU j
  have h2 := h.low hj
  rw [e]; simp only [lv]; omega
theorem di_alg {A b lq P q a r sg : Nat} (h : lq * b + (a + P * sg) = A) (e : b * q + r = sg) : (lq + P * q) * b + (a + P * r) = A := by
  subst e; grind
theorem DI.step {A b n j : Nat} {U Q R : List Nat} (h : DI A b (j + 1) U Q) (hb : b < 18446744073709551616 ^ n) (hb0 : 0 < b) (hn : 1 ≤ n) (hj : j + n ≤ 8) (lR : R.length = n + 1) (mR : Lim R) (eR : lv R = lv ((U.drop j).take (n + 1)) % b) :
    DI A b j (U.take j ++ R ++ U.drop (j + (n + 1))) (Q.set j (lv ((U.drop j).take (n + 1)) / b)) := by
  have hl := h.hl
  have hql := h.hql
  have z := h.up hb hj
  have sg := h.seg hj
  have hlt : (U.take j).length = j := by simp; omega
  have e1 : lv (U.take j ++ R ++ U.drop (j + (n + 1))) = lv (U.take j) + 18446744073709551616 ^ j * lv R := by
    rw [List.append_assoc, lv_append, lv_append, z, hlt, Nat.mul_zero, Nat.add_zero]
  have e2 : lv U = lv (U.take j) + 18446744073709551616 ^ j * lv ((U.drop j).take (n + 1)) := by
    rw [lv_split U j (by omega), lv_split (U.drop j) (n + 1) (by simp; omega), List.drop_drop, z, Nat.mul_zero, Nat.add_zero]
  have e3 := lv_set Q j (lv ((U.drop j).take (n + 1)) / b) (by omega)
  rw [h.zero j (by omega), Nat.mul_zero, Nat.add_zero] at e3
  refine ⟨?_, by rw [List.length_append, List.length_append, hlt, lR, List.length_drop]; omega, ?_, by simpa using hql, ?_, ?_, ?_⟩
  · intro d hd
    simp only [List.mem_append] at hd
    rcases hd with (hd | hd) | hd
    · exact h.hU d (List.mem_of_mem_take hd)
    · exact mR d hd
    · exact h.hU d (List.mem_of_mem_drop hd)
  · intro d hd
    rcases List.mem_or_eq_of_mem_set hd with hd | hd
    · exact h.hQ d hd
    · rw [hd]; exact Nat.div_lt_of_lt_mul (by rw [Nat.mul_comm]; exact sg)
  · intro i hi
    rw [List.getD_eq_getElem?_getD, List.getElem?_set_ne (by omega), ← List.getD_eq_getElem?_getD]
    exact h.zero i (by omega)
  · rw [e3, e1]
    have hq := h.eq
    rw [e2] at hq
    exact di_alg hq (by rw [eR]; exact Nat.div_add_mod _ _)
  · have e4 : (U.take j ++ R ++ U.drop (j + (n + 1))).drop j = R ++ U.drop (j + (n + 1)) := by
      rw [List.append_assoc, List.drop_append, hlt, Nat.sub_self, List.drop_of_length_le (by omega)]; rfl
    rw [e4, lv_append, z, Nat.mul_zero, Nat.add_zero, eR]
    exact Nat.mod_lt _ hb0
theorem DI.fin {X B p : Nat} {U Q : List Nat} (h : DI (X * p) (B * p) 0 U Q) (hp : 0 < p) (hB : 0 < B) : lv Q = X / B ∧ lv U / p = X % B := by
  have he := h.eq
  have hlt : lv U < B * p := h.lt
  have h1 : (lv Q * B) * p + lv U = X * p := by rw [Nat.mul_assoc]; exact he
  have h2 : lv Q * B ≤ X := Nat.le_of_mul_le_mul_right (by omega : lv Q * B * p ≤ X * p) hp
  have h3 : lv U = (X - lv Q * B) * p := by rw [Nat.sub_mul]; omega
  have h4 : X - lv Q * B < B := by rw [h3] at hlt; exact Nat.lt_of_mul_lt_mul_right hlt
  obtain ⟨r, hr⟩ : ∃ r, r = X - lv Q * B := ⟨_, rfl⟩
  rw [← hr] at h3 h4
  have h5 : X = B * lv Q + r := by rw [Nat.mul_comm]; omega
  rw [h5, h3, Nat.mul_div_cancel _ hp, Nat.mul_add_div hB, Nat.div_eq_of_lt h4, Nat.mul_add_mod, Nat.mod_eq_of_lt h4]
  exact ⟨rfl, rfl⟩

/-- The divisor's limbs, shifted up so that the top bit stands. -/
structure DN (V V' : List Nat) (n p : Nat) : Prop where
  hV : Lim V'
  hl : V'.length = 4
  val : lv V' = lv V * p
  lt : lv V * p < 18446744073709551616 ^ n
  ge : 18446744073709551616 ^ (n - 1) ≤ lv V
  top : 9223372036854775808 ≤ V'.getD (n - 1) 0

theorem pow_M_pos (n : Nat) : 0 < 18446744073709551616 ^ n := Nat.pow_pos (by decide)
theorem sh_cap {t s : Nat} (hs : s ≤ 63) (h : t * 2 ^ s < 18446744073709551616) : (t + 1) * 2 ^ s ≤ 18446744073709551616 := by
  have hM : (18446744073709551616 : Nat) = 2 ^ (64 - s) * 2 ^ s := by rw [← Nat.pow_add, show 64 - s + s = 64 by omega]
  rw [hM] at h ⊢
  exact Nat.mul_le_mul_right _ (Nat.lt_of_mul_lt_mul_right h)
theorem DN.make {V : List Nat} {n s : Nat} (hV : Lim V) (hl : V.length = 4) (hn : 1 ≤ n) (hn4 : n ≤ 4) (hz : ∀ i, n ≤ i → V.getD i 0 = 0) (hs : s ≤ 63) (h0 : 0 < V.getD (n - 1) 0)
    (h1 : V.getD (n - 1) 0 * 2 ^ s < 18446744073709551616) (h2 : 9223372036854775808 ≤ V.getD (n - 1) 0 * 2 ^ s) : DN V (shUp s 0 V) n (2 ^ s) := by
  have hp := Nat.two_pow_pos s
  obtain ⟨out, ho, hv, hL⟩ := shUp_val (s := s) (by omega) V 0 hp hV
  rw [hl, Nat.add_zero] at hv
  have hzd : lv (V.drop n) = 0 := lv_zero (by
    intro d hd
    obtain ⟨i, hi, e⟩ := List.getElem_of_mem hd
    have := hz (n + i) (by omega)
    rw [List.getElem_drop] at e
    rw [List.getD_eq_getElem?_getD, List.getElem?_eq_getElem (by simp at hi; omega)] at this
    rw [← e]; exact this)
  have e1 : lv V = lv (V.take (n - 1)) + 18446744073709551616 ^ (n - 1) * V.getD (n - 1) 0 := by
    have a := lv_split V n (by omega)
    have b := lv_take_succ V (n - 1) (by omega)
    rw [show n - 1 + 1 = n by omega] at b
    rw [a, hzd, b]; simp
  have hlow := lv_take_lt hV (k := n - 1) (by omega)
  have hP := pow_M_pos (n - 1)
  have hPn : 18446744073709551616 ^ n = 18446744073709551616 ^ (n - 1) * 18446744073709551616 := by
    have e : n = n - 1 + 1 := by omega
    conv => lhs; rw [e]
    exact Nat.pow_succ _ _
  have hge : 18446744073709551616 ^ (n - 1) ≤ lv V := by
    have := Nat.mul_le_mul_left (18446744073709551616 ^ (n - 1)) h0
    omega
  have hlt : lv V * 2 ^ s < 18446744073709551616 ^ n := by
    have a : lv V < 18446744073709551616 ^ (n - 1) * (V.getD (n - 1) 0 + 1) := by rw [Nat.mul_add]; omega
    have b := (Nat.mul_lt_mul_right hp).mpr a
    have c := Nat.mul_le_mul_left (18446744073709551616 ^ (n - 1)) (sh_cap hs h1)
    rw [← Nat.mul_assoc] at c
    omega
  have h4 : 18446744073709551616 ^ n ≤ 18446744073709551616 ^ 4 := Nat.pow_le_pow_right (by decide) hn4
  have hout : out = 0 := by
    rcases Nat.eq_zero_or_pos out with h | h
    · exact h
    · have := Nat.mul_le_mul_left (18446744073709551616 ^ 4) h
      omega
  rw [hout, Nat.mul_zero, Nat.add_zero] at hv
  have hl' : (shUp s 0 V).length = 4 := by rw [shUp_len, hl]
  refine ⟨hL, hl', hv, hlt, hge, ?_⟩
  have e2 : lv (shUp s 0 V) = lv ((shUp s 0 V).take (n - 1)) + 18446744073709551616 ^ (n - 1) * (shUp s 0 V).getD (n - 1) 0 := by
    have a := lv_split (shUp s 0 V) n (by omega)
    have b := lv_take_succ (shUp s 0 V) (n - 1) (by omega)
    rw [show n - 1 + 1 = n by omega] at b
    rw [a, lv_drop_zero (by omega) (by rw [hv]; exact hlt), b]; simp
  have hlow2 := lv_take_lt hL (k := n - 1) (by omega)
  have a : 18446744073709551616 ^ (n - 1) * (V.getD (n - 1) 0 * 2 ^ s) ≤ lv (shUp s 0 V) := by
    rw [hv, e1, Nat.add_mul, Nat.mul_assoc]; omega
  have b := Nat.le_trans (Nat.mul_le_mul_left (18446744073709551616 ^ (n - 1)) h2) a
  have c : lv (shUp s 0 V) < 18446744073709551616 ^ (n - 1) * ((shUp s 0 V).getD (n - 1) 0 + 1) := by rw [Nat.mul_add]; omega
  have d := Nat.lt_of_mul_lt_mul_left (Nat.lt_of_le_of_lt b c)
  omega
theorem DI.make {X V V' : List Nat} {n s top : Nat} (hX : Lim X) (hl : X.length = 8) (d : DN V V' n (2 ^ s)) (hs : s ≤ 63) (ht : top ≤ 8) (hn : 1 ≤ n) (hnt : n ≤ top) (hz : ∀ y ∈ X.drop top, y = 0) :
    DI (lv X * 2 ^ s) (lv V * 2 ^ s) (top - n + 1) (shUp s 0 (X ++ [0])) (List.replicate 8 0) := by
  have hp := Nat.two_pow_pos s
  have hL9 : Lim (X ++ [0]) := Lim.snoc hX (by decide)
  have e0 : lv (X ++ [0]) = lv X := by rw [lv_snoc]; simp
  obtain ⟨out, ho, hv, hL⟩ := shUp_val (s := s) (by omega) (X ++ [0]) 0 hp hL9
  have hXl : lv X < 18446744073709551616 ^ top := by
    rw [lv_split X top (by omega), lv_zero hz, Nat.mul_zero, Nat.add_zero]
    exact lv_take_lt hX (by omega)
  have h8 : lv X < 18446744073709551616 ^ 8 := by have := lv_lt hX; rwa [hl] at this
  have hsM : (2 : Nat) ^ s ≤ 18446744073709551616 := Nat.pow_le_pow_right (n := 2) (i := s) (j := 64) (by decide) (by omega)
  have e9 : (X ++ [0]).length = 9 := by simp [hl]
  rw [e9, e0, Nat.add_zero] at hv
  have h9 : lv X * 2 ^ s < 18446744073709551616 ^ 9 := Nat.lt_of_lt_of_le ((Nat.mul_lt_mul_right hp).mpr h8) (by rw [show (9 : Nat) = 8 + 1 from rfl, Nat.pow_succ]; exact Nat.mul_le_mul_left _ hsM)
  have hout : out = 0 := by
    rcases Nat.eq_zero_or_pos out with h | h
    · exact h
    · have := Nat.mul_le_mul_left (18446744073709551616 ^ 9) h
      omega
  rw [hout, Nat.mul_zero, Nat.add_zero] at hv
  refine ⟨hL, by rw [shUp_len, e9], ?_, by simp, ?_, ?_, ?_⟩
  · intro y hy; rw [List.eq_of_mem_replicate hy]; decide
  · intro i hi
    rw [List.getD_eq_getElem?_getD, List.getElem?_replicate]
    by_cases h : i < 8 <;> simp [h]
  · rw [show lv (List.replicate 8 0) = 0 from rfl, Nat.zero_mul, Nat.zero_add, hv]
  · have a := lv_split (shUp s 0 (X ++ [0])) (top - n + 1) (by rw [shUp_len, e9]; omega)
    rw [hv] at a
    have b := (Nat.mul_lt_mul_right hp).mpr hXl
    have c : 18446744073709551616 ^ top = 18446744073709551616 ^ (top - n + 1) * 18446744073709551616 ^ (n - 1) := by rw [← Nat.pow_add]; congr 1; omega
    have e : 18446744073709551616 ^ (top - n + 1) * lv ((shUp s 0 (X ++ [0])).drop (top - n + 1)) < 18446744073709551616 ^ (top - n + 1) * (18446744073709551616 ^ (n - 1) * 2 ^ s) := by rw [← Nat.mul_assoc, ← c]; omega
    exact Nat.lt_of_lt_of_le (Nat.lt_of_mul_lt_mul_left e) (Nat.mul_le_mul_right _ d.ge)
end Go.Proofs.YgvafwGreat
