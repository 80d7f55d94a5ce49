import Derived.KernelRfl
set_option linter.unusedVariables false
namespace Go.Proofs.YgvafwGreat

/-! ### Probing tables, with no Go in sight -/
theorem nodup_lt : ∀ (k : Nat) (l : List Nat), l.Nodup → (∀ x ∈ l, x < k) → l.length ≤ k
  | 0, l, _, h => by
    cases l with
    | nil => simp
    | cons a l => exact absurd (h a (by simp)) (by omega)
  | k + 1, l, hn, h => by
    by_cases hk : k ∈ l
    · have h1 := nodup_lt k (l.erase k) (hn.erase k) (fun x hx => by
        have := (hn.mem_erase_iff).1 hx
        have := h x this.2
        omega)
      rw [List.length_erase_of_mem hk] at h1
      omega
    · have h1 := nodup_lt k l hn (fun x hx => by
        have := h x hx
        have : x ≠ k := fun e => hk (e ▸ hx)
        omega)
      omega
theorem pigeon {n k : Nat} {f : Nat → Nat} (hf : ∀ p, p < n → f p < k) (hi : ∀ p q, p < n → q < n → f p = f q → p = q) : n ≤ k := by
  have h1 : ((List.range n).map f).Nodup := by
    rw [List.nodup_iff_pairwise_ne, List.pairwise_map]
    refine List.Pairwise.imp_of_mem ?_ (List.nodup_iff_pairwise_ne.1 List.nodup_range)
    intro a b ha hb hab he
    exact hab (hi a b (List.mem_range.1 ha) (List.mem_range.1 hb) he)
  have h2 := nodup_lt k _ h1 (fun x hx => by
    obtain ⟨p, hp, rfl⟩ := List.mem_map.1 hx
    exact hf p (List.mem_range.1 hp))
  simpa using h2
/-- The tables' law: n places, k entries, hm the home of entry i. -/
structure TabOk (n : Nat) (t : Nat → Int) (hm : Nat → Nat) (k : Nat) : Prop where
  rng : ∀ p, p < n → t p = -1 ∨ ∃ i : Nat, i < k ∧ t p = (i : Int)
  inj : ∀ p q, p < n → q < n → 0 ≤ t p → t p = t q → p = q
  fnd : ∀ i, i < k → ∃ d, d < n ∧ t ((hm i + d) % n) = (i : Int) ∧ ∀ e, e < d → 0 ≤ t ((hm i + e) % n)
/-- Probing, as the vault does it. -/
def look (t : Nat → Int) (ok : Nat → Bool) (n : Nat) : Nat → Nat → Int × Int
  | _, 0 => (-1, -1)
  | p, f + 1 => if t p < 0 then (-1, (p : Int)) else if ok (t p).toNat then (t p, -1) else look t ok n ((p + 1) % n) f
theorem nxt {n h d : Nat} : ((h + d) % n + 1) % n = (h + (d + 1)) % n := by
  rw [← Nat.add_assoc]; exact Nat.mod_add_mod (h + d) n 1
theorem TabOk.empty (n : Nat) (hm : Nat → Nat) : TabOk n (fun _ => -1) hm 0 :=
  ⟨fun _ _ => .inl rfl, fun _ _ _ _ h => absurd h (by decide), fun _ h => absurd h (by omega)⟩
/-- An entry that is there is found. -/
theorem look_yes {n k h i : Nat} {t : Nat → Int} {hm : Nat → Nat} {ok : Nat → Bool} (hT : TabOk n t hm k) (hi : i < k) (hh : hm i = h) (ho : ok i = true) (hu : ∀ j, j < k → ok j = true → j = i) :
    ∀ f d, d + f = n → (∀ e, e < d → 0 ≤ t ((h + e) % n) ∧ ok (t ((h + e) % n)).toNat = false) → look t ok n ((h + d) % n) f = ((i : Int), -1) := by
  obtain ⟨d0, hd0, ht0, hb0⟩ := hT.fnd i hi
  rw [hh] at ht0 hb0
  intro f
  induction f with
  | zero =>
    intro d hd hall
    have := (hall d0 (by omega)).2
    rw [ht0, Int.toNat_natCast, ho] at this
    cases this
  | succ f ih =>
    intro d hd hall
    have hlt : d ≤ d0 := by
      rcases Nat.lt_or_ge d0 d with hx | hx
      · have := (hall d0 hx).2
        rw [ht0, Int.toNat_natCast, ho] at this
        cases this
      · exact hx
    have hn : 0 < n := by omega
    have hnn : 0 ≤ t ((h + d) % n) := by
      rcases Nat.lt_or_ge d d0 with hx | hx
      · exact hb0 d hx
      · have : d = d0 := by omega
        rw [this, ht0]; omega
    unfold look
    rw [if_neg (by omega)]
    rcases hT.rng ((h + d) % n) (Nat.mod_lt _ hn) with hx | ⟨j, hj, hx⟩
    · omega
    · by_cases hok : ok (t ((h + d) % n)).toNat = true
      · rw [if_pos hok]
        rw [hx, Int.toNat_natCast] at hok
        rw [hx, hu j hj hok]
      · rw [if_neg hok, nxt]
        refine ih (d + 1) (by omega) fun e he => ?_
        rcases Nat.lt_or_ge e d with h1 | h1
        · exact hall e h1
        · have : e = d := by omega
          subst this
          exact ⟨hnn, by simpa using hok⟩
/-- A place to lay a new entry. -/
structure FreeAt (n : Nat) (t : Nat → Int) (h p : Nat) : Prop where
  lt : p < n
  em : t p = -1
  out : ∃ d, d < n ∧ p = (h + d) % n ∧ ∀ e, e < d → 0 ≤ t ((h + e) % n)
theorem look_no {n k h : Nat} {t : Nat → Int} {hm : Nat → Nat} {ok : Nat → Bool} (hT : TabOk n t hm k) (hk : k < n) (ho : ∀ j, j < k → ok j = false) :
    ∀ f d, d + f = n → (∀ e, e < d → 0 ≤ t ((h + e) % n)) → ∃ p, FreeAt n t h p ∧ look t ok n ((h + d) % n) f = (-1, (p : Int)) := by
  intro f
  induction f with
  | zero =>
    intro d hd hall
    exfalso
    have hall' : ∀ p, p < n → 0 ≤ t p := by
      intro p hp
      -- p = (h + e) % n for e = (p + n - h % n) % n
      have hh := Nat.mod_lt h (by omega : 0 < n)
      have he : (p + n - h % n) % n < n := Nat.mod_lt _ (by omega)
      have := hall ((p + n - h % n) % n) (by omega)
      rw [Nat.add_mod_mod] at this
      have h2 : (h + (p + n - h % n)) % n = p := by
        have h3 : h = n * (h / n) + h % n := (Nat.div_add_mod h n).symm
        have h4 : h + (p + n - h % n) = p + n * (h / n + 1) := by
          rw [Nat.mul_add, Nat.mul_one]; omega
        rw [h4, Nat.add_mul_mod_self_left, Nat.mod_eq_of_lt hp]
      rw [h2] at this
      exact this
    have := pigeon (n := n) (k := k) (f := fun p => (t p).toNat) (fun p hp => by
        have h1 := hall' p hp
        rcases hT.rng p hp with h2 | ⟨i, hi, h2⟩
        · omega
        · (try dsimp only); omega) (fun p q hp hq e => hT.inj p q hp hq (hall' p hp) (by
          have h1 := hall' p hp
          have h2 := hall' q hq
          try dsimp only at e
          omega))
    omega
  | succ f ih =>
    intro d hd hall
    have hn : 0 < n := by omega
    unfold look
    rcases hT.rng ((h + d) % n) (Nat.mod_lt _ hn) with hx | ⟨j, hj, hx⟩
    · rw [if_pos (by omega)]
      exact ⟨(h + d) % n, ⟨Nat.mod_lt _ hn, hx, d, by omega, rfl, hall⟩, rfl⟩
    · rw [if_neg (by omega), hx, Int.toNat_natCast, ho j hj, if_neg (by decide), nxt]
      refine ih (d + 1) (by omega) fun e he => ?_
      rcases Nat.lt_or_ge e d with h1 | h1
      · exact hall e h1
      · have : e = d := by omega
        subst this
        omega
/-- A new entry is laid. -/
theorem TabOk.add {n k h p : Nat} {t : Nat → Int} {hm hm' : Nat → Nat} (hT : TabOk n t hm k) (hF : FreeAt n t h p) (h1 : ∀ i, i < k → hm' i = hm i) (h2 : hm' k = h) : TabOk n (fun q => if q = p then (k : Int) else t q) hm' (k + 1) := by
  obtain ⟨hp, hem, d, hd, hpd, hall⟩ := hF
  refine ⟨fun q hq => ?_, fun q r hq hr h0 he => ?_, fun i hi => ?_⟩
  · (try dsimp only)
    split
    · exact .inr ⟨k, by omega, rfl⟩
    · rcases hT.rng q hq with hx | ⟨j, hj, hx⟩
      · exact .inl hx
      · exact .inr ⟨j, by omega, hx⟩
  · try dsimp only at h0 he
    by_cases e1 : q = p
    · rw [if_pos e1] at he
      by_cases e2 : r = p
      · rw [e1, e2]
      · rw [if_neg e2] at he
        rcases hT.rng r hr with hx | ⟨j, hj, hx⟩ <;> omega
    · rw [if_neg e1] at he h0
      by_cases e2 : r = p
      · rw [if_pos e2] at he
        rcases hT.rng q hq with hx | ⟨j, hj, hx⟩ <;> omega
      · rw [if_neg e2] at he
        exact hT.inj q r hq hr h0 he
  · rcases Nat.lt_or_ge i k with hik | hik
    · obtain ⟨d', hd', ht', hb'⟩ := hT.fnd i hik
      rw [h1 i hik]
      refine ⟨d', hd', ?_, fun e he => ?_⟩
      · (try dsimp only)
        rw [if_neg ?_]
        · exact ht'
        · intro e; rw [e, hem] at ht'; omega
      · (try dsimp only)
        split
        · omega
        · exact hb' e he
    · have : i = k := by omega
      subst this
      rw [h2]
      refine ⟨d, hd, ?_, fun e he => ?_⟩
      · (try dsimp only); rw [if_pos hpd.symm]
      · (try dsimp only)
        split
        · omega
        · exact hall e he
end Go.Proofs.YgvafwGreat
