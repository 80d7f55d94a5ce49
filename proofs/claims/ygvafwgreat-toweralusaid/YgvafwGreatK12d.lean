import Derived.Test.YgvafwGreatK11
import Derived.Test.YgvafwGreatP3
set_option maxRecDepth 100000
set_option maxHeartbeats 4000000
set_option linter.unusedVariables false
set_option linter.unusedSimpArgs false
namespace Go.Proofs.YgvafwGreat
open Go.HL Go.Proofs

/-- The length of the padded bits. -/
def padT (n : Nat) : Nat := 1088 * ((8 * n + 1) / 1088 + 1)
/-- The padded bits. -/
def bitsN (ds : List Nat) (i : Nat) : Bool :=
  if i < 8 * ds.length then decide (ds.getD (i / 8) 0 / 2 ^ (i % 8) % 2 = 1) else decide (i = 8 * ds.length) || decide (i + 1 = padT ds.length)
/-- The state once n bits are taken in. -/
def spB (A : Nat → Bool) : Nat → Nat → Bool
  | 0 => fun _ => false
  | n + 1 => if n % 1088 = 1087 then kFB (fun j => if j = n % 1088 then spB A n j != A n else spB A n j) else fun j => if j = n % 1088 then spB A n j != A n else spB A n j
/-- Byte j of a state, its first k bits. -/
def bytB (s : Nat → Bool) (j : Nat) : Nat → Nat
  | 0 => 0
  | k + 1 => bytB s j k + if s (8 * j + k) then 2 ^ k else 0
theorem bytB_lt (s : Nat → Bool) (j : Nat) : ∀ k, bytB s j k < 2 ^ k
  | 0 => by simp [bytB]
  | k + 1 => by
    have := bytB_lt s j k
    unfold bytB
    rw [Nat.pow_succ]
    split <;> omega
/-- The hash of the specification. -/
def kecN (ds : List Nat) : List Nat := (List.range 32).map fun j => bytB (spB (bitsN ds) (padT ds.length)) j 8
theorem kecN_len (ds : List Nat) : (kecN ds).length = 32 := by simp [kecN]
theorem kecN_b8 (ds : List Nat) : ∀ d ∈ kecN ds, d < 256 := by
  intro d hd
  obtain ⟨j, _, rfl⟩ := List.mem_map.1 hd
  exact bytB_lt _ _ 8

/-! ### The two sponges are one, with no Go in sight -/
def CorS (s : Nat → Bool) (a : Nat → Nat) : Prop := ∀ i, i < 1600 → s i = (a (i / 64)).testBit (i % 64)
theorem corS_F {s : Nat → Bool} {a : Nat → Nat} (ha : Lim25 a) (h : CorS s a) : CorS (kFB s) (perL a 24) := by
  have hc : Cor (fun k => s (linv k)) a := by
    intro x y z hx hy hz
    have e : linv (x * 320 + y * 64 + z) = 64 * (5 * y + x) + z := by unfold linv; omega
    show s (linv _) = _
    rw [e, h _ (by omega), show (64 * (5 * y + x) + z) / 64 = 5 * y + x by omega, show (64 * (5 * y + x) + z) % 64 = z by omega]
  obtain ⟨h1, _⟩ := cor_per ha hc 24 (Nat.le_refl _)
  intro i hi
  have := h1 (i / 64 % 5) (i / 320) (i % 64) (by omega) (by omega) (by omega)
  unfold kFB lfor
  rw [this, show 5 * (i / 320) + i / 64 % 5 = i / 64 by omega]
theorem sp_in (A : Nat → Bool) (m : Nat) : ∀ t, t < 1088 → ∀ j, spB A (1088 * m + t) j = (spB A (1088 * m) j != (decide (j < t) && A (1088 * m + j)))
  | 0, _, j => by simp
  | t + 1, ht, j => by
    have ih := sp_in A m t (by omega) j
    rw [show 1088 * m + (t + 1) = (1088 * m + t) + 1 by omega, spB, if_neg (by omega)]
    show (if j = (1088 * m + t) % 1088 then spB A (1088 * m + t) j != A (1088 * m + t) else spB A (1088 * m + t) j) = _
    rw [show (1088 * m + t) % 1088 = t by omega, ih]
    by_cases hj : j = t
    · subst hj; rw [if_pos rfl]; simp
    · rw [if_neg hj, show decide (j < t) = decide (j < t + 1) by rw [decide_eq_decide]; omega]
theorem sp_end (A : Nat → Bool) (m : Nat) : spB A (1088 * (m + 1)) = kFB (fun j => spB A (1088 * m) j != (decide (j < 1088) && A (1088 * m + j))) := by
  rw [show 1088 * (m + 1) = (1088 * m + 1087) + 1 by omega, spB, if_pos (by omega)]
  congr 1
  funext j
  rw [show (1088 * m + 1087) % 1088 = 1087 by omega, sp_in A m 1087 (by decide) j]
  by_cases hj : j = 1087
  · subst hj; rw [if_pos rfl]; simp
  · rw [if_neg hj, show decide (j < 1087) = decide (j < 1088) by rw [decide_eq_decide]; omega]
/-- A number from its bytes, the least first. -/
def leN : List Nat → Nat
  | [] => 0
  | d :: ds => d + 256 * leN ds
theorem leN_bit : ∀ (ds : List Nat), (∀ d ∈ ds, d < 256) → ∀ z, (leN ds).testBit z = (ds.getD (z / 8) 0).testBit (z % 8)
  | [], _, z => by simp [leN]
  | d :: ds, h, z => by
    have hd : d < 2 ^ 8 := h d List.mem_cons_self
    have := Nat.testBit_two_pow_mul_add (leN ds) hd z
    rw [leN, show d + 256 * leN ds = 2 ^ 8 * leN ds + d by omega, this]
    by_cases hz : z < 8
    · rw [if_pos hz, show z / 8 = 0 by omega, show z % 8 = z by omega]; rfl
    · rw [if_neg hz, leN_bit ds (fun x hx => h x (List.mem_cons_of_mem _ hx)), show z / 8 = (z - 8) / 8 + 1 by omega, show (z - 8) % 8 = z % 8 by omega]; rfl
theorem leN_lt : ∀ (ds : List Nat), (∀ d ∈ ds, d < 256) → leN ds < 2 ^ (8 * ds.length)
  | [], _ => by simp [leN]
  | d :: ds, h => by
    have hd : d < 256 := h d List.mem_cons_self
    have := leN_lt ds fun x hx => h x (List.mem_cons_of_mem _ hx)
    rw [leN, List.length_cons, Nat.mul_succ, Nat.pow_add]
    have : 256 * leN ds + 256 ≤ 256 * 2 ^ (8 * ds.length) := by omega
    omega
def laneP (p : Nat → Nat) (i : Nat) : Nat := leN ((List.range 8).map fun k => p (8 * i + k))
theorem lane8 {p : Nat → Nat} (hp : ∀ i, p i < 256) (i : Nat) : ∀ d ∈ (List.range 8).map fun k => p (8 * i + k), d < 256 := by
  intro d hd
  obtain ⟨k, _, rfl⟩ := List.mem_map.1 hd
  exact hp _
theorem laneP_lt {p : Nat → Nat} (hp : ∀ i, p i < 256) (i : Nat) : laneP p i < 2 ^ 64 := by
  have := leN_lt _ (lane8 hp i)
  rw [List.length_map, List.length_range] at this
  exact this
theorem laneP_bit {p : Nat → Nat} (hp : ∀ i, p i < 256) (i z : Nat) (hz : z < 64) : (laneP p i).testBit z = (p (8 * i + z / 8)).testBit (z % 8) := by
  unfold laneP
  rw [leN_bit _ (lane8 hp i), List.getD_eq_getElem?_getD, List.getElem?_map, List.getElem?_range (by omega)]; rfl
/-- A block taken in. -/
def absL (a p : Nat → Nat) : Nat → Nat := perL (fun i => if i < 17 then a i ^^^ laneP p i else a i) 24
/-- The padded bytes. -/
def padB (ds : List Nat) (i : Nat) : Nat := if i < ds.length then ds.getD i 0 else (if i = ds.length then 1 else 0) + (if i + 1 = 136 * (ds.length / 136 + 1) then 128 else 0)
theorem padB_lt {ds : List Nat} (h : ∀ d ∈ ds, d < 256) (i : Nat) : padB ds i < 256 := by
  unfold padB
  split
  · rename_i hi
    rw [List.getD_eq_getElem?_getD, List.getElem?_eq_getElem hi]; exact h _ (List.getElem_mem hi)
  · split <;> split <;> decide
def stL (ds : List Nat) : Nat → Nat → Nat
  | 0 => fun _ => 0
  | m + 1 => absL (stL ds m) fun i => padB ds (136 * m + i)
/-- The hash of the engine. -/
def kecL (ds : List Nat) : List Nat := (List.range 32).map fun j => stL ds (ds.length / 136 + 1) (j / 8) / 2 ^ (8 * (j % 8)) % 256
theorem padT_eq (n : Nat) : padT n = 1088 * (n / 136 + 1) := by unfold padT; omega
theorem lit_bit : ∀ k, k < 8 → Nat.testBit 0 k = false ∧ Nat.testBit 1 k = decide (k = 0) ∧ Nat.testBit 128 k = decide (k = 7) ∧ Nat.testBit 129 k = (decide (k = 0) || decide (k = 7)) := by decide
theorem bits_pad {ds : List Nat} (i : Nat) : bitsN ds i = (padB ds (i / 8)).testBit (i % 8) := by
  unfold bitsN padB
  by_cases h : i < 8 * ds.length
  · rw [if_pos h, if_pos (by omega), Nat.testBit_eq_decide_div_mod_eq]
  · rw [if_neg h, if_neg (by omega), padT_eq]
    obtain ⟨b0, b1, b2, b3⟩ := lit_bit (i % 8) (by omega)
    by_cases h1 : i / 8 = ds.length
    · rw [if_pos h1]
      by_cases h2 : i / 8 + 1 = 136 * (ds.length / 136 + 1)
      · rw [if_pos h2, show 1 + 128 = 129 from rfl, b3, show decide (i = 8 * ds.length) = decide (i % 8 = 0) by rw [decide_eq_decide]; omega, show decide (i + 1 = 1088 * (ds.length / 136 + 1)) = decide (i % 8 = 7) by rw [decide_eq_decide]; omega]
      · rw [if_neg h2, Nat.add_zero, b1, show decide (i = 8 * ds.length) = decide (i % 8 = 0) by rw [decide_eq_decide]; omega, decide_eq_false (p := i + 1 = 1088 * (ds.length / 136 + 1)) (by omega), Bool.or_false]
    · rw [if_neg h1]
      by_cases h2 : i / 8 + 1 = 136 * (ds.length / 136 + 1)
      · rw [if_pos h2, Nat.zero_add, b2, decide_eq_false (p := i = 8 * ds.length) (by omega), show decide (i + 1 = 1088 * (ds.length / 136 + 1)) = decide (i % 8 = 7) by rw [decide_eq_decide]; omega, Bool.false_or]
      · rw [if_neg h2, Nat.add_zero, b0, decide_eq_false (p := i = 8 * ds.length) (by omega), decide_eq_false (p := i + 1 = 1088 * (ds.length / 136 + 1)) (by omega), Bool.false_or]
theorem lim_abs {a p : Nat → Nat} (ha : Lim25 a) (hp : ∀ i, p i < 256) : Lim25 (fun i => if i < 17 then a i ^^^ laneP p i else a i) := by
  intro i
  show (if i < 17 then a i ^^^ laneP p i else a i) < 2 ^ 64
  split
  · exact Nat.xor_lt_two_pow (ha i) (laneP_lt hp i)
  · exact ha i
theorem lim_per {a : Nat → Nat} (ha : Lim25 a) : ∀ n, n ≤ 24 → Lim25 (perL a n)
  | 0, _ => ha
  | n + 1, hn => lim_rnd (lim_per ha n (by omega)) (by omega)
theorem lim_st {ds : List Nat} (h : ∀ d ∈ ds, d < 256) : ∀ m, Lim25 (stL ds m)
  | 0 => fun i => by show (0 : Nat) < 2 ^ 64; decide
  | m + 1 => lim_per (lim_abs (lim_st h m) fun i => padB_lt h _) 24 (Nat.le_refl _)
theorem cor_st {ds : List Nat} (h : ∀ d ∈ ds, d < 256) : ∀ m, CorS (spB (bitsN ds) (1088 * m)) (stL ds m)
  | 0 => fun i hi => by show false = Nat.testBit 0 _; simp
  | m + 1 => by
    have ih := cor_st h m
    rw [sp_end]
    have hp : ∀ i, padB ds (136 * m + i) < 256 := fun i => padB_lt h _
    refine corS_F (lim_abs (lim_st h m) hp) fun i hi => ?_
    show (spB (bitsN ds) (1088 * m) i != (decide (i < 1088) && bitsN ds (1088 * m + i))) = (if i / 64 < 17 then stL ds m (i / 64) ^^^ laneP (fun i => padB ds (136 * m + i)) (i / 64) else stL ds m (i / 64)).testBit (i % 64)
    rw [ih i hi]
    by_cases hlt : i < 1088
    · rw [if_pos (by omega), Nat.testBit_xor, laneP_bit hp _ _ (by omega), bits_pad, decide_eq_true hlt, Bool.true_and, show (1088 * m + i) / 8 = 136 * m + (8 * (i / 64) + i % 64 / 8) by omega, show (1088 * m + i) % 8 = i % 64 % 8 by omega]
    · rw [if_neg (by omega), decide_eq_false hlt, Bool.false_and]; simp
theorem byt_eq {s : Nat → Bool} {j x : Nat} : ∀ k, (∀ i, i < k → s (8 * j + i) = x.testBit i) → bytB s j k = x % 2 ^ k
  | 0, _ => by simp [bytB, Nat.mod_one]
  | k + 1, h => by
    rw [bytB, byt_eq k fun i hi => h i (by omega), h k (by omega), Nat.mod_pow_succ, Nat.testBit_eq_decide_div_mod_eq]
    by_cases hb : x / 2 ^ k % 2 = 1
    · rw [if_pos (by simpa using hb), hb, Nat.mul_one]
    · rw [if_neg (by simpa using hb), show x / 2 ^ k % 2 = 0 by omega, Nat.mul_zero]
theorem kec_same {ds : List Nat} (h : ∀ d ∈ ds, d < 256) : kecN ds = kecL ds := by
  unfold kecN kecL
  refine List.map_congr_left fun j hj => ?_
  have hj : j < 32 := List.mem_range.1 hj
  rw [padT_eq]
  have hc := cor_st h (ds.length / 136 + 1)
  rw [byt_eq (x := stL ds (ds.length / 136 + 1) (j / 8) / 2 ^ (8 * (j % 8))) 8 fun i hi => ?_]
  rw [hc _ (by omega), Nat.testBit_div_two_pow, show (8 * j + i) / 64 = j / 8 by omega, show (8 * j + i) % 64 = i + 8 * (j % 8) by omega]
end Go.Proofs.YgvafwGreat
