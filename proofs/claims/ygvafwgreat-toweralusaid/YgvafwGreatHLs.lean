import Derived.Test.YgvafwGreatHLr
set_option linter.unusedVariables false
set_option linter.unusedSimpArgs false
namespace Go.HL
theorem CallG.conv {P : Program} {f : FuncId} {args : Array Value} {S : St} {K K' : Post} (h : CallG P f args S K) (hk : ∀ v S', Sub S.I S'.I → K v S' → Fin K' v S') : CallG P f args S K' := by
  refine ⟨fun F w hw => (h.run F w hw).mono ?_⟩
  rintro x w' ⟨v, S', hx, hh, hs, hk'⟩
  obtain ⟨D, Z, G, I', hp, hi, hk⟩ := (hk v S' hs hk').out
  have h1 := (hh.perm hp).freeze
  have h2 : Holds ⟨fun x => S'.I x ∨ x ∈ Z, G⟩ F w' := by
    have h3 : Holds ⟨fun x => S'.I x ∨ x ∈ Z, D ++ G⟩ F w' := h1.perm List.perm_append_comm
    exact Holds.drop (S := ⟨fun x => S'.I x ∨ x ∈ Z, []⟩) h3
  exact ⟨v, _, hx, h2.congrI fun x hx => (hi x).1 hx, fun x hx => (hi x).2 (.inl (hs x hx)), hk⟩

/-- A block of one's own that holds these bytes from its beginning on. -/
structure Ow (c : Nat → Value) (ds : List Nat) : Prop where
  get : ∀ i, i < ds.length → c i = .int .u8 (ds.getD i 0 : Nat)
theorem getD_set (ds : List Nat) (k d i : Nat) (hk : k < ds.length) : (ds.set k d).getD i 0 = if i = k then d else ds.getD i 0 := by
  simp only [List.getD_eq_getElem?_getD, List.getElem?_set]
  by_cases h : k = i
  · subst h; simp [hk]
  · simp [h, Ne.symm h]
theorem Ow.upd {c : Nat → Value} {ds : List Nat} (h : Ow c ds) {k d : Nat} (hk : k < ds.length) : Ow (HL.upd c k (.int .u8 (d : Nat))) (ds.set k d) := by
  refine ⟨fun i hi => ?_⟩
  simp only [List.length_set] at hi
  rw [getD_set ds k d i hk]
  simp only [HL.upd]
  split
  · rfl
  · exact h.get i hi
theorem Ow.zero {c : Nat → Value} (n : Nat) (h : ∀ i, i < n → c i = .int .u8 0) : Ow c (List.replicate n 0) := by
  refine ⟨fun i hi => ?_⟩
  simp only [List.length_replicate] at hi
  rw [h i hi]; simp [List.getD_eq_getElem?_getD, List.getElem?_replicate, hi]
theorem Ow.bs {b n : Nat} {T : TypeId} {c : Nat → Value} {ds : List Nat} (h : Ow c ds) (hn : ds.length ≤ n) : Bs ⟨b, n, T, c⟩ 0 ds :=
  ⟨by simpa using hn, fun i hi => by simpa using h.get i hi⟩
/-- A slice of one's own bytes, from the block's beginning. -/
theorem Byt.own {S : St} {x : Ent} {ds : List Nat} {cap : Nat} (hx : Rd S x) (h : Ow x.c ds) (hd : ∀ d ∈ ds, d < 256) (hl : ds.length < 2 ^ 47) (hn : ds.length ≤ x.sz) (hc : ds.length ≤ cap) (hc2 : cap < 2 ^ 63) : Byt S (sl x.b 0 ds.length cap) ds :=
  ⟨hd, hl, _, cap, rfl, hc, hc2, .inr ⟨x, 0, rfl, hx, by simpa using hn, fun i hi => by simpa using h.get i hi⟩⟩

theorem val_take_succ (l : List Nat) (k : Nat) : val (l.take (k + 1)) = val (l.take k) + 256 ^ k * l.getD k 0 := by
  by_cases h : k < l.length
  · rw [List.take_succ_eq_append_getElem h, val_append]
    have : (l.take k).length = k := by simp; omega
    rw [this]; simp [val, List.getD_eq_getElem?_getD, h]
  · rw [List.take_of_length_le (by omega), List.take_of_length_le (by omega)]
    simp [List.getD_eq_getElem?_getD, List.getElem?_eq_none (Nat.le_of_not_lt h)]
theorem val_take_all (l : List Nat) (k : Nat) (h : l.length ≤ k) : val (l.take k) = val l := by rw [List.take_of_length_le h]
theorem take_set_succ (l : List Nat) (k d : Nat) (h : k < l.length) : (l.set k d).take (k + 1) = l.take k ++ [d] := by
  rw [List.take_succ_eq_append_getElem (by simpa using h)]
  simp [List.take_set_of_le]
theorem val_set_succ (l : List Nat) (k d : Nat) (h : k < l.length) : val ((l.set k d).take (k + 1)) = val (l.take k) + 256 ^ k * d := by
  rw [take_set_succ l k d h, val_append]
  have : (l.take k).length = k := by simp; omega
  rw [this]; simp [val]
theorem mem_set_lt {l : List Nat} {k d : Nat} (h : ∀ x ∈ l, x < 256) (hd : d < 256) : ∀ x ∈ l.set k d, x < 256 := by
  intro x hx
  rcases List.mem_or_eq_of_mem_set hx with h' | h'
  · exact h x h'
  · omega
theorem getD_ge {l : List Nat} {i : Nat} (h : l.length ≤ i) : l.getD i 0 = 0 := by simp [List.getD_eq_getElem?_getD, List.getElem?_eq_none h]
theorem step_add (v c p x y d1 d2 : Nat) (h : v + c * p = x + y) : v + p * ((c + d1 + d2) % 256) + ((c + d1 + d2) / 256) * (p * 256) = (x + p * d1) + (y + p * d2) := by
  have := Nat.div_add_mod (c + d1 + d2) 256
  generalize (c + d1 + d2) / 256 = q at *
  generalize (c + d1 + d2) % 256 = r at *
  grind
end Go.HL
