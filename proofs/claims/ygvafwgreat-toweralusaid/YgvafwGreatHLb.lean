import Derived.Test.YgvafwGreatHLa
namespace Go.HL
/-! ### Memory -/
def Rd (S : St) (x : Ent) : Prop := S.I x ∨ x ∈ S.G
theorem Rd.own {S : St} {x : Ent} (i : Nat) (h : S.G[i]? = some x) : Rd S x := .inr (List.mem_of_getElem? h)
theorem Rd.imm {S : St} {x : Ent} (h : S.I x) : Rd S x := .inl h

def one : Value → Bool
  | .agg _ | .tuple _ => false
  | _ => true
def updN (c : Nat → Value) (o : Nat) (vs : List Value) : Nat → Value := fun i => if o ≤ i ∧ i < o + vs.length then vs.getD (i - o) undef else c i
def cellsFrom (c : Nat → Value) (o : Nat) : Nat → List Value
  | 0 => []
  | n + 1 => c o :: cellsFrom c (o + 1) n
@[simp] theorem cellsFrom_length (c : Nat → Value) (o n : Nat) : (cellsFrom c o n).length = n := by
  induction n generalizing o with
  | zero => rfl
  | succ n ih => simp [cellsFrom, ih]
theorem cellsFrom_get (c : Nat → Value) (o n i : Nat) (h : i < n) : (cellsFrom c o n)[i]? = some (c (o + i)) := by
  induction n generalizing o i with
  | zero => omega
  | succ n ih =>
    cases i with
    | zero => simp [cellsFrom]
    | succ i => simp only [cellsFrom, List.getElem?_cons_succ]; rw [ih (o + 1) i (by omega)]; congr 2; omega
theorem cellsFrom_getD (c : Nat → Value) (o n i : Nat) (h : i < n) : (cellsFrom c o n).getD i undef = c (o + i) := by
  rw [List.getD_eq_getElem?_getD, cellsFrom_get c o n i h]; rfl
theorem updN_cellsFrom (c c' : Nat → Value) (o o' n : Nat) : updN c o (cellsFrom c' o' n) = fun i => if o ≤ i ∧ i < o + n then c' (o' + (i - o)) else c i := by
  funext i
  simp only [updN, cellsFrom_length]
  split
  · rename_i h; exact cellsFrom_getD c' o' n (i - o) (by omega)
  · rfl
theorem cellsFrom_congr {c c' : Nat → Value} {o n : Nat} (h : ∀ i, o ≤ i → i < o + n → c i = c' i) : cellsFrom c o n = cellsFrom c' o n := by
  induction n generalizing o with
  | zero => rfl
  | succ n ih => simp only [cellsFrom]; rw [h o (by omega) (by omega), ih (fun i h1 h2 => h i (by omega) (by omega))]

section
variable {S : St} {F : Fr} {w : World} {P : Program}

theorem Holds.rd {w : World} (hh : Holds S F w) {x : Ent} (hx : Rd S x) : x.sees w.heap := hx.elim (hh.imm x) (fun hm => (hh.own x (by simp [hm])).sees)
theorem Ent.sees.cell {x : Ent} {w : World} (h : x.sees w.heap) {o : Nat} (ho : o < x.sz) : w.cell? ⟨x.b, o, none⟩ = some (x.c o) := by
  obtain ⟨arr, fz, h1, h2, h3⟩ := h
  simp [World.cell?, h1, h3 o ho]

theorem Ent.at.cell {x : Ent} {w : World} (h : x.at w.heap) {o : Nat} (ho : o < x.sz) : w.cell? ⟨x.b, o, none⟩ = some (x.c o) := by
  obtain ⟨arr, h1, h2, h3⟩ := h
  simp [World.cell?, h1, h3 o ho]
theorem Ent.at.frozen {x : Ent} {w : World} (h : x.at w.heap) (o : Nat) : w.frozen? ⟨x.b, o, none⟩ = false := by
  obtain ⟨arr, h1, h2, h3⟩ := h
  simp [World.frozen?, h1]
theorem Ent.at.shape {x : Ent} {w : World} (h : x.at w.heap) : w.shape? x.b = some (x.T, x.sz) := by
  obtain ⟨arr, h1, h2, h3⟩ := h
  simp [World.shape?, h1, h2]

theorem Ent.at.at_set_same {x : Ent} {w : World} (h : x.at w.heap) {o : Nat} {v : Value} : (Ent.mk x.b x.sz x.T (upd x.c o v)).at (w.setCell ⟨x.b, o, none⟩ v).heap := by
  obtain ⟨arr, h1, h2, h3⟩ := h
  refine ⟨arr.setIfInBounds o v, ?_, by simpa using h2, fun i hi => ?_⟩
  · have hlt : x.b < w.heap.size := by
      rcases Nat.lt_or_ge x.b w.heap.size with h | h
      · exact h
      · simp [Array.getElem?_eq_none h] at h1
    simp only [World.setCell]
    rw [Array.getElem?_modify]
    simp [h1]
  · simp only [upd]
    by_cases hio : i = o
    · subst hio; simp [h2, hi]
    · simp [hio, Array.getElem?_setIfInBounds_ne (Ne.symm hio)]; simpa using h3 i hi
theorem Ent.at.at_set_other {x : Ent} {w : World} (h : x.at w.heap) {b o : Nat} {v : Value} (hb : x.b ≠ b) : x.at (w.setCell ⟨b, o, none⟩ v).heap := by
  obtain ⟨arr, h1, h2, h3⟩ := h
  refine ⟨arr, ?_, h2, h3⟩
  simp only [World.setCell]
  rw [Array.getElem?_modify]
  simp [Ne.symm hb, h1]

theorem set_split {G : List Ent} {i : Nat} {x : Ent} (hi : G[i]? = some x) : ∃ A B, G = A ++ x :: B ∧ A.length = i := by
  refine ⟨G.take i, G.drop (i + 1), ?_, ?_⟩
  · have hlt : i < G.length := (List.getElem?_eq_some_iff.1 hi).1
    have hx : G[i] = x := (List.getElem?_eq_some_iff.1 hi).2
    rw [← hx]; simp
  · have hlt : i < G.length := (List.getElem?_eq_some_iff.1 hi).1
    simp; omega

theorem Ent.sees.at_set_other {x : Ent} {w : World} (h : x.sees w.heap) {b o : Nat} {v : Value} (hb : x.b ≠ b) : x.sees (w.setCell ⟨b, o, none⟩ v).heap := by
  obtain ⟨arr, fz, h1, h2⟩ := h
  refine ⟨arr, fz, ?_, h2⟩
  simp [World.setCell, Array.getElem?_modify, Ne.symm hb, h1]
theorem Holds.set (hh : Holds S F w) {i : Nat} {x : Ent} (hi : S.G[i]? = some x) {o : Nat} {v : Value} :
    Holds ⟨S.I, S.G.set i ⟨x.b, x.sz, x.T, upd x.c o v⟩⟩ F (w.setCell ⟨x.b, o, none⟩ v) := by
  obtain ⟨I, G⟩ := S
  obtain ⟨A, B, rfl, rfl⟩ := set_split hi
  obtain ⟨h1, h2, h3, h4, h5⟩ := hh
  simp only [List.append_assoc, List.cons_append] at h2 h3 h4 hi ⊢
  have hxat := h2 x (by simp)
  rw [List.pairwise_append] at h3
  obtain ⟨p1, p2, p3⟩ := h3
  rw [List.pairwise_cons] at p2
  simp only [List.set_append_right, Nat.le_refl, Nat.sub_self, List.set_cons_zero]
  refine ⟨fun y hy => (h1 y hy).at_set_other (h4 y hy x (by simp)), ?_, ?_, ?_, ?_⟩
  · intro y hy
    simp only [List.append_assoc, List.cons_append, List.mem_append, List.mem_cons] at hy
    rcases hy with hy | rfl | hy
    · exact (h2 y (by simp [hy])).at_set_other (p3 y hy x (by simp))
    · exact hxat.at_set_same
    · exact (h2 y (by simp [hy])).at_set_other (Ne.symm (p2.1 y (by simpa using hy)))
  · simp only [List.append_assoc, List.cons_append]
    rw [List.pairwise_append]
    refine ⟨p1, ?_, fun y hy z hz => ?_⟩
    · rw [List.pairwise_cons]; exact ⟨fun z hz => p2.1 z hz, p2.2⟩
    · rcases List.mem_cons.1 hz with rfl | hz
      · exact p3 y hy x (by simp)
      · exact p3 y hy z (by simp [hz])
  · intro y hy z hz
    simp only [List.append_assoc, List.cons_append, List.mem_append, List.mem_cons] at hz
    rcases hz with hz | rfl | hz
    · exact h4 y hy z (by simp [hz])
    · exact h4 y hy x (by simp)
    · exact h4 y hy z (by simp [hz])
  · have hb : F.B ≤ x.b := h5.high x (by simp)
    have hsz : (w.setCell ⟨x.b, o, none⟩ v).heap.size = w.heap.size := by
      simp only [World.setCell]; split <;> simp
    refine ⟨by rw [hsz]; exact h5.top, ⟨?_, by rw [hsz]; exact h5.base.2.1, fun k hk => ?_⟩, fun y hy => ?_⟩
    · have := h5.base.1
      exact this
    · rw [← h5.base.2.2 k hk]
      have hne : x.b ≠ k := by omega
      simp [World.setCell, Array.getElem?_modify, hne]
    · simp only [List.append_assoc, List.cons_append, List.mem_append, List.mem_cons] at hy
      rcases hy with hy | rfl | hy
      · exact h5.high y (by simp [hy])
      · exact hb
      · exact h5.high y (by simp [hy])

theorem Ent.at.lt {x : Ent} {h : Heap} (hx : x.at h) : x.b < h.size := by
  obtain ⟨arr, h1, _⟩ := hx
  rcases Nat.lt_or_ge x.b h.size with h | h
  · exact h
  · simp [Array.getElem?_eq_none h] at h1
theorem Ent.at.at_push {x : Ent} {h : Heap} (hx : x.at h) (o : Obj) : x.at (h.push o) := by
  have hl := hx.lt
  obtain ⟨arr, h1, h2⟩ := hx
  exact ⟨arr, by rw [Array.getElem?_push]; simp [Nat.ne_of_lt hl, h1], h2⟩

theorem Ent.sees.lt {x : Ent} {h : Heap} (hx : x.sees h) : x.b < h.size := by
  obtain ⟨arr, fz, h1, _⟩ := hx
  rcases Nat.lt_or_ge x.b h.size with h | h
  · exact h
  · simp [Array.getElem?_eq_none h] at h1
theorem Ent.sees.at_push {x : Ent} {h : Heap} (hx : x.sees h) (o : Obj) : x.sees (h.push o) := by
  have hl := hx.lt
  obtain ⟨arr, fz, h1, h2⟩ := hx
  exact ⟨arr, fz, by rw [Array.getElem?_push]; simp [Nat.ne_of_lt hl, h1], h2⟩
theorem Holds.push {w : World} (hh : Holds S F w) {arr : Array Value} {T : TypeId} {c : Nat → Value} (hc : ∀ i, i < arr.size → arr[i]? = some (c i)) :
    Holds ⟨S.I, ⟨w.heap.size, arr.size, T, c⟩ :: S.G⟩ F { w with heap := w.heap.push (.cells arr T) } := by
  obtain ⟨h1, h2, h3, h4, h5⟩ := hh
  refine ⟨fun y hy => (h1 y hy).at_push _, ?_, ?_, ?_, ?_⟩
  · intro y hy
    simp only [List.cons_append, List.mem_cons] at hy
    rcases hy with rfl | hy
    · exact ⟨arr, by simp, rfl, hc⟩
    · exact (h2 y hy).at_push _
  · simp only [List.cons_append]
    rw [List.pairwise_cons]
    exact ⟨fun y hy => Nat.ne_of_gt (h2 y hy).lt, h3⟩
  · intro y hy z hz
    simp only [List.cons_append, List.mem_cons] at hz
    rcases hz with rfl | hz
    · exact Nat.ne_of_lt (h1 y hy).lt
    · exact h4 y hy z hz
  · refine ⟨?_, ⟨h5.base.1, ?_, fun k hk => ?_⟩, fun y hy => ?_⟩
    · have := h5.top; simp only [Array.size_push]; omega
    · have := h5.base.2.1; simp only [Array.size_push]; omega
    · rw [← h5.base.2.2 k hk, Array.getElem?_push]
      have := h5.top
      rw [if_neg (by omega)]
    · simp only [List.cons_append, List.mem_cons] at hy
      rcases hy with rfl | hy
      · exact h5.top
      · exact h5.high y hy
theorem Holds.drew {w w' : World} (hh : Holds S F w) (h1 : w'.heap = w.heap) (h2 : w'.os = w.os) (h3 : w'.tape = w.tape) (h4 : w'.output = w.output) : Holds S F w' := by
  obtain ⟨a, b, c, d, e⟩ := hh
  refine ⟨fun x hx => by rw [h1]; exact a x hx, fun x hx => by rw [h1]; exact b x hx, c, d, by rw [h1]; exact e.top, ⟨by rw [h2, h3, h4]; exact e.base.1, by rw [h1]; exact e.base.2.1, fun k hk => by rw [h1]; exact e.base.2.2 k hk⟩, e.high⟩

theorem loadCellsFrom_run {x : Ent} (hx : x.sees w.heap) : ∀ (n i : Nat) (o : Nat) (acc : Array Value), o + i + n ≤ x.sz →
    (loadCellsFrom ⟨x.b, o, none⟩ i n acc).run P w = .ok (acc ++ (cellsFrom x.c (o + i) n).toArray) w := by
  intro n
  induction n with
  | zero => intro i o acc _; simp [loadCellsFrom, cellsFrom, pure]
  | succ n ih =>
    intro i o acc hle
    have hcell : w.cell? (Addr.add ⟨x.b, o, none⟩ i) = some (x.c (o + i)) := by
      have := Ent.sees.cell hx (o := o + i) (by omega)
      unfold Addr.add
      split
      · rename_i h; subst h; simpa using this
      · simpa using this
    simp only [loadCellsFrom, load, bind, Sem.bind, Sem.run, hcell]
    rw [ih (i + 1) o _ (by omega)]
    simp [cellsFrom, Nat.add_assoc]

theorem loadCells_run {x : Ent} (hx : x.sees w.heap) (n o : Nat) (hle : o + n ≤ x.sz) :
    (loadCells ⟨x.b, o, none⟩ n).run P w = .ok (cellsFrom x.c o n).toArray w := by
  unfold loadCells
  rw [loadCellsFrom_run hx n 0 o #[] (by omega)]
  simp

theorem upd_updN (c : Nat → Value) (o i : Nat) (v : Value) (vs : List Value) : updN (upd c (o + i) v) (o + (i + 1)) vs = updN c (o + i) (v :: vs) := by
  funext k
  simp only [updN, upd, List.length_cons]
  by_cases h1 : k = o + i
  · subst h1
    rw [if_neg (by omega), if_pos rfl, if_pos (by omega)]; simp
  · by_cases h2 : o + (i + 1) ≤ k ∧ k < o + (i + 1) + vs.length
    · have e2 : (o + i ≤ k ∧ k < o + i + (vs.length + 1)) := by omega
      rw [if_pos h2, if_pos e2]
      have : k - (o + i) = (k - (o + (i + 1))) + 1 := by omega
      rw [this]; simp
    · have e2 : ¬ (o + i ≤ k ∧ k < o + i + (vs.length + 1)) := by omega
      rw [if_neg h2, if_neg e2, if_neg h1]

theorem updN_nil (c : Nat → Value) (o : Nat) : updN c o [] = c := by
  funext i; simp only [updN, List.length_nil]; rw [if_neg (by omega)]

theorem storeCells_run : ∀ (vs : List Value) (i : Nat) (w : World) (S : St) (x : Ent) (k o : Nat), Holds S F w → S.G[k]? = some x → o + i + vs.length ≤ x.sz → (∀ v ∈ vs, one v = true) →
    ∃ w', (storeCells ⟨x.b, o, none⟩ vs i).run P w = .ok () w' ∧ Holds ⟨S.I, S.G.set k ⟨x.b, x.sz, x.T, updN x.c (o + i) vs⟩⟩ F w' := by
  intro vs
  induction vs with
  | nil =>
    intro i w S x k o hh hk _ _
    refine ⟨w, by simp [storeCells, pure], ?_⟩
    rw [updN_nil]
    have : S.G.set k ⟨x.b, x.sz, x.T, x.c⟩ = S.G := by
      obtain ⟨hlt, hx⟩ := List.getElem?_eq_some_iff.1 hk
      rw [← hx]; exact List.set_getElem_self hlt
    rw [this]; exact hh
  | cons v vs ih =>
    intro i w S x k o hh hk hle hv
    have hxat : x.at w.heap := hh.own x (List.mem_append_left _ (List.mem_of_getElem? hk))
    have hadd : Addr.add ⟨x.b, o, none⟩ i = ⟨x.b, o + i, none⟩ := by
      unfold Addr.add; split
      · rename_i h; simp [h]
      · rfl
    have hcell : w.cell? ⟨x.b, o + i, none⟩ = some (x.c (o + i)) := Ent.at.cell hxat (by simp at hle; omega)
    have hfr := Ent.at.frozen hxat (o + i)
    have h1 := hv v (by simp)
    simp only [List.length_cons] at hle
    obtain ⟨w', hrun, hh'⟩ := ih (i + 1) (w.setCell ⟨x.b, o + i, none⟩ v) _ ⟨x.b, x.sz, x.T, upd x.c (o + i) v⟩ k o (hh.set hk (o := o + i) (v := v)) (by
      obtain ⟨hlt, _⟩ := List.getElem?_eq_some_iff.1 hk
      simp [hlt]) (by simp; omega) (fun u hu => hv u (by simp [hu]))
    refine ⟨w', ?_, ?_⟩
    · simp only [storeCells, store, hadd, bind, Sem.bind]
      have hs : ∀ k : Sem Unit, (Sem.store .plain ⟨x.b, o + i, none⟩ v k).run P w = k.run P (w.setCell ⟨x.b, o + i, none⟩ v) := by
        intro k
        cases v <;> first
          | (simp [one] at h1; done)
          | simp [Sem.run, hcell, hfr]
      rw [hs]; exact hrun
    · simpa [upd_updN, Nat.add_assoc] using hh'
end
end Go.HL
