import Derived.Test.YgvafwGreatHT
set_option maxRecDepth 100000
set_option linter.unusedVariables false
set_option linter.unusedSimpArgs false
namespace Go.HL
open Go.Proofs
section
variable {C : Cfg} {e : Env} {S : St} {ty : TypeId} {q : Value → Prop} {t : TypeId} {a : Operand} {ti : TI} {b b' o o' n sz i p k : Nat} {T : TypeId} {c : Nat → Value} {vss : List (List Value)} {u : Value} {l : List Value}
theorem Els.cell {x : Ent} (h : Els x o k vss) (hi : i < vss.length) (hp : p < k) : x.c (o + i * k + p) = (vss.getD i []).getD p undef ∧ o + i * k + p < x.sz := by
  obtain ⟨h1, h2, h3⟩ := h.at hi
  exact ⟨h1.get p (by omega), by omega⟩
/-- A field of one cell of element i is read. -/
theorem QuG.elF (hC : C.Ok) {x : Ent} (hr : Els x o k vss) (hx : Rd S x) (hD : C.D t = some ti) (hk : isAggK ti = false) (ha : ev e a = ptr b' o') (hb : x.b = b') (hoo : o' = o + i * k + p) (hi : i < vss.length) (hp : p < k) (hv : (vss.getD i []).getD p undef = u) (h : q u) : QuG C.P (.load t a) ty e S q := by
  obtain ⟨h1, h2⟩ := hr.cell hi hp
  subst hoo
  exact QuG.ld hC hx hD hk ha hb h2 h1 (by rw [hv]; exact h)
/-- A field of many cells of element i is read. -/
theorem QuG.elS (hC : C.Ok) {x : Ent} (hr : Els x o k vss) (hx : Rd S x) (hD : C.D t = some ti) (hk : isAggK ti = true) (ha : ev e a = ptr b' o') (hb : x.b = b') (hoo : o' = o + i * k + p) (hi : i < vss.length) (hp : p + ti.size ≤ k) (hl : ((vss.getD i []).drop p).take ti.size = l) (h : q (.agg l.toArray)) : QuG C.P (.load t a) ty e S q := by
  obtain ⟨h1, h2, h3⟩ := hr.at hi
  have hll : l.length = ti.size := by rw [← hl, List.length_take, List.length_drop]; omega
  refine QuG.rowE hC (o := o + i * k + p) (vs := l) ⟨fun j hj => ?_⟩ hx hD hk ha hb hoo hll (by omega) h
  have := h1.get (p + j) (by omega)
  rw [show o + i * k + p + j = o + i * k + (p + j) by omega, this, ← hl]
  generalize vss.getD i [] = m
  simp only [List.getD_eq_getElem?_getD]
  rw [List.getElem?_take, if_pos (by omega), List.getElem?_drop]
theorem getD_set_eq {α : Type} {l : List α} {i : Nat} {x d : α} (h : i < l.length) : (l.set i x).getD i d = x := by
  rw [List.getD_eq_getElem?_getD, List.getElem?_set_self h]; rfl
theorem getD_set_ne {α : Type} {l : List α} {i j : Nat} {x d : α} (h : i ≠ j) : (l.set i x).getD j d = l.getD j d := by
  rw [List.getD_eq_getElem?_getD, List.getElem?_set_ne h, ← List.getD_eq_getElem?_getD]
theorem Els.of_get {x : Ent} (hl : ∀ l ∈ vss, l.length = k) (hf : o + vss.length * k ≤ x.sz) (h : ∀ i, i < vss.length → ∀ p, p < k → x.c (o + i * k + p) = (vss.getD i []).getD p undef) : Els x o k vss := by
  refine ⟨hl, ⟨fun j hj => ?_⟩, hf⟩
  rw [flat_len hl] at hj
  have hk0 : 0 < k := by
    rcases Nat.eq_zero_or_pos k with h0 | h0
    · rw [h0] at hj; simp at hj
    · exact h0
  have hi : j / k < vss.length := Nat.div_lt_of_lt_mul (by rw [Nat.mul_comm]; exact hj)
  have hp : j % k < k := Nat.mod_lt _ hk0
  have e1 : j / k * k + j % k = j := by rw [Nat.mul_comm]; exact Nat.div_add_mod j k
  have := h (j / k) hi (j % k) hp
  rw [Nat.add_assoc, e1] at this
  rw [this, List.getD_eq_getElem?_getD (l := vss.flatten), ← e1, flat_get hl hi hp, List.getD_eq_getElem?_getD, e1]
theorem Els.setL {x : Ent} {c' : Nat → Value} (h : Els x o k vss) (hi : i < vss.length) (hl : l.length = k) (hin : ∀ p, p < k → c' (o + i * k + p) = l.getD p undef) (hout : ∀ j, (j < o + i * k ∨ o + i * k + k ≤ j) → c' j = x.c j) : Els ⟨x.b, x.sz, x.T, c'⟩ o k (vss.set i l) := by
  refine Els.of_get ?_ (by rw [List.length_set]; exact h.fit) ?_
  · intro m hm
    rcases List.mem_or_eq_of_mem_set hm with h1 | h1
    · exact h.len m h1
    · rw [h1]; exact hl
  · intro j hj p hp
    rw [List.length_set] at hj
    by_cases hij : i = j
    · subst hij; rw [getD_set_eq hi]; exact hin p hp
    · rw [getD_set_ne hij]
      show c' (o + j * k + p) = _
      rw [hout _ ?_]
      · exact (h.cell hj hp).1
      · rcases Nat.lt_or_gt_of_ne hij with hlt | hlt
        · right
          have : (i + 1) * k ≤ j * k := Nat.mul_le_mul_right k hlt
          rw [Nat.add_mul, Nat.one_mul] at this; omega
        · left
          have : (j + 1) * k ≤ i * k := Nat.mul_le_mul_right k hlt
          rw [Nat.add_mul, Nat.one_mul] at this; omega
theorem List.getD_set_self2 {α : Type} {l : List α} {p j : Nat} {x d : α} (h : p < l.length) : (l.set p x).getD j d = if j = p then x else l.getD j d := by
  split
  · rename_i h1; subst h1; exact getD_set_eq h
  · rename_i h1; exact getD_set_ne (Ne.symm h1)
/-- A field of one cell of element i is written. -/
theorem OpG.elF {K : Post} {v : Operand} (hC : C.Ok) (m : Nat) (hx : S.G[m]? = some ⟨b, sz, T, c⟩) (hr : Els ⟨b, sz, T, c⟩ o k vss) (hD : C.D t = some ti) (hs : ti.size = 1) (ha : ev e a = ptr b' o') (hb : b = b') (hoo : o' = o + i * k + p) (hi : i < vss.length) (hp : p < k) (hv : ev e v = u) (h1 : one u = true)
    (h : ∀ c', Els ⟨b, sz, T, c'⟩ o k (vss.set i ((vss.getD i []).set p u)) → K undef ⟨S.I, S.G.set m ⟨b, sz, T, c'⟩⟩) : OpG C.P (.store t a v) ty e S K := by
  obtain ⟨r1, r2, r3⟩ := hr.at hi
  dsimp only at r1 r3
  subst hoo
  refine OpG.s1 hC m hx hD hs ha hb (by omega) hv h1 (h _ (Els.setL hr hi (by rw [List.length_set]; exact r2) ?_ ?_))
  · intro p' hp'
    show upd c (o + i * k + p) u (o + i * k + p') = _
    rw [List.getD_set_self2 (by omega)]
    by_cases hpp : p' = p
    · subst hpp; simp [upd]
    · rw [if_neg hpp]; simp only [upd]; rw [if_neg (by omega)]; exact r1.get p' (by omega)
  · intro j hj
    show upd c (o + i * k + p) u j = c j
    simp only [upd]; rw [if_neg (by omega)]
/-- l with vs from place p on -/
def setN (l : List Value) (p : Nat) (vs : List Value) : List Value := l.take p ++ vs ++ l.drop (p + vs.length)
theorem setN_len {l vs : List Value} (h : p + vs.length ≤ l.length) : (setN l p vs).length = l.length := by
  simp [setN]; omega
theorem setN_get {l vs : List Value} {j : Nat} {d : Value} (h : p + vs.length ≤ l.length) : (setN l p vs).getD j d = if p ≤ j ∧ j < p + vs.length then vs.getD (j - p) d else l.getD j d := by
  simp only [setN, List.getD_eq_getElem?_getD]
  by_cases h1 : j < p
  · rw [if_neg (by omega), List.append_assoc, List.getElem?_append_left (by rw [List.length_take]; omega), List.getElem?_take, if_pos h1]
  · by_cases h2 : j < p + vs.length
    · rw [if_pos (by omega), List.append_assoc, List.getElem?_append_right (by rw [List.length_take]; omega), List.length_take, Nat.min_eq_left (by omega), List.getElem?_append_left (by omega)]
    · rw [if_neg (by omega), List.getElem?_append_right (by rw [List.length_append, List.length_take]; omega), List.length_append, List.length_take, Nat.min_eq_left (by omega), List.getElem?_drop]
      congr 2; omega
/-- A field of many cells of element i is written. -/
theorem OpG.elS {K : Post} {v : Operand} {vs : List Value} (hC : C.Ok) (m : Nat) (hx : S.G[m]? = some ⟨b, sz, T, c⟩) (hr : Els ⟨b, sz, T, c⟩ o k vss) (hD : C.D t = some ti) (ha : ev e a = ptr b' o') (hb : b = b') (hoo : o' = o + i * k + p) (hi : i < vss.length) (hv : ev e v = .agg vs.toArray) (hl : vs.length = ti.size) (hp : p + vs.length ≤ k) (h1 : ∀ u ∈ vs, one u = true)
    (h : ∀ c', Els ⟨b, sz, T, c'⟩ o k (vss.set i (setN (vss.getD i []) p vs)) → K undef ⟨S.I, S.G.set m ⟨b, sz, T, c'⟩⟩) : OpG C.P (.store t a v) ty e S K := by
  obtain ⟨r1, r2, r3⟩ := hr.at hi
  dsimp only at r1 r3
  subst hoo
  refine OpG.rowX hC m (o + i * k + p) vs hx hD ha hb rfl hv hl (by omega) h1 (h _ (Els.setL hr hi (by rw [setN_len (by omega)]; exact r2) ?_ ?_))
  · intro p' hp'
    show HL.updN c (o + i * k + p) vs (o + i * k + p') = _
    rw [setN_get (by omega)]
    simp only [HL.updN]
    by_cases hpp : p ≤ p' ∧ p' < p + vs.length
    · rw [if_pos hpp, if_pos (by omega)]; congr 1; omega
    · rw [if_neg hpp, if_neg (by omega)]; exact r1.get p' (by omega)
  · intro j hj
    show HL.updN c (o + i * k + p) vs j = c j
    simp only [HL.updN]; rw [if_neg (by omega)]
theorem OwnL.some {v : Value} {M : List Ent} (h : OwnL T k v vss M) (hi : 0 < vss.length) : ∃ b cap c, v = sl b 0 vss.length cap ∧ vss.length ≤ cap ∧ M = [⟨b, mulS cap k, T, c⟩] ∧ Els ⟨b, mulS cap k, T, c⟩ 0 k vss := by
  rcases h.out with ⟨_, h2, _⟩ | ⟨b, cap, c, h1, h2, h3, h4⟩
  · rw [h2] at hi; simp at hi
  · refine ⟨b, cap, c, h1, h2, h3, h.len, h4, ?_⟩
    show 0 + vss.length * k ≤ mulS cap k
    rw [mulS_eq, Nat.zero_add]; exact Nat.mul_le_mul_right k h2
theorem OwnL.of {cap : Nat} (h : Els ⟨b, mulS cap k, T, c⟩ 0 k vss) (hn : n = vss.length) (hc : vss.length ≤ cap) : OwnL T k (sl b 0 n cap) vss [⟨b, mulS cap k, T, c⟩] := ⟨h.len, .inr ⟨b, cap, c, by rw [hn], hc, rfl, h.row⟩⟩
theorem OwnL.form {v : Value} {M : List Ent} (h : OwnL T k v vss M) : ∃ ad cap, v = .slice ad vss.length cap := by
  rcases h.out with ⟨h1, h2, _⟩ | ⟨b, cap, c, h1, h2, h3, h4⟩
  · exact ⟨none, 0, by rw [h1, h2]; rfl⟩
  · exact ⟨_, cap, h1⟩
end
theorem CallG.perm {P : Program} {f : FuncId} {args : Array Value} {I : Ent → Prop} {G : List Ent} {K : Post} (G' : List Ent) (hp : G.Perm G') (h : CallG P f args ⟨I, G'⟩ K) : CallG P f args ⟨I, G⟩ K :=
  ⟨fun F w hw => (h.run F w (hw.perm hp)).mono fun _ _ r => r⟩
/-- A call whose blocks G1 stand behind L. -/
theorem CallG.behind {P : Program} {f : FuncId} {args : Array Value} {I : Ent → Prop} {G1 : List Ent} {R K : Post} (L : List Ent) (h : CallG P f args ⟨I, G1⟩ R)
    (hk : ∀ v I' G', Sub I I' → R v ⟨I', G'⟩ → K v ⟨I', L ++ G'⟩) : CallG P f args ⟨I, L ++ G1⟩ K := by
  refine CallG.perm (G1 ++ L) List.perm_append_comm ?_
  refine CallG.post (CallG.use h ?_)
  intro v I' G' hs hr
  exact Rel.perm (L ++ G') [] (by simpa using List.perm_append_comm) (hk v I' G' hs hr)
end Go.HL
