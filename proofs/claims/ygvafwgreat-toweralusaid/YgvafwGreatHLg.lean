import Derived.Test.YgvafwGreatHLf
set_option linter.unusedVariables false
set_option linter.unusedSimpArgs false
namespace Go.HL
section
variable {C : Cfg} {ty : TypeId} {e : Env} {S : St} {q : Value → Prop}

theorem foldSet (off : Nat) : ∀ (l : List Value) (k : Nat) (cells : Array Value) (c : Nat → Value), (∀ i, i < cells.size → cells[i]? = some (c i)) → off + k + l.length ≤ cells.size →
    ((l.zipIdx k).foldl (fun cs p => cs.setIfInBounds (off + p.2) p.1) cells).size = cells.size ∧
    ∀ i, i < cells.size → ((l.zipIdx k).foldl (fun cs p => cs.setIfInBounds (off + p.2) p.1) cells)[i]? = some (updN c (off + k) l i) := by
  intro l
  induction l with
  | nil => intro k cells c hc _; simp only [List.zipIdx_nil, List.foldl_nil, updN_nil]; exact ⟨trivial, hc⟩
  | cons v l ih =>
    intro k cells c hc hle
    simp only [List.length_cons] at hle
    simp only [List.zipIdx_cons, List.foldl_cons]
    have hc' : ∀ i, i < (cells.setIfInBounds (off + k) v).size → (cells.setIfInBounds (off + k) v)[i]? = some (upd c (off + k) v i) := by
      intro i hi
      simp only [Array.size_setIfInBounds] at hi
      simp only [upd]
      by_cases h : i = off + k
      · subst h; simp [hi]
      · simp only [h, if_false]; rw [Array.getElem?_setIfInBounds_ne (Ne.symm h)]; exact hc i hi
    obtain ⟨h1, h2⟩ := ih (k + 1) _ _ hc' (by simp; omega)
    refine ⟨by simpa using h1, fun i hi => ?_⟩
    rw [h2 i (by simpa using hi), upd_updN]

theorem fill_run {place : Nat → Option (Nat × Nat)} : ∀ (parts : List (Nat × Value)) (tr : List (Nat × Nat × Value)) (cells : Array Value) (c : Nat → Value),
    (∀ i, i < cells.size → cells[i]? = some (c i)) → fillOk cells.size tr → tr.length = parts.length →
    (∀ (j i : Nat) (v : Value), parts[j]? = some (i, v) → ∃ o z : Nat, tr[j]? = some (o, z, v) ∧ place i = some (o, z)) →
    ∃ r, Instr.fill place cells parts = some r ∧ r.size = cells.size ∧ ∀ i, i < cells.size → r[i]? = some (fillC c tr i) := by
  intro parts
  induction parts with
  | nil =>
    intro tr cells c hc _ hlen _
    have : tr = [] := by simpa using hlen
    subst this
    exact ⟨cells, rfl, rfl, hc⟩
  | cons p parts ih =>
    intro tr cells c hc hok hlen hpl
    obtain ⟨i, v⟩ := p
    cases tr with
    | nil => simp at hlen
    | cons t tr =>
      obtain ⟨o, z, v', ht⟩ := hpl 0 i v rfl
      simp only [List.getElem?_cons_zero, Option.some.injEq] at v'
      subst v'
      obtain ⟨⟨hz, hle⟩, hok'⟩ := hok
      have hsz : v.cells.size = z := hz
      obtain ⟨f1, f2⟩ := foldSet o v.cells.toList 0 cells c hc (by simpa [hsz] using hle)
      have hfold : v.cells.zipIdx.foldl (fun cs (c, j) => cs.setIfInBounds (o + j) c) cells = (v.cells.toList.zipIdx 0).foldl (fun cs p => cs.setIfInBounds (o + p.2) p.1) cells := by
        rw [← Array.foldl_toList, Array.toList_zipIdx]
      obtain ⟨r, r1, r2, r3⟩ := ih tr _ (updN c o v.cells.toList) (by intro i hi; rw [f1] at hi; simpa using f2 i hi) (by rw [f1]; exact hok') (by simpa using hlen) (fun j i' v' hj => by
        have := hpl (j + 1) i' v' (by simpa using hj); simpa using this)
      refine ⟨r, ?_, by rw [r2, f1], fun k hk => r3 k (by rw [f1]; exact hk)⟩
      simp only [Instr.fill, ht]
      rw [if_neg (by simp [hsz]; omega), hfold]
      exact r1

theorem arr_eq {r : Array Value} {n : Nat} {c : Nat → Value} (h1 : r.size = n) (h2 : ∀ i, i < n → r[i]? = some (c i)) : r = (cellsFrom c 0 n).toArray := by
  apply Array.ext
  · simp [h1]
  · intro i hi hi'
    have := h2 i (by omega)
    have h3 := cellsFrom_get c 0 n i (by omega)
    simp only [Nat.zero_add] at h3
    have e1 : r[i] = c i := by rw [Array.getElem?_eq_getElem hi] at this; simpa using this
    have hlt : i < (cellsFrom c 0 n).length := by simpa using hi'
    have e2 : (cellsFrom c 0 n)[i] = c i := by rw [List.getElem?_eq_getElem hlt] at h3; simpa using h3
    rw [e1]; simp [e2]

theorem mapM_run {α β : Type} {P : Program} {w : World} (f : α → Sem β) (g : α → β) : ∀ (l : List α), (∀ a ∈ l, (f a).run P w = .ok (g a) w) → (l.mapM f).run P w = .ok (l.map g) w := by
  intro l
  induction l with
  | nil => intro _; simp
  | cons a l ih =>
    intro h
    simp only [List.mapM_cons, Sem.run_bind, h a (by simp), Result.andThen, ih (fun b hb => h b (by simp [hb])), Sem.run_pure, List.map_cons]

theorem build_sound (hC : C.Ok) {t : TypeId} {parts : Array (Nat × Operand)} (h : match C.D t with
    | some i => (match i.kind with
      | 5 => match C.D i.elem with
        | some j => fillOk i.size ((parts.toList.map fun p => (p.1 * j.size, j.size, ev e p.2))) ∧
            q (.agg (cellsFrom (fillC i.zero (parts.toList.map fun p => (p.1 * j.size, j.size, ev e p.2))) 0 i.size).toArray)
        | none => False
      | 6 => parts.toList.all (fun p => (i.offs[p.1]?).isSome) = true ∧ fillOk i.size ((parts.toList.map fun p => ((i.offs.getD p.1 (0, 0)).1, (i.offs.getD p.1 (0, 0)).2, ev e p.2))) ∧
            q (.agg (cellsFrom (fillC i.zero (parts.toList.map fun p => ((i.offs.getD p.1 (0, 0)).1, (i.offs.getD p.1 (0, 0)).2, ev e p.2))) 0 i.size).toArray)
      | _ => False)
    | none => False) : QuG C.P (.build t parts) ty e S q := by
  split at h
  · rename_i i ht
    have htok := hC.tab t i ht
    split at h
    · rename_i hk
      split at h
      · rename_i j hj
        obtain ⟨h1, h2⟩ := h
        have hok := htok.desc
        unfold descOk at hok; rw [hk] at hok; simp only at hok
        refine .mk' (fun F w _ => ?_) h2
        obtain ⟨z, hz1, hz2, hz3⟩ := htok.zeroValue w
        obtain ⟨r, r1, r2, r3⟩ := fill_run (place := fun i => some (i * j.size, j.size)) (parts.map fun p => (p.1, ev e p.2)).toList (parts.toList.map fun p => (p.1 * j.size, j.size, ev e p.2)) z.cells i.zero
          (by rw [hz2]; exact hz3) (by rw [hz2]; exact h1) (by simp) (by
            intro a b v hv
            simp only [Array.toList_map, List.getElem?_map, Option.map_eq_some_iff] at hv
            obtain ⟨p, hp, he⟩ := hv
            simp only [Prod.mk.injEq] at he
            obtain ⟨rfl, rfl⟩ := he
            exact ⟨_, _, by simp [hp], rfl⟩)
        have hr : r = (cellsFrom (fillC i.zero (parts.toList.map fun p => (p.1 * j.size, j.size, ev e p.2))) 0 i.size).toArray := arr_eq (by rw [r2, hz2]) (fun k hk => r3 k (by rw [hz2]; exact hk))
        simp only [execOp, Instr.build, Sem.run_bind, hz1, Result.andThen, run_underlying hok, (hC.tab i.elem j hj).sizeOf w]
        simp only [Array.toList_map] at r1 ⊢
        rw [r1]
        simp [hr]
      · exact h.elim
    · rename_i hk
      obtain ⟨h0, h1, h2⟩ := h
      have hok := htok.desc
      unfold descOk at hok; rw [hk] at hok; simp only at hok
      obtain ⟨fs, hu, hlen, hf⟩ := hok
      refine .mk' (fun F w _ => ?_) h2
      obtain ⟨z, hz1, hz2, hz3⟩ := htok.zeroValue w
      have hpl : (fs.mapM fun (f : Field) => (do pure (f.offset, ← sizeOf f.type) : Sem (Nat × Nat))).run C.P w = .ok i.offs.toArray w := by
        rw [Array.mapM_eq_mapM_toList]
        have : (fs.toList.mapM fun (f : Field) => (do pure (f.offset, ← sizeOf f.type) : Sem (Nat × Nat))).run C.P w = .ok (fs.toList.map fun (f : Field) => (f.offset, C.P.cellsOf f.type)) w := by
          refine mapM_run _ _ _ fun f hf' => ?_
          obtain ⟨k, hk'⟩ := List.mem_iff_getElem?.1 hf'
          have hlt : k < i.offs.length := by rw [hlen]; have := (List.getElem?_eq_some_iff.1 hk').1; simpa using this
          obtain ⟨_, f', g1, g2, x, g3, g4⟩ := hf k _ _ (List.getElem?_eq_getElem hlt)
          have : f' = f := by
            have : fs.toList[k]? = some f' := by simpa using g1
            rw [hk'] at this; simpa using this.symm
          subst this
          simp [sizeOf, typeInfo, program, Sem.run_bind, Sem.run, g3, Result.andThen, Program.cellsOf]
        have e2 : (fs.toList.map fun (f : Field) => (f.offset, C.P.cellsOf f.type)) = i.offs := by
          apply List.ext_getElem?
          intro k
          by_cases hlt : k < i.offs.length
          · obtain ⟨_, f', g1, g2, x, g3, g4⟩ := hf k _ _ (List.getElem?_eq_getElem hlt)
            have g1' : fs.toList[k]? = some f' := by simpa using g1
            rw [List.getElem?_map, g1', List.getElem?_eq_getElem hlt]
            simp [Program.cellsOf, g3, g2, g4]
          · rw [List.getElem?_eq_none (by simp; omega), List.getElem?_eq_none (by omega)]
        rw [e2] at this
        rw [map_eq_pure_bind, Sem.run_bind, this]; simp [Result.andThen]
      obtain ⟨r, r1, r2, r3⟩ := fill_run (place := (i.offs.toArray[·]?)) (parts.map fun p => (p.1, ev e p.2)).toList (parts.toList.map fun p => ((i.offs.getD p.1 (0, 0)).1, (i.offs.getD p.1 (0, 0)).2, ev e p.2)) z.cells i.zero
        (by rw [hz2]; exact hz3) (by rw [hz2]; exact h1) (by simp) (by
          intro a b v hv
          simp only [Array.toList_map, List.getElem?_map, Option.map_eq_some_iff] at hv
          obtain ⟨p, hp, he⟩ := hv
          simp only [Prod.mk.injEq] at he
          obtain ⟨rfl, rfl⟩ := he
          have hs := (List.all_eq_true.1 h0) p (List.mem_of_getElem? hp)
          obtain ⟨y, hy⟩ := Option.isSome_iff_exists.1 hs
          exact ⟨y.1, y.2, by simp [hp, hy], by simp [hy]⟩)
      have hr : r = (cellsFrom (fillC i.zero (parts.toList.map fun p => ((i.offs.getD p.1 (0, 0)).1, (i.offs.getD p.1 (0, 0)).2, ev e p.2))) 0 i.size).toArray := arr_eq (by rw [r2, hz2]) (fun k hk => r3 k (by rw [hz2]; exact hk))
      simp only [execOp, Instr.build, Sem.run_bind, hz1, Result.andThen, run_underlying hu, hpl]
      simp only [Array.toList_map] at r1 ⊢
      rw [r1]
      simp [hr]
    · exact h.elim
  · exact h.elim

/-- The evaluator is sound. -/
theorem quE_sound (hC : C.Ok) {op : Op} (h : quE C op ty e S q) : QuG C.P op ty e S q := by
  unfold quE at h
  split at h
  · exact .mk' (fun F w _ => by simp [execOp]) h
  · exact .mk' (fun F w _ => by simp [execOp]) h
  · split at h
    · rename_i t hx
      exact .mk' (fun F w _ => by cases t <;> simp [execOp, hx, asBool, Sem.run_bind, Result.andThen]) h
    · exact h.elim
  · split at h
    · rename_i a hx
      exact .mk' (fun F w _ => by simp [execOp, hx]) h
    · exact h.elim
  · split at h
    · rename_i i hD
      split at h
      · exact binE_sound h
      · rename_i hk
        split at h
        · rename_i hy; exact nil_sound_ptr hC hD hk hy h
        · exact h
      · rename_i hk
        split at h
        · rename_i hy; exact nil_sound_slice hC hD hk hy h
        · exact h
      · exact h
    · exact h
  · exact un_sound h
  · exact conv_sound hC h
  · exact field_sound hC h
  · exact index_sound hC h
  · exact slice_sound hC h
  · exact extract_sound h
  · exact sap_sound hC h
  · exact build_sound hC h
  · exact len_sound hC h
  · exact min_sound h
  · exact max_sound h
  · exact h
end
end Go.HL
