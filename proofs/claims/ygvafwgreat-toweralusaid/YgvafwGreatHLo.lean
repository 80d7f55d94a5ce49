import Derived.Test.YgvafwGreatHLn
set_option linter.unusedVariables false
set_option linter.unusedSimpArgs false
namespace Go.HL
section
variable {C : Cfg} {n : Nat} {ops : Array Oper} {msk rd : List Nat} {e0 : Env} {S0 : St} {F : Fr} {K : Env → St → Prop}
variable {listed : Array Bool} {a : Act} {w : World} {r : List Nat} {pend : List (Nat × Env × Value)} {e : Env} {S : St} {D : Nat → Prop} {val : Nat → Value} {ext : List (Nat × Ent)}

theorem mem_split_perm {ext : List (Nat × Ent)} {p : Nat × Ent} (h : p ∈ ext) : ∃ A B, ext = A ++ p :: B := List.append_of_mem h

/-- A variable that the machine has made is made canonically. -/
theorem Inv.alloc (O : OrdOk n ops msk) {i : Nat} (I : Inv C n ops msk rd e0 S0 F K listed a w (i :: r) pend e S D val ext) {o : Oper} (ho : ops[i]? = some o) (hq : opClass o.op = 1) (hL : Lst listed i) :
    ∃ e' S' ext', Inv C n ops msk rd e0 S0 F K listed a w r pend e' S' (fun j => D j ∨ j = i) val ext' := by
  have hlt : i < ops.size := (Array.getElem?_eq_some_iff.1 ho).1
  have hnD : ¬ D i := fun h => (I.rem i hlt).1 h (by simp)
  have hsuf := suf_of I.suf
  obtain ⟨x, hx⟩ := I.al i hL hnD
  obtain ⟨_, _, o', t, ti, ho', hop, hti, hxe, hval⟩ := I.ex i x hx
  rw [ho] at ho'; cases ho'
  obtain ⟨A, B, rfl⟩ := mem_split_perm hx
  have hdr := I.dr
  unfold drawE at hdr
  rw [ho] at hdr
  simp only [hop, opClass, hti] at hdr
  have hdst : dstOf ops i = o.dst := by simp [dstOf, ho]
  have hd := hdr x.b
  rw [← hxe] at hd
  have hec := I.ec.put O.dist hnD (ptr x.b 0)
  rw [hdst] at hec
  have hup : updV val i (ptr x.b 0) = val := by
    funext j; by_cases h : j = i
    · subst h; rw [updV_same, hval]
    · rw [updV_ne _ _ h]
  rw [hup] at hec
  have hnd := I.exnd
  rw [List.pairwise_append] at hnd
  obtain ⟨n1, n2, n3⟩ := hnd
  rw [List.pairwise_cons] at n2
  refine ⟨put e o.dst (ptr x.b 0), ⟨S.I, x :: S.G⟩, A ++ B, I.lsz, I.er, hec, ?_, I.sub, hd, hsuf.tl, ?_, ?_, I.closed, ?_, ?_, ?_, ?_, ?_⟩
  · refine I.holds.perm2 rfl ?_
    simp only [Fr.app_l, List.map_append, List.map_cons, List.append_assoc, List.cons_append]
    have : (S.G ++ (A.map (·.2) ++ x :: (B.map (·.2) ++ F.l))).Perm (x :: (S.G ++ (A.map (·.2) ++ (B.map (·.2) ++ F.l)))) := by
      rw [← List.append_assoc, ← List.append_assoc]
      exact List.perm_middle
    exact this
  · intro j hj
    have := I.rem j hj
    by_cases hji : j = i
    · subst hji; exact ⟨fun _ => hsuf.nd, fun _ => .inr rfl⟩
    · simp only [List.mem_cons, not_or] at this
      constructor
      · rintro (h | h)
        · exact (this.1 h).2
        · exact absurd h hji
      · exact fun h => .inl (this.2 ⟨hji, h⟩)
  · rintro j (h | rfl)
    · exact I.dlt j h
    · exact hlt
  · rintro j k (h | rfl) ha
    · exact .inl (I.dclosed j k h ha)
    · have hk := anc_lt O _ k hlt ha
      refine .inl ((I.rem k (by omega)).2 fun hm => hsuf.anc k hm ha)
  · intro j hj hnd
    obtain ⟨y, hy⟩ := I.al j hj fun h => hnd (.inl h)
    refine ⟨y, ?_⟩
    simp only [List.mem_append, List.mem_cons] at hy ⊢
    rcases hy with h | h | h
    · exact .inl h
    · simp only [Prod.mk.injEq] at h; exact absurd (.inr h.1) hnd
    · exact .inr h
  · intro j y hy
    have hm : (j, y) ∈ A ++ (i, x) :: B := by
      simp only [List.mem_append, List.mem_cons] at hy ⊢
      exact hy.elim .inl fun h => .inr (.inr h)
    obtain ⟨h1, h2, rest⟩ := I.ex j y hm
    have hji : j ≠ i := by
      rcases List.mem_append.1 hy with h | h
      · exact n3 (j, y) h (i, x) (by simp)
      · exact Ne.symm (n2.1 (j, y) h)
    exact ⟨h1, fun h => h.elim h2 hji, rest⟩
  · rw [List.pairwise_append]
    exact ⟨n1, n2.2, fun p hp q hq => n3 p hp q (by simp [hq])⟩
  · rintro j (hj | rfl) hnLj
    · obtain ⟨oj, Dj, ej, h1, h2, h3, h4, h5, h6⟩ := I.qu j hj hnLj
      refine ⟨oj, Dj, ej, h1, h2, fun k hk => .inl (h3 k hk), h4, h5, ?_⟩
      rcases h6 with ⟨hw, h | ⟨h, h'⟩⟩ | h
      · exact .inl ⟨hw, .inl h⟩
      · exact .inl ⟨hw, .inr ⟨h, h'.push x⟩⟩
      · exact .inr h
    · exact absurd hL hnLj

/-- The canonical order is run on to operation k, which the machine may take. -/
theorem Inv.toHead (hC : C.Ok) (O : OrdOk n ops msk) {k : Nat} {ok : Oper} (hk : ops[k]? = some ok) (hka : opClass ok.op ≠ 1) (hrd : ∀ j ∈ direct ok, Lst listed j) (hcl : ∀ i o, ops[i]? = some o → Lst listed i → ∀ k ∈ direct o, Lst listed k) :
    ∀ (r1 r2 : List Nat) (pend : List (Nat × Env × Value)) (e : Env) (S : St) (D : Nat → Prop) (val : Nat → Value) (ext : List (Nat × Ent)),
    Inv C n ops msk rd e0 S0 F K listed a w (r1 ++ k :: r2) pend e S D val ext →
    ∃ pend e S D val ext, Inv C n ops msk rd e0 S0 F K listed a w (k :: r2) pend e S D val ext := by
  intro r1
  induction r1 with
  | nil => intro r2 pend e S D val ext I; exact ⟨pend, e, S, D, val, ext, I⟩
  | cons i r1 ih =>
    intro r2 pend e S D val ext I
    have hsuf := suf_of I.suf
    obtain ⟨o, ho, hcls, hal⟩ := hsuf.ex
    have hlt : i < ops.size := (Array.getElem?_eq_some_iff.1 ho).1
    have hnD : ¬ D i := fun h => (I.rem i hlt).1 h (by simp)
    by_cases hq : opClass o.op = 0
    · obtain ⟨pend', e', val', I', _⟩ := I.quiet hC O ho hq
      exact ih r2 _ _ _ _ _ _ I'
    · have hanc : Anc msk k i := by
        rcases hcls with h | h
        · exact absurd h hq
        · rcases h k (by simp) with ⟨ok', h1, h2⟩ | h
          · rw [hk] at h1; cases h1; exact absurd h2 hka
          · exact h
      have hL : Lst listed i := anc_listed (L := Lst listed) O.msk_eq hcl k ok i hk hrd hanc
      obtain ⟨x, hx⟩ := I.al i hL hnD
      obtain ⟨_, _, o', t, ti, ho', hop, _⟩ := I.ex i x hx
      rw [ho] at ho'; cases ho'
      obtain ⟨e', S', ext', I'⟩ := I.alloc O ho (by rw [hop]; rfl) hL
      exact ih r2 _ _ _ _ _ _ I'

/-- All is listed: the canonical order is run to its end. -/
theorem Inv.toEnd (hC : C.Ok) (O : OrdOk n ops msk) (hall : ∀ i, i < ops.size → Lst listed i) :
    ∀ (r : List Nat) (pend : List (Nat × Env × Value)) (e : Env) (S : St) (D : Nat → Prop) (val : Nat → Value) (ext : List (Nat × Ent)),
    Inv C n ops msk rd e0 S0 F K listed a w r pend e S D val ext →
    ∃ pend e S D val ext, Inv C n ops msk rd e0 S0 F K listed a w [] pend e S D val ext := by
  intro r
  induction r with
  | nil => intro pend e S D val ext I; exact ⟨pend, e, S, D, val, ext, I⟩
  | cons i r ih =>
    intro pend e S D val ext I
    obtain ⟨o, ho, _, _⟩ := (suf_of I.suf).ex
    have hlt : i < ops.size := (Array.getElem?_eq_some_iff.1 ho).1
    have hnD : ¬ D i := fun h => (I.rem i hlt).1 h (by simp)
    obtain ⟨x, hx⟩ := I.al i (hall i hlt) hnD
    obtain ⟨_, _, o', t, ti, ho', hop, _⟩ := I.ex i x hx
    rw [ho] at ho'; cases ho'
    obtain ⟨e', S', ext', I'⟩ := I.alloc O ho (by rw [hop]; rfl) (hall i hlt)
    exact ih _ _ _ _ _ _ I'
end
end Go.HL
