import Derived.Test.YgvafwGreatHLm
set_option linter.unusedVariables false
set_option linter.unusedSimpArgs false
namespace Go.HL

def Lst (listed : Array Bool) (i : Nat) : Prop := listed.getD i false = true
def Anc (msk : List Nat) (i j : Nat) : Prop := (msk.getD i 0).testBit j = true

/-- What the order's check gives. -/
structure OrdOk (n : Nat) (ops : Array Oper) (msk : List Nat) : Prop where
  ok : ∀ (i : Nat) (o : Oper), ops[i]? = some o → operOk n ops o = true
  sel : ∀ (i : Nat) (o : Oper) cs b, ops[i]? = some o → o.op ≠ .select cs b
  msk_eq : msk = masks ops.toList []
  dist : ∀ i k d, dstOf ops i = some d → dstOf ops k = some d → i = k
  look : ∀ (i k d : Nat) (o : Oper), dstOf ops i = some d → ops[k]? = some o → d ∈ o.looksAt ops → k ≠ i ∧ (Anc msk k i ∨ Anc msk i k)
  edge : ∀ (i : Nat) (o : Oper) (k : Nat), ops[i]? = some o → k ∈ direct o → k < i

structure Suf (ops : Array Oper) (msk : List Nat) (i : Nat) (rest : List Nat) : Prop where
  ex : ∃ o : Oper, ops[i]? = some o ∧ (opClass o.op = 0 ∨ ∀ k ∈ rest, (∃ ok : Oper, ops[k]? = some ok ∧ opClass ok.op = 1) ∨ Anc msk k i) ∧ (opClass o.op = 1 → o.guard = none ∧ ∃ d, o.dst = some d)
  anc : ∀ k ∈ i :: rest, ¬ Anc msk i k
  nd : i ∉ rest
  tl : suffB ops msk rest = true

section
variable {C : Cfg} {n : Nat} {ops : Array Oper} {msk rd : List Nat} {e0 : Env} {S0 : St} {F : Fr} {K : Env → St → Prop}

theorem suf_of {i : Nat} {rest : List Nat} (h : suffB ops msk (i :: rest) = true) : Suf ops msk i rest := by
  simp only [suffB, Bool.and_eq_true] at h
  obtain ⟨⟨⟨h1, h2⟩, h3⟩, h4⟩ := h
  refine ⟨?_, fun k hk ha => ?_, ?_, h4⟩
  · split at h1
    · cases h1
    · rename_i o ho
      simp only [Bool.and_eq_true, Bool.or_eq_true, beq_iff_eq, List.all_eq_true, bne_iff_ne] at h1
      refine ⟨o, ho, h1.1.imp id fun hh k hk => ?_, fun hc => ?_⟩
      · rcases hh k hk with h | h
        · split at h
          · rename_i ok hok; exact .inl ⟨ok, hok, by simpa using h⟩
          · cases h
        · exact .inr h
      · rcases h1.2 with h | h
        · exact absurd hc h
        · refine ⟨by simpa using h.1, ?_⟩
          cases hd : o.dst with
          | none => rw [hd] at h; cases h.2
          | some d => exact ⟨d, rfl⟩
  · have := (List.all_eq_true.1 h2) k hk
    unfold Anc at ha
    rw [ha] at this; cases this
  · intro hm; simp [hm] at h3

theorem anc_lt (O : OrdOk n ops msk) : ∀ (i j : Nat), i < ops.size → Anc msk i j → j < i := by
  intro i
  induction i using Nat.strongRecOn with
  | _ i ih =>
    intro j hi ha
    have ho := Array.getElem?_eq_getElem hi
    have hm := O.msk_eq
    unfold Anc at ha
    rw [hm] at ha
    obtain ⟨k, hk, h⟩ := masks_at ops.toList [] i j ops[i] (by simp) (by simpa using ha)
    have hki := O.edge i _ k ho hk
    rcases h with rfl | ⟨_, h⟩
    · exact hki
    · have := ih k hki j (by omega) (by unfold Anc; rw [hm]; exact h)
      omega

/-- How far the machine is, and how far the canonical order is. -/
structure Inv (C : Cfg) (n : Nat) (ops : Array Oper) (msk rd : List Nat) (e0 : Env) (S0 : St) (F : Fr) (K : Env → St → Prop)
    (listed : Array Bool) (a : Act) (w : World) (r : List Nat) (pend : List (Nat × Env × Value)) (e : Env) (S : St) (D : Nat → Prop) (val : Nat → Value) (ext : List (Nat × Ent)) : Prop where
  lsz : listed.size = ops.size
  er : ∃ er, Sim n a er ∧ EnvRel ops e0 (Lst listed) val er
  ec : EnvRel ops e0 D val e
  holds : Holds S (F.app (ext.map (·.2))) w
  sub : Sub S0.I S.I
  dr : drawE C ops msk rd K r pend e S
  suf : suffB ops msk r = true
  rem : ∀ i, i < ops.size → (D i ↔ i ∉ r)
  dlt : ∀ i, D i → i < ops.size
  closed : ∀ (i : Nat) (o : Oper), ops[i]? = some o → Lst listed i → ∀ k ∈ direct o, Lst listed k
  dclosed : ∀ i j, D i → Anc msk i j → D j
  al : ∀ i, Lst listed i → ¬ D i → ∃ x, (i, x) ∈ ext
  ex : ∀ i x, (i, x) ∈ ext → Lst listed i ∧ ¬ D i ∧ ∃ (o : Oper) (t : TypeId) (ti : TI), ops[i]? = some o ∧ o.op = .alloc t ∧ C.D t = some ti ∧ x = ⟨x.b, ti.size, t, ti.zero⟩ ∧ val i = ptr x.b 0
  exnd : ext.Pairwise fun p q => p.1 ≠ q.1
  qu : ∀ i, D i → ¬ Lst listed i → ∃ (o : Oper) (Di : Nat → Prop) (ei : Env), ops[i]? = some o ∧ EnvRel ops e0 Di val ei ∧ (∀ j, Di j → D j) ∧ (∀ j, Anc msk i j → Di j) ∧ (∀ j, Anc msk j i → ¬ Di j) ∧
    ((wantE ops ei o = true ∧ (QuV C.P o.op o.type ei St0 (val i) ∨ ((i, ei, val i) ∈ pend ∧ QuV C.P o.op o.type ei S (val i)))) ∨ (wantE ops ei o = false ∧ val i = undef))

variable {listed : Array Bool} {a : Act} {w : World} {r : List Nat} {pend : List (Nat × Env × Value)} {e : Env} {S : St} {D : Nat → Prop} {val : Nat → Value} {ext : List (Nat × Ent)}

theorem Lst.lt (h : listed.size = ops.size) {i : Nat} (hi : Lst listed i) : i < ops.size := by
  unfold Lst at hi
  rcases Nat.lt_or_ge i listed.size with h' | h'
  · omega
  · simp [Array.getElem?_eq_none h'] at hi

/-- A quiet operation is taken canonically. -/
theorem Inv.quiet (hC : C.Ok) (O : OrdOk n ops msk) {i : Nat} (I : Inv C n ops msk rd e0 S0 F K listed a w (i :: r) pend e S D val ext) {o : Oper} (ho : ops[i]? = some o) (hq : opClass o.op = 0) :
    ∃ pend' e' val', Inv C n ops msk rd e0 S0 F K listed a w r pend' e' S (fun j => D j ∨ j = i) val' ext ∧ ¬ D i := by
  have hlt : i < ops.size := (Array.getElem?_eq_some_iff.1 ho).1
  have hnD : ¬ D i := fun h => (I.rem i hlt).1 h (by simp)
  have hsuf := suf_of I.suf
  have hnL : ¬ Lst listed i := fun h => by
    obtain ⟨x, hx⟩ := I.al i h hnD
    obtain ⟨_, _, o', t, ti, ho', hop, _⟩ := I.ex i x hx
    rw [ho] at ho'; cases ho'
    rw [hop] at hq; cases hq
  have hdst : dstOf ops i = o.dst := by simp [dstOf, ho]
  -- whatever the value
  have main : ∀ (v : Value) (pend' : List (Nat × Env × Value)), (∀ p ∈ pend, p ∈ pend') → drawE C ops msk rd K r pend' (put e o.dst v) S →
      ((wantE ops e o = true ∧ (QuV C.P o.op o.type e St0 v ∨ ((i, e, v) ∈ pend' ∧ QuV C.P o.op o.type e S v))) ∨ (wantE ops e o = false ∧ v = undef)) →
      Inv C n ops msk rd e0 S0 F K listed a w r pend' (put e o.dst v) S (fun j => D j ∨ j = i) (updV val i v) ext := by
    intro v pend' hp hdr hy
    have hec := I.ec.put O.dist hnD v
    rw [hdst] at hec
    obtain ⟨er, hs, her⟩ := I.er
    refine ⟨I.lsz, ⟨er, hs, her.vals fun j hj => updV_ne _ _ fun h => hnL (h ▸ hj)⟩, hec, I.holds, I.sub, hdr, hsuf.tl, ?_, ?_, I.closed, ?_, ?_, ?_, I.exnd, ?_⟩
    · intro j hj
      have := I.rem j hj
      by_cases hji : j = i
      · subst hji; exact ⟨fun _ => hsuf.nd, fun _ => .inr rfl⟩
      · simp only [List.mem_cons, not_or] at this
        constructor
        · rintro (h | h)
          · exact (this.1 h).2
          · exact absurd h hji
        · exact fun h => .inl (this.2 ⟨hji, h⟩)
    · rintro j (h | rfl)
      · exact I.dlt j h
      · exact hlt
    · rintro j k (h | rfl) ha
      · exact .inl (I.dclosed j k h ha)
      · have hk := anc_lt O _ k hlt ha
        refine .inl ((I.rem k (by omega)).2 fun hm => hsuf.anc k hm ha)
    · intro j hj hnd
      exact I.al j hj fun h => hnd (.inl h)
    · intro j x hx
      obtain ⟨h1, h2, o', t, ti, h3, h4, h5, h6, h7⟩ := I.ex j x hx
      have hji : j ≠ i := fun h => hnL (h ▸ h1)
      exact ⟨h1, fun h => h.elim h2 hji, o', t, ti, h3, h4, h5, h6, by rw [updV_ne _ _ hji]; exact h7⟩
    · rintro j (hj | rfl) hnLj
      · obtain ⟨oj, Dj, ej, h1, h2, h3, h4, h5, h6⟩ := I.qu j hj hnLj
        have hji : j ≠ i := fun h => hnD (h ▸ hj)
        refine ⟨oj, Dj, ej, h1, h2.vals fun k hk => updV_ne _ _ fun h => hnD (h ▸ h3 k hk), fun k hk => .inl (h3 k hk), h4, h5, ?_⟩
        rw [updV_ne _ _ hji]
        rcases h6 with ⟨hw, h | ⟨h, h'⟩⟩ | h
        · exact .inl ⟨hw, .inl h⟩
        · exact .inl ⟨hw, .inr ⟨hp _ h, h'⟩⟩
        · exact .inr h
      · refine ⟨o, D, e, ho, I.ec.vals fun k hk => updV_ne _ _ fun h => hnD (h ▸ hk), fun k hk => .inl hk, fun k ha => ?_, fun k ha hk => hnD (I.dclosed k _ hk ha), ?_⟩
        · have hk := anc_lt O _ k hlt ha
          exact (I.rem k (by omega)).2 fun hm => hsuf.anc k hm ha
        · rw [updV_same]; exact hy
  have hdr := I.dr
  unfold drawE at hdr
  rw [ho] at hdr
  simp only [hq] at hdr
  split at hdr
  · rcases guardW_cases hdr with ⟨hw, hx⟩ | ⟨hw, hx⟩
    · obtain ⟨v, hv, hd⟩ := (quE_sound hC hx).out
      exact ⟨_, _, _, main v _ (fun p hp => by simp [hp]) hd (.inl ⟨hw, .inr ⟨by simp, ⟨hv⟩⟩⟩), hnD⟩
    · exact ⟨_, _, _, main undef _ (fun p hp => hp) hx (.inr ⟨hw, rfl⟩), hnD⟩
  · rcases guardW_cases hdr with ⟨hw, hx⟩ | ⟨hw, hx⟩
    · obtain ⟨v, hv, hd⟩ := (quE_sound hC hx).out
      exact ⟨_, _, _, main v _ (fun p hp => hp) hd (.inl ⟨hw, .inl ⟨hv⟩⟩), hnD⟩
    · exact ⟨_, _, _, main undef _ (fun p hp => hp) hx (.inr ⟨hw, rfl⟩), hnD⟩
  · rename_i h; simp_all
  · rename_i h1 h2 h3
    cases hr : rd.contains i
    · exact (h3 hr rfl).elim
    · exact (h2 hr rfl).elim
end
end Go.HL
