import Derived.Test.YgvafwGreatHLz
set_option linter.unusedVariables false
set_option linter.unusedSimpArgs false
namespace Go.HB
open Go.HL
/-! ### As HLl..HLp, with rows that are built where they stand (buildSlice) among the operations that make a variable -/
def opClass : Op → Nat
  | .buildSlice .. => 1
  | op => HL.opClass op
/-- What an operation makes: size, type, cells, and the value by the block's number. -/
def fresh (C : Cfg) (op : Op) (e : Env) : Option (Nat × TypeId × (Nat → Value) × (Nat → Value)) := match op with
  | .alloc t => (match C.D t with
    | some ti => some (ti.size, t, ti.zero, fun b => ptr b 0)
    | none => none)
  | .buildSlice t len parts => (match C.D t with
    | some i => (match C.D i.elem, i.kind with
      | some j, 4 => some (len * j.size, i.elem, fillC (zc j) (parts.toList.map fun p => (p.1 * j.size, j.size, ev e p.2)), fun b => sl b 0 len len)
      | _, _ => none)
    | none => none)
  | _ => none
def chk (fl : List Nat) (i : Nat) (v : Value) : Prop := (!fl.contains i || v.cells.size == 1) = true
def drawE (C : Cfg) (ops : Array Oper) (msk rd fl : List Nat) (K : Env → St → Prop) : List Nat → List (Nat × Env × Value) → Env → St → Prop
  | [], _, e, S => K e S
  | i :: rest, pend, e, S => match ops[i]? with
    | none => False
    | some o => match rd.contains i, opClass o.op with
      | true, 0 => guardW ops e o (fun e => quE C o.op o.type e S fun v => chk fl i v ∧ drawE C ops msk rd fl K rest ((i, e, v) :: pend) (put e o.dst v) S) (fun e => chk fl i undef ∧ drawE C ops msk rd fl K rest pend (put e o.dst undef) S)
      | false, 0 => guardW ops e o (fun e => quE C o.op o.type e St0 fun v => chk fl i v ∧ drawE C ops msk rd fl K rest pend (put e o.dst v) S) (fun e => chk fl i undef ∧ drawE C ops msk rd fl K rest pend (put e o.dst undef) S)
      | _, 1 => (match fresh C o.op e with
        | some (sz, t, c, v) => ∀ b, drawE C ops msk rd fl K rest pend (put e o.dst (v b)) ⟨S.I, ⟨b, sz, t, c⟩ :: S.G⟩
        | none => False)
      | _, _ => guardW ops e o (fun e => opE C o.op o.type e S fun v S' => stillE C.P ops S' (pend.filter fun p => !(msk.getD i 0).testBit p.1) (drawE C ops msk rd fl K rest pend (put e o.dst v) S')) (fun e => drawE C ops msk rd fl K rest pend (put e o.dst undef) S)
def suffB (ops : Array Oper) (msk : List Nat) : List Nat → Bool
  | [] => true
  | i :: rest => (match ops[i]? with
      | none => false
      | some o => (opClass o.op == 0 || rest.all fun k => (match ops[k]? with | some ok => opClass ok.op == 1 | none => false) || (msk.getD k 0).testBit i) &&
          (opClass o.op != 1 || (o.guard.isNone && match o.dst with | some _ => true | none => false))) &&
      (i :: rest).all (fun k => !(msk.getD i 0).testBit k) && !rest.contains i && suffB ops msk rest
def drawOk (n : Nat) (ops : Array Oper) (msk ord : List Nat) : Bool :=
  opsOk n ops && Region.noSelect ops && msk == masks ops.toList [] && (List.range ops.size).all (ord.contains ·) && ord.length == ops.size && suffB ops msk ord && slotB ops msk && edgeB ops
/-- What makes a variable makes it well: rows of bytes only, and each byte a constant or one of fl. -/
def okB (D : Nat → Option TI) (ops : Array Oper) (msk fl : List Nat) : Bool := ((List.range ops.size).all fun k => match ops[k]? with
  | none => true
  | some o => (match o.op with
    | .alloc t => (D t).isSome
    | .buildSlice t len parts => (match D t with
      | some i => (match D i.elem with
        | some j => i.kind == 4 && j.size == 1 && Nat.blt 0 len && Nat.ble len 1000 && parts.toList.all fun p => Nat.blt p.1 len && (match p.2 with
          | .const v => v.cells.size == 1
          | .tmp d => fl.any fun i => dstOf ops i == some d && (msk.getD k 0).testBit i
          | _ => false)
        | none => false)
      | none => false)
    | _ => true)) && fl.all fun i => match ops[i]? with | some o => opClass o.op == 0 | none => false
def freshOk (C : Cfg) (op : Op) (e : Env) : Prop := match op with
  | .alloc _ => True
  | .buildSlice t len parts => (match C.D t with
    | some i => (match C.D i.elem with
      | some j => (0 < len * j.size ∧ len * j.size ≤ 2 ^ 24) ∧ fillOk (len * j.size) (parts.toList.map fun p => (p.1 * j.size, j.size, ev e p.2))
      | none => False)
    | none => False)
  | _ => True

structure Suf (ops : Array Oper) (msk : List Nat) (i : Nat) (rest : List Nat) : Prop where
  ex : ∃ o : Oper, ops[i]? = some o ∧ (opClass o.op = 0 ∨ ∀ k ∈ rest, (∃ ok : Oper, ops[k]? = some ok ∧ opClass ok.op = 1) ∨ Anc msk k i) ∧ (opClass o.op = 1 → o.guard = none ∧ ∃ d, o.dst = some d)
  anc : ∀ k ∈ i :: rest, ¬ Anc msk i k
  nd : i ∉ rest
  tl : suffB ops msk rest = true

section
variable {C : Cfg} {n : Nat} {ops : Array Oper} {msk rd fl : List Nat} {e0 : Env} {S0 : St} {F : Fr} {K : Env → St → Prop}

theorem suf_of {i : Nat} {rest : List Nat} (h : suffB ops msk (i :: rest) = true) : Suf ops msk i rest := by
  simp only [suffB, Bool.and_eq_true] at h
  obtain ⟨⟨⟨h1, h2⟩, h3⟩, h4⟩ := h
  refine ⟨?_, fun k hk ha => ?_, ?_, h4⟩
  · split at h1
    · cases h1
    · rename_i o ho
      simp only [Bool.and_eq_true, Bool.or_eq_true, beq_iff_eq, List.all_eq_true, bne_iff_ne] at h1
      refine ⟨o, ho, h1.1.imp id fun hh k hk => ?_, fun hc => ?_⟩
      · rcases hh k hk with h | h
        · split at h
          · rename_i ok hok; exact .inl ⟨ok, hok, by simpa using h⟩
          · cases h
        · exact .inr h
      · rcases h1.2 with h | h
        · exact absurd hc h
        · refine ⟨by simpa using h.1, ?_⟩
          cases hd : o.dst with
          | none => rw [hd] at h; cases h.2
          | some d => exact ⟨d, rfl⟩
  · have := (List.all_eq_true.1 h2) k hk
    unfold Anc at ha
    rw [ha] at this; cases this
  · intro hm; simp [hm] at h3

/-- How far the machine is, and how far the canonical order is. -/
structure Inv (C : Cfg) (n : Nat) (ops : Array Oper) (msk rd fl : List Nat) (e0 : Env) (S0 : St) (F : Fr) (K : Env → St → Prop)
    (listed : Array Bool) (a : Act) (w : World) (r : List Nat) (pend : List (Nat × Env × Value)) (e : Env) (S : St) (D : Nat → Prop) (val : Nat → Value) (ext : List (Nat × Ent)) : Prop where
  lsz : listed.size = ops.size
  er : ∃ er, Sim n a er ∧ EnvRel ops e0 (Lst listed) val er
  ec : EnvRel ops e0 D val e
  holds : Holds S (F.app (ext.map (·.2))) w
  sub : Sub S0.I S.I
  dr : drawE C ops msk rd fl K r pend e S
  suf : suffB ops msk r = true
  rem : ∀ i, i < ops.size → (D i ↔ i ∉ r)
  dlt : ∀ i, D i → i < ops.size
  closed : ∀ (i : Nat) (o : Oper), ops[i]? = some o → Lst listed i → ∀ k ∈ direct o, Lst listed k
  dclosed : ∀ i j, D i → Anc msk i j → D j
  al : ∀ i, Lst listed i → ¬ D i → ∃ x, (i, x) ∈ ext
  ex : ∀ i x, (i, x) ∈ ext → Lst listed i ∧ ¬ D i ∧ ∃ (o : Oper) (Di : Nat → Prop) (ei : Env) (sz : Nat) (t : TypeId) (c v : Nat → Value), ops[i]? = some o ∧ opClass o.op = 1 ∧ fresh C o.op ei = some (sz, t, c, v) ∧ EnvRel ops e0 Di val ei ∧ (∀ j, Anc msk i j → Di j) ∧ (∀ j, Anc msk j i → ¬ Di j) ∧ (∀ j, Di j → Lst listed j) ∧ x = ⟨x.b, sz, t, c⟩ ∧ val i = v x.b
  fz : ∀ i ∈ fl, D i → (val i).cells.size = 1
  exnd : ext.Pairwise fun p q => p.1 ≠ q.1
  qu : ∀ i, D i → ¬ Lst listed i → ∃ (o : Oper) (Di : Nat → Prop) (ei : Env), ops[i]? = some o ∧ EnvRel ops e0 Di val ei ∧ (∀ j, Di j → D j) ∧ (∀ j, Anc msk i j → Di j) ∧ (∀ j, Anc msk j i → ¬ Di j) ∧
    ((wantE ops ei o = true ∧ (QuV C.P o.op o.type ei St0 (val i) ∨ ((i, ei, val i) ∈ pend ∧ QuV C.P o.op o.type ei S (val i)))) ∨ (wantE ops ei o = false ∧ val i = undef))

variable {listed : Array Bool} {a : Act} {w : World} {r : List Nat} {pend : List (Nat × Env × Value)} {e : Env} {S : St} {D : Nat → Prop} {val : Nat → Value} {ext : List (Nat × Ent)}

/-- A quiet operation is taken canonically. -/
theorem Inv.quiet (hC : C.Ok) (O : OrdOk n ops msk) {i : Nat} (I : Inv C n ops msk rd fl e0 S0 F K listed a w (i :: r) pend e S D val ext) {o : Oper} (ho : ops[i]? = some o) (hq : opClass o.op = 0) :
    ∃ pend' e' val', Inv C n ops msk rd fl e0 S0 F K listed a w r pend' e' S (fun j => D j ∨ j = i) val' ext ∧ ¬ D i := by
  have hlt : i < ops.size := (Array.getElem?_eq_some_iff.1 ho).1
  have hnD : ¬ D i := fun h => (I.rem i hlt).1 h (by simp)
  have hsuf := suf_of I.suf
  have hnL : ¬ Lst listed i := fun h => by
    obtain ⟨x, hx⟩ := I.al i h hnD
    obtain ⟨_, _, o', _, _, _, _, _, _, ho', hop, _⟩ := I.ex i x hx
    rw [ho] at ho'; cases ho'
    rw [hop] at hq; cases hq
  have hdst : dstOf ops i = o.dst := by simp [dstOf, ho]
  -- whatever the value
  have main : ∀ (v : Value) (pend' : List (Nat × Env × Value)), (∀ p ∈ pend, p ∈ pend') → chk fl i v ∧ drawE C ops msk rd fl K r pend' (put e o.dst v) S →
      ((wantE ops e o = true ∧ (QuV C.P o.op o.type e St0 v ∨ ((i, e, v) ∈ pend' ∧ QuV C.P o.op o.type e S v))) ∨ (wantE ops e o = false ∧ v = undef)) →
      Inv C n ops msk rd fl e0 S0 F K listed a w r pend' (put e o.dst v) S (fun j => D j ∨ j = i) (updV val i v) ext := by
    intro v pend' hp ⟨hck, hdr⟩ hy
    have hec := I.ec.put O.dist hnD v
    rw [hdst] at hec
    obtain ⟨er, hs, her⟩ := I.er
    refine ⟨I.lsz, ⟨er, hs, her.vals fun j hj => updV_ne _ _ fun h => hnL (h ▸ hj)⟩, hec, I.holds, I.sub, hdr, hsuf.tl, ?_, ?_, I.closed, ?_, ?_, ?_, ?_, I.exnd, ?_⟩
    · intro j hj
      have := I.rem j hj
      by_cases hji : j = i
      · subst hji; exact ⟨fun _ => hsuf.nd, fun _ => .inr rfl⟩
      · simp only [List.mem_cons, not_or] at this
        constructor
        · rintro (h | h)
          · exact (this.1 h).2
          · exact absurd h hji
        · exact fun h => .inl (this.2 ⟨hji, h⟩)
    · rintro j (h | rfl)
      · exact I.dlt j h
      · exact hlt
    · rintro j k (h | rfl) ha
      · exact .inl (I.dclosed j k h ha)
      · have hk := anc_lt O _ k hlt ha
        refine .inl ((I.rem k (by omega)).2 fun hm => hsuf.anc k hm ha)
    · intro j hj hnd
      exact I.al j hj fun h => hnd (.inl h)
    · intro j x hx
      obtain ⟨h1, h2, o', Di, ei, sz, t, c, v', h3, h4, h5, h6, h7, h8, h9, h10, h11⟩ := I.ex j x hx
      have hji : j ≠ i := fun h => hnL (h ▸ h1)
      exact ⟨h1, fun h => h.elim h2 hji, o', Di, ei, sz, t, c, v', h3, h4, h5, h6.vals fun k hk => updV_ne _ _ fun h => hnL (h ▸ h9 k hk), h7, h8, h9, h10, by rw [updV_ne _ _ hji]; exact h11⟩
    · intro j hj hd
      by_cases hji : j = i
      · subst hji
        rw [updV_same]
        unfold chk at hck
        have : fl.contains j = true := by simpa using hj
        rw [this] at hck
        simpa using hck
      · rw [updV_ne _ _ hji]
        exact I.fz j hj (hd.elim id fun h => absurd h hji)
    · rintro j (hj | rfl) hnLj
      · obtain ⟨oj, Dj, ej, h1, h2, h3, h4, h5, h6⟩ := I.qu j hj hnLj
        have hji : j ≠ i := fun h => hnD (h ▸ hj)
        refine ⟨oj, Dj, ej, h1, h2.vals fun k hk => updV_ne _ _ fun h => hnD (h ▸ h3 k hk), fun k hk => .inl (h3 k hk), h4, h5, ?_⟩
        rw [updV_ne _ _ hji]
        rcases h6 with ⟨hw, h | ⟨h, h'⟩⟩ | h
        · exact .inl ⟨hw, .inl h⟩
        · exact .inl ⟨hw, .inr ⟨hp _ h, h'⟩⟩
        · exact .inr h
      · refine ⟨o, D, e, ho, I.ec.vals fun k hk => updV_ne _ _ fun h => hnD (h ▸ hk), fun k hk => .inl hk, fun k ha => ?_, fun k ha hk => hnD (I.dclosed k _ hk ha), ?_⟩
        · have hk := anc_lt O _ k hlt ha
          exact (I.rem k (by omega)).2 fun hm => hsuf.anc k hm ha
        · rw [updV_same]; exact hy
  have hdr := I.dr
  unfold drawE at hdr
  rw [ho] at hdr
  simp only [hq] at hdr
  split at hdr
  · rcases guardW_cases hdr with ⟨hw, hx⟩ | ⟨hw, hx⟩
    · obtain ⟨v, hv, hd⟩ := (quE_sound hC hx).out
      exact ⟨_, _, _, main v _ (fun p hp => by simp [hp]) hd (.inl ⟨hw, .inr ⟨by simp, ⟨hv⟩⟩⟩), hnD⟩
    · exact ⟨_, _, _, main undef _ (fun p hp => hp) hx (.inr ⟨hw, rfl⟩), hnD⟩
  · rcases guardW_cases hdr with ⟨hw, hx⟩ | ⟨hw, hx⟩
    · obtain ⟨v, hv, hd⟩ := (quE_sound hC hx).out
      exact ⟨_, _, _, main v _ (fun p hp => hp) hd (.inl ⟨hw, .inl ⟨hv⟩⟩), hnD⟩
    · exact ⟨_, _, _, main undef _ (fun p hp => hp) hx (.inr ⟨hw, rfl⟩), hnD⟩
  · rename_i h; simp_all
  · rename_i h1 h2 h3
    cases hr : rd.contains i
    · exact (h3 hr rfl).elim
    · exact (h2 hr rfl).elim
end
end Go.HB
