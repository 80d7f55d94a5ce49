import Derived.Test.YgvafwGreatHLh
set_option linter.unusedVariables false
set_option linter.unusedSimpArgs false
namespace Go.HL

def optLt (n : Nat) (d : Option Nat) : Bool := match d with | some d => Nat.blt d n | none => true
def operOk (n : Nat) (ops : Array Oper) (o : Oper) : Bool := optLt n o.dst && match o.guard with
  | none => true
  | some (j, _) => match (ops[j]?).bind (·.dst) with
    | some d => Nat.blt d n
    | none => false
def opsOk (n : Nat) (ops : Array Oper) : Bool := ops.toList.all (operOk n ops)
def codeOk (n : Nat) : Code → Bool
  | .region _ ops _ => opsOk n ops
  | .seq a b => codeOk n a && codeOk n b
  | .cond _ a b => codeOk n a && codeOk n b
  | .block _ b => codeOk n b
  | .loop b => codeOk n b
  | _ => true

/-- A guarded operation: 't' is the value that decides. -/
def guardB (v : Value) (want : Bool) (X Y : Value → Prop) : Prop := match v with
  | .bool true => bif want then X (.bool true) else Y (.bool true)
  | .bool false => bif want then Y (.bool false) else X (.bool false)
  | .tuple vs => Y (.tuple vs)
  | _ => False

structure GuardS (v : Value) (want : Bool) (X Y : Value → Prop) : Prop where
  out : guardB v want X Y

def opsE (C : Cfg) (ops : Array Oper) (K : Env → St → Prop) : List Oper → Env → St → Prop
  | [], e, S => K e S
  | o :: rest, e, S =>
    match o.guard with
    | none => opE C o.op o.type e S fun v S' => opsE C ops K rest (put e o.dst v) S'
    | some (j, want) =>
      match (ops[j]?).bind (·.dst) with
      | none => False
      | some d => GuardS (e d) want (fun b => opE C o.op o.type (upd e d b) S fun v S' => opsE C ops K rest (put (upd e d b) o.dst v) S') (fun b => opsE C ops K rest (put (upd e d b) o.dst undef) S)

def condE (v : Value) (X Y : Prop) : Prop := match v with
  | .bool true => X
  | .bool false => Y
  | _ => False

structure CondS (v : Value) (X Y : Prop) : Prop where
  out : condE v X Y

/-- What stands behind a statement. -/
structure SeqS (C : Cfg) (n : Nat) (c : Code) (Q : HPost) (e : Env) (S : St) : Prop where
  out : codeOk n c = true → GW C.P n c e S Q

def W (C : Cfg) (n : Nat) : Code → HPost → Env → St → Prop
  | .skip, Q, e, S => Q .normal e S
  | .region _ ops false, Q, e, S => opsE C ops (fun e S => Q .normal e S) ops.toList e S
  | .seq a b, Q, e, S => W C n a (thenQ (fun e S => SeqS C n b Q e S) Q) e S
  | .cond c a b, Q, e, S => CondS (ev e c) (W C n a Q e S) (W C n b Q e S)
  | .block id b, Q, e, S => W C n b (blockQ id Q) e S
  | .exit id, Q, e, S => Q (.exit id) e S
  | .ret, Q, e, S => Q .ret e S
  | c, Q, e, S => GW C.P n c e S Q

section
variable {C : Cfg} {n : Nat}

theorem OpG.oper {P : Program} {o : Oper} {a : Act} {e : Env} {S : St} {F : Fr} {w : World} {K : Post} {next : Act → World → Prop} {Q : Exit → Act → World → Prop}
    (hs : Sim n a e) (hw : Holds S F w) (h : OpG P o.op o.type e S K) (hk : ∀ v S' w', Holds S' F w' → Sub S.I S'.I → K v S' → next (a.put o.dst v) w') : o.wp P a w next Q := by
  have := h.run F w hw
  unfold Oper.wp
  rw [hs.eval, execOp_same]
  generalize (execOp (ev e) ⟨none, o.op, o.type, "", #[], none⟩).run P w = r at this
  cases r with
  | halt x w => exact this.elim
  | ok x w' =>
    cases x <;> simp only [OpUpon, Oper.upon] at this ⊢
    case value => obtain ⟨S', h1, h2, h3⟩ := this; exact hk _ _ _ h1 h2 h3
    case skip => obtain ⟨S', h1, h2, h3⟩ := this; exact hk _ _ _ h1 h2 h3
    case enter => exact this.mono fun x w'' ⟨v, S', hx, h1, h2, h3⟩ => by subst hx; exact hk _ _ _ h1 h2 h3

def over (e : Env) : List (Nat × Value) → Env
  | [] => e
  | (i, v) :: l => upd (over e l) i v
def slots : List (Nat × Value) → Env → Prop
  | [], _ => True
  | (i, v) :: l, e => e i = v ∧ slots l e
theorem over_slots {e : Env} : ∀ l : List (Nat × Value), slots l e → over e l = e := by
  intro l
  induction l with
  | nil => intro _; rfl
  | cons p l ih =>
    obtain ⟨i, v⟩ := p
    rintro ⟨h1, h2⟩
    simp only [over, ih h2]
    funext j; simp only [upd]; split
    · rename_i hj; rw [hj, h1]
    · rfl

theorem wanted_bool {ops : Array Oper} {o : Oper} {a : Act} {e : Env} (hs : Sim n a e) {j d : Nat} {want b : Bool} (hg : o.guard = some (j, want)) (hd : (ops[j]?).bind (·.dst) = some d) (hlt : d < n) (hb : e d = .bool b) :
    Region.wanted o (yielded ops a.tmps) = (b == want) := by
  have h1 := hs.get d
  have h2 := hs.size
  have h3 : a.tmps[d]? = some (.bool b) := by
    rw [Array.getElem?_eq_getElem (by omega)]
    have : a.tmps.getD d undef = a.tmps[d] := by simp [Array.getD, h2, hlt]
    rw [← this, h1, hb]
  simp only [Region.wanted, hg, yielded, hd, Option.bind_some, h3]
  cases b <;> cases want <;> rfl

theorem wanted_tuple {ops : Array Oper} {o : Oper} {a : Act} {e : Env} (hs : Sim n a e) {j d : Nat} {want : Bool} {vs : Array Value} (hg : o.guard = some (j, want)) (hd : (ops[j]?).bind (·.dst) = some d) (hlt : d < n) (hb : e d = .tuple vs) :
    Region.wanted o (yielded ops a.tmps) = false := by
  have h1 := hs.get d
  have h2 := hs.size
  have h3 : a.tmps[d]? = some (.tuple vs) := by
    rw [Array.getElem?_eq_getElem (by omega)]
    have : a.tmps.getD d undef = a.tmps[d] := by simp [Array.getD, h2, hlt]
    rw [← this, h1, hb]
  simp only [Region.wanted, hg, yielded, hd, Option.bind_some, h3]
  cases want <;> rfl

theorem opsE_sound (hC : C.Ok) {ops : Array Oper} {K : Env → St → Prop} {Q : Exit → Act → World → Prop} {F : Fr} : ∀ (l : List Oper) (e : Env) (S : St) (a : Act) (w : World),
    l.all (operOk n ops) = true → opsE C ops K l e S → Sim n a e → Holds S F w → (∀ e' S' a' w', Sim n a' e' → Holds S' F w' → Sub S.I S'.I → K e' S' → Q .normal a' w') → wpList C.P ops Q l a w := by
  intro l
  induction l with
  | nil => intro e S a w _ h hs hw hq; exact wpList_nil (hq e S a w hs hw (.refl _) h)
  | cons o rest ih =>
    intro e S a w hok h hs hw hq
    simp only [List.all_cons, Bool.and_eq_true] at hok
    obtain ⟨ho, hrest⟩ := hok
    have ho1 : optLt n o.dst = true := by unfold operOk at ho; simp only [Bool.and_eq_true] at ho; exact ho.1
    have hd : ∀ x, o.dst = some x → x < n := by
      intro x hx; rw [hx] at ho1; simpa [optLt, Nat.blt_eq] using ho1
    have step : opE C o.op o.type e S (fun v S' => opsE C ops K rest (put e o.dst v) S') → o.wp C.P a w (wpList C.P ops Q rest) Q := fun h =>
      (opE_sound hC h).oper hs hw fun v S' w' h1 h2 h3 => ih _ _ _ _ hrest h3 (hs.put hd v) h1 fun e2 S2 a2 w2 s2 hh2 hs2 k2 => hq e2 S2 a2 w2 s2 hh2 (h2.trans hs2) k2
    have skip : opsE C ops K rest (put e o.dst undef) S → wpList C.P ops Q rest (a.put o.dst undef) w := fun h =>
      ih _ _ _ _ hrest h (hs.put hd undef) hw hq
    unfold opsE at h
    unfold wpList
    split at h
    · rename_i hg
      rw [if_pos (by simp [Region.wanted, hg])]
      exact .inl (step h)
    · rename_i j want hg
      split at h
      · exact h.elim
      · rename_i d hdst
        have hlt : d < n := by
          unfold operOk at ho
          simp only [Bool.and_eq_true, hg, hdst] at ho
          simpa [Nat.blt_eq] using ho.2
        have hup : ∀ b, e d = b → upd e d b = e := fun b hb => by
          funext i; simp only [upd]; split
          · rename_i hi; rw [hi, hb]
          · rfl
        replace h := h.out
        unfold guardB at h
        split at h
        · rename_i hb
          simp only [hup _ hb] at h
          rw [wanted_bool hs hg hdst hlt hb]
          cases want
          · simp only [cond_false] at h; rw [if_neg (by simp)]; exact skip h
          · simp only [cond_true] at h; rw [if_pos (by simp)]; exact .inl (step h)
        · rename_i hb
          simp only [hup _ hb] at h
          rw [wanted_bool hs hg hdst hlt hb]
          cases want
          · simp only [cond_false] at h; rw [if_pos (by simp)]; exact .inl (step h)
          · simp only [cond_true] at h; rw [if_neg (by simp)]; exact skip h
        · rename_i vs hb
          simp only [hup _ hb] at h
          rw [wanted_tuple hs hg hdst hlt hb, if_neg (by simp)]
          exact skip h
        · exact h.elim

theorem W_sound (hC : C.Ok) : ∀ (c : Code) (Q : HPost) (e : Env) (S : St), codeOk n c = true → W C n c Q e S → GW C.P n c e S Q := by
  intro c
  induction c with
  | skip => intro Q e S _ h; exact .skip h
  | region id ops draw =>
    intro Q e S hok h
    cases draw with
    | true => exact h
    | false =>
      simp only [W] at h
      refine ⟨fun F a w hs hw => wp_region_list (opsE_sound hC ops.toList e S a w hok h hs hw fun e' S' a' w' s' h1 h2 h3 => ⟨e', S', s', h1, h2, h3⟩)⟩
  | seq a b iha ihb =>
    intro Q e S hok h
    simp only [codeOk, Bool.and_eq_true] at hok
    simp only [W] at h
    refine .seq ((iha _ e S hok.1 h).mono fun x e' S' _ hx => ?_)
    cases x <;> simp only [thenQ] at hx ⊢ <;> first | exact hx.out hok.2 | exact hx
  | cond c a b iha ihb =>
    intro Q e S hok h
    simp only [codeOk, Bool.and_eq_true] at hok
    simp only [W] at h
    replace h := h.out
    unfold condE at h
    split at h
    · rename_i hc; exact .cond hc (fun _ => iha _ _ _ hok.1 h) (fun h => by cases h)
    · rename_i hc; exact .cond hc (fun h => by cases h) (fun _ => ihb _ _ _ hok.2 h)
    · exact h.elim
  | block id b ih => intro Q e S hok h; exact .block (ih _ _ _ hok h)
  | exit id => intro Q e S _ h; exact .exit h
  | ret => intro Q e S _ h; exact .ret h
  | loop b ih => intro Q e S _ h; exact h
  | rangeFunc f p a b _ _ => intro Q e S _ h; exact h
  | scope b _ => intro Q e S _ h; exact h
  | label l => intro Q e S _ h; exact h
  | goto l => intro Q e S _ h; exact h
  | refuse y => intro Q e S _ h; exact h

/-- On to the next statement. -/
theorem SeqS.go (hC : C.Ok) {c : Code} {Q : HPost} {e : Env} {S : St} (h : W C n c Q e S) : SeqS C n c Q e S := ⟨fun hok => W_sound hC c Q e S hok h⟩
/-- On to the next statement, with what is known of the variables alone. -/
theorem SeqS.slots (hC : C.Ok) {c : Code} {Q : HPost} {e : Env} {S : St} (l : List (Nat × Value)) (hl : HL.slots l e) (h : ∀ e', W C n c Q (over e' l) S) : SeqS C n c Q e S :=
  ⟨fun hok => W_sound hC c Q e S hok (by have := h e; rw [over_slots l hl] at this; exact this)⟩
/-- The next statement, and a relation behind it. -/
theorem SeqS.cut (hC : C.Ok) {a b : Code} {Q : HPost} {e : Env} {S : St} (J : Env → St → Prop) (h1 : W C n a (thenQ J Q) e S) (h2 : ∀ e' S', Sub S.I S'.I → J e' S' → W C n b Q e' S') : SeqS C n (.seq a b) Q e S := by
  refine ⟨fun hok => ?_⟩
  simp only [codeOk, Bool.and_eq_true] at hok
  refine .seq ((W_sound hC a _ e S hok.1 h1).mono fun x e' S' hs hx => ?_)
  cases x <;> simp only [thenQ] at hx ⊢ <;> first | exact W_sound hC b Q e' S' hok.2 (h2 _ _ hs hx) | exact hx

/-- A loop. -/
theorem W.loop (hC : C.Ok) {e : Env} {S : St} {Q : HPost} {σ : Type} {c : Code} (hok : codeOk n c = true) (J : σ → Env → St → Prop) (μ : σ → Nat) (s0 : σ) (h0 : J s0 e S)
    (round : ∀ s e' S', Sub S.I S'.I → J s e' S' → W C n c (thenQ (fun e2 S2 => ∃ s2, J s2 e2 S2 ∧ μ s2 < μ s) Q) e' S') : GW C.P n (.loop c) e S Q :=
  .loop J μ s0 h0 fun s e' S' hs hJ => W_sound hC c _ e' S' hok (round s e' S' hs hJ)

/-- A result that lies in memory. -/
structure LdG (P : Program) (t : TypeId) (p : Value) (S : St) (k : Value → Prop) : Prop where
  out : ∃ v, (∀ (F : Fr) (w : World), Holds S F w → (do loadVar t (← asAddr p) : Sem Value).run P w = .ok v w) ∧ k v

def finV : List Value → Value
  | [v] => v
  | vs => .tuple vs.toArray

/-- The results of a call. -/
def resE (P : Program) (e : Env) (S : St) : List ResultVar → List Value → (Value → Prop) → Prop
  | [], acc, k => k (finV acc.reverse)
  | .tmp t :: rs, acc, k => resE P e S rs (e t :: acc) k
  | .cell a t :: rs, acc, k => LdG P t (e a) S fun v => resE P e S rs (v :: acc) k

def retQ (P : Program) (rs : Array ResultVar) (K : Post) : HPost
  | .ret, e, S => resE P e S rs.toList [] fun v => K v S
  | .normal, e, S => resE P e S rs.toList [] fun v => K v S
  | _, _, _ => False

def env0 (args : List Value) : Env := fun i => args.getD i undef

def resM (tmps : Array Value) : ResultVar → Sem Value
  | .tmp t => pure (tmps.getD t undef)
  | .cell a t => do loadVar t (← asAddr (tmps.getD a undef))

theorem resE_list {P : Program} {e : Env} {S : St} {k : Value → Prop} {F : Fr} {w : World} {tmps : Array Value} (hg : ∀ i, tmps.getD i undef = e i) (hw : Holds S F w) :
    ∀ (rs : List ResultVar) (acc : List Value), resE P e S rs acc k → ∃ vs, (rs.mapM (resM tmps)).run P w = .ok vs w ∧ k (finV (acc.reverse ++ vs)) := by
  intro rs
  induction rs with
  | nil => intro acc h; exact ⟨[], by simp, by simpa [resE] using h⟩
  | cons r rs ih =>
    intro acc h
    cases r with
    | tmp t =>
      obtain ⟨vs, h1, h2⟩ := ih _ h
      refine ⟨e t :: vs, ?_, by simpa using h2⟩
      simp only [List.mapM_cons, resM, Sem.run_bind, Sem.run_pure, Result.andThen, h1, hg t]
    | cell a t =>
      obtain ⟨v, hv, hk⟩ := h.out
      obtain ⟨vs, h1, h2⟩ := ih _ hk
      refine ⟨v :: vs, ?_, by simpa using h2⟩
      have hv' := hv F w hw
      rw [← hg a] at hv'
      simp only [List.mapM_cons, resM]
      rw [Sem.run_bind, hv']
      simp only [Sem.run_bind, Sem.run_pure, Result.andThen, h1]

theorem finV_arr (vs : List Value) : finV vs = (if h : vs.toArray.size = 1 then vs.toArray[0] else .tuple vs.toArray) := by
  match vs with
  | [] => rfl
  | [v] => rfl
  | _ :: _ :: _ => simp [finV]

theorem resE_run {P : Program} {fn : Func} {e : Env} {S : St} {k : Value → Prop} {F : Fr} {w : World} {a : Act} (hs : Sim n a e) (hw : Holds S F w) (h : resE P e S fn.results.toList [] k) :
    ∃ v, (results fn a.tmps).run P w = .ok v w ∧ k v := by
  obtain ⟨vs, h1, h2⟩ := resE_list hs.get hw _ _ h
  refine ⟨_, ?_, h2⟩
  have hres : results fn a.tmps = (do let vs ← fn.results.mapM (resM a.tmps); pure (if h : vs.size = 1 then vs[0] else .tuple vs)) := by
    unfold results; congr 1
  rw [hres, Array.mapM_eq_mapM_toList]
  simp only [map_eq_pure_bind, bind_assoc, pure_bind]
  rw [Sem.run_bind, h1]
  simp only [Result.andThen, Sem.run_pure, List.reverse_nil, List.nil_append]
  rw [finV_arr]

/-- Into a function. -/
theorem CallG.intro (hC : C.Ok) {f : FuncId} {fn : Func} {c : Code} {args : List Value} {S : St} {K : Post} (hf : C.P.funcs[f]? = some fn) (hb : fn.body = some c) (hn : fn.ntmps = n) (hargs : args.length ≤ n)
    (hok : codeOk n c = true) (h : W C n c (retQ C.P fn.results K) (env0 args) S) : CallG C.P f args.toArray S K := by
  refine ⟨fun F w hw => calls_of_wp hf hb ?_⟩
  have hs : Sim n { tmps := args.toArray ++ Array.replicate (fn.ntmps - args.toArray.size) undef, defers := [] } (env0 args) := by
    refine ⟨by simp [hn]; omega, fun i => ?_, rfl⟩
    simp only [env0, Array.getD_eq_getD_getElem?, List.getD_eq_getElem?_getD, Array.getElem?_append, List.size_toArray]
    split
    · simp
    · rename_i hlt
      rw [List.getElem?_eq_none (by omega)]
      simp only [Array.getElem?_replicate]
      split <;> rfl
  refine wp_mono ((W_sound hC c _ _ S hok h).run F _ w hs hw) ?_
  rintro x a' w' ⟨e', S', s', h1, h2, h3⟩
  cases x <;> simp only [retQ, bodyPost] at h3 ⊢
  all_goals first
    | (obtain ⟨v, g1, g2⟩ := resE_run s' h1 h3; exact ⟨s'.defers, v, g1, v, S', rfl, h1, h2, g2⟩)
    | exact h3.elim
end
end Go.HL
