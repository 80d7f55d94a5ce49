import Derived.Test.YgvafwGreatHLi
set_option linter.unusedVariables false
set_option linter.unusedSimpArgs false
namespace Go.HL
section
variable {C : Cfg} {n : Nat} {ty : TypeId} {e : Env} {S : St} {K : Post} {q : Value → Prop}

/-- A cell is read. -/
theorem QuG.load1 (hC : C.Ok) {t : TypeId} {a : Operand} {i : TI} {b o : Nat} {x : Ent} (hD : C.D t = some i) (hk : isAggK i = false) (ha : ev e a = ptr b o) (hx : Rd S x) (hb : x.b = b) (ho : o < x.sz) (h : q (x.c o)) :
    QuG C.P (.load t a) ty e S q := by
  refine .mk' (fun F w hw => ?_) h
  subst hb
  have hc := (hw.rd hx).cell ho
  simp only [execOp, ha, ptr, Instr.loadAt, Instr.sureAddr, loadVar, Sem.run_bind, Sem.run_pure, Result.andThen, (hC.tab t i hD).isAgg w, hk, Bool.false_eq_true, if_false, Go.load, Sem.run, hc]

/-- A struct or an array is read. -/
theorem QuG.loadN (hC : C.Ok) {t : TypeId} {a : Operand} {i : TI} {b o : Nat} {x : Ent} (hD : C.D t = some i) (hk : isAggK i = true) (ha : ev e a = ptr b o) (hx : Rd S x) (hb : x.b = b) (ho : o + i.size ≤ x.sz)
    (h : q (.agg (cellsFrom x.c o i.size).toArray)) : QuG C.P (.load t a) ty e S q := by
  refine .mk' (fun F w hw => ?_) h
  subst hb
  have hc := loadCells_run (P := C.P) (hw.rd hx) i.size o ho
  simp only [execOp, ha, ptr, Instr.loadAt, Instr.sureAddr, loadVar, Sem.run_bind, Sem.run_pure, Result.andThen, (hC.tab t i hD).isAgg w, (hC.tab t i hD).sizeOf w, hk, if_true, hc]

theorem OpG.load1 (hC : C.Ok) {t : TypeId} {a : Operand} {i : TI} {b o : Nat} {x : Ent} (hD : C.D t = some i) (hk : isAggK i = false) (ha : ev e a = ptr b o) (hx : Rd S x) (hb : x.b = b) (ho : o < x.sz) (h : K (x.c o) S) :
    OpG C.P (.load t a) ty e S K := (QuG.load1 hC hD hk ha hx hb ho h).op

theorem LdG.ofN (hC : C.Ok) {t : TypeId} {p : Value} {i : TI} {b o : Nat} {x : Ent} (hD : C.D t = some i) (hk : isAggK i = true) (ha : p = ptr b o) (hx : Rd S x) (hb : x.b = b) (ho : o + i.size ≤ x.sz)
    (h : q (.agg (cellsFrom x.c o i.size).toArray)) : LdG C.P t p S q := by
  refine ⟨_, fun F w hw => ?_, h⟩
  subst hb
  have hc := loadCells_run (P := C.P) (hw.rd hx) i.size o ho
  simp only [ha, ptr, asAddr, loadVar, Sem.run_bind, Sem.run_pure, Result.andThen, (hC.tab t i hD).isAgg w, (hC.tab t i hD).sizeOf w, hk, if_true, hc]

/-- A store into a block of one's own. -/
theorem OpG.store (hC : C.Ok) {t : TypeId} {a v : Operand} {i : TI} {b o : Nat} {x : Ent} (k : Nat) (hx : S.G[k]? = some x) (hD : C.D t = some i) (ha : ev e a = ptr b o) (hb : x.b = b) (hs : (ev e v).cells.size = i.size) (ho : o + i.size ≤ x.sz)
    (h1 : ∀ u ∈ (ev e v).cells.toList, one u = true) (h : K undef ⟨S.I, S.G.set k ⟨x.b, x.sz, x.T, updN x.c o (ev e v).cells.toList⟩⟩) : OpG C.P (.store t a v) ty e S K := by
  refine ⟨fun F w hw => ?_⟩
  subst hb
  obtain ⟨w', hr, hh⟩ := storeCells_run (P := C.P) (F := F) (ev e v).cells.toList 0 w S x k o hw hx (by simp [hs]; omega) h1
  simp only [Nat.add_zero] at hh
  have hsz := (hC.tab t i hD).sizeOf w
  simp only [execOp, ha, ptr, Instr.storeAt, Instr.sureAddr, storeVar, Sem.run_bind, Sem.run_pure, Result.andThen, hsz, hs, ne_eq, not_true_eq_false, if_false, hr, OpUpon]
  exact ⟨_, hh, .refl _, h⟩

/-- A store of one cell. -/
theorem OpG.store1 (hC : C.Ok) {t : TypeId} {a v : Operand} {i : TI} {b o : Nat} {x : Ent} (k : Nat) (hx : S.G[k]? = some x) (hD : C.D t = some i) (hi : i.size = 1) (ha : ev e a = ptr b o) (hb : x.b = b) (ho : o < x.sz)
    (h1 : one (ev e v) = true) (h : K undef ⟨S.I, S.G.set k ⟨x.b, x.sz, x.T, upd x.c o (ev e v)⟩⟩) : OpG C.P (.store t a v) ty e S K := by
  have hc : (ev e v).cells = #[ev e v] := by
    generalize ev e v = u at h1
    cases u <;> first | rfl | (simp [one] at h1)
  refine OpG.store hC k hx hD ha hb (by rw [hc, hi]; rfl) (by omega) (by rw [hc]; simpa using h1) ?_
  rw [hc]
  have : updN x.c o [ev e v] = upd x.c o (ev e v) := by
    funext j; simp only [updN, upd, List.length_cons, List.length_nil, Nat.zero_add]
    by_cases hj : j = o
    · subst hj; rw [if_pos (by omega), if_pos rfl]; simp
    · rw [if_neg (by omega), if_neg hj]
  simpa [this] using h

/-- A store of one cell: where, and what. -/
theorem OpG.st (hC : C.Ok) {t : TypeId} {a v : Operand} {i : TI} {b o : Nat} {x : Ent} (k : Nat) (o2 : Nat) (u : Value) (hx : S.G[k]? = some x) (hD : C.D t = some i) (hi : i.size = 1) (ha : ev e a = ptr b o) (hb : x.b = b) (hoo : o = o2) (hv : ev e v = u) (ho : o2 < x.sz)
    (h1 : one u = true) (h : K undef ⟨S.I, S.G.set k ⟨x.b, x.sz, x.T, upd x.c o2 u⟩⟩) : OpG C.P (.store t a v) ty e S K := by
  subst hoo; subst hv
  exact OpG.store1 hC k hx hD hi ha hb ho h1 h

/-! ### The state may be said otherwise -/
theorem Holds.perm {S : St} {F : Fr} {h : World} {G' : List Ent} (hh : Holds S F h) (hp : S.G.Perm G') : Holds ⟨S.I, G'⟩ F h := by
  obtain ⟨h1, h2, h3, h4, h5⟩ := hh
  have hp2 : (S.G ++ F.l).Perm (G' ++ F.l) := hp.append_right F.l
  exact ⟨h1, fun x hx => h2 x (hp2.mem_iff.2 hx), (hp2.pairwise_iff (fun {a b} hab => Ne.symm hab)).1 h3, fun x hx y hy => h4 x hx y (hp2.mem_iff.2 hy), h5.sub fun x hx => List.mem_append_left _ (hp.mem_iff.2 hx)⟩

theorem focus_perm {G : List Ent} {i : Nat} {x : Ent} (h : G[i]? = some x) : G.Perm (x :: G.eraseIdx i) := by
  obtain ⟨A, B, rfl, rfl⟩ := set_split h
  simp only [List.eraseIdx_append_of_length_le (Nat.le_refl _), Nat.sub_self, List.eraseIdx_cons_zero]
  exact List.perm_middle

/-- One's own block number i is put first. -/
theorem CallG.focus {P : Program} {f : FuncId} {args : Array Value} (i : Nat) {x : Ent} (hx : S.G[i]? = some x) (h : CallG P f args ⟨S.I, x :: S.G.eraseIdx i⟩ K) : CallG P f args S K :=
  ⟨fun F w hw => (h.run F w (hw.perm (focus_perm hx))).mono fun _ _ r => r⟩
theorem W.focus (hC : C.Ok) {c : Code} {Q : HPost} (hok : codeOk n c = true) (i : Nat) {x : Ent} (hx : S.G[i]? = some x) (h : W C n c Q e ⟨S.I, x :: S.G.eraseIdx i⟩) : GW C.P n c e S Q :=
  ⟨fun F a w hs hw => (W_sound hC c Q e _ hok h).run F a w hs (hw.perm (focus_perm hx))⟩

theorem Holds.drop {S : St} {F : Fr} {h : World} {G1 G2 : List Ent} (hh : Holds ⟨S.I, G1 ++ G2⟩ F h) : Holds ⟨S.I, G2⟩ F h := by
  obtain ⟨h1, h2, h3, h4, h5⟩ := hh
  simp only [List.append_assoc] at h1 h2 h3 h4
  exact ⟨h1, fun x hx => h2 x (List.mem_append_right _ hx), (List.pairwise_append.1 h3).2.1, fun x hx y hy => h4 x hx y (List.mem_append_right _ hy), h5.sub fun x hx => List.mem_append_left _ (List.mem_append_right _ hx)⟩

/-- A call by what is known of it: the blocks that it needs stand first; the rest stays as it is. -/
theorem CallG.use {P : Program} {f : FuncId} {args : Array Value} {I : Ent → Prop} {G1 G2 : List Ent} {R : Post} (h : CallG P f args ⟨I, G1⟩ R)
    (hk : ∀ v I' G', Sub I I' → R v ⟨I', G'⟩ → K v ⟨I', G' ++ G2⟩) : CallG P f args ⟨I, G1 ++ G2⟩ K := by
  refine ⟨fun F w hw => ?_⟩
  have hw' : Holds ⟨I, G1⟩ (F.app G2) w := by
    obtain ⟨h1, h2, h3, h4, h5⟩ := hw
    simp only [List.append_assoc] at h1 h2 h3 h4
    exact ⟨h1, h2, h3, h4, h5.top, h5.base, fun x hx => h5.high x (by simpa using hx)⟩
  refine (h.run _ w hw').mono ?_
  rintro x w' ⟨v, ⟨I', G'⟩, hx, hh, hs, hr⟩
  refine ⟨v, ⟨I', G' ++ G2⟩, hx, ?_, hs, hk v I' G' hs hr⟩
  obtain ⟨h1, h2, h3, h4, h5⟩ := hh
  exact ⟨h1, by simpa using h2, by simpa using h3, by simpa using h4, h5.top, h5.base, fun x hx => h5.high x (by simpa using hx)⟩

/-- At the end: blocks that are one's own may be let go, or be given to those that nobody writes any more. -/
theorem Holds.freeze {I : Ent → Prop} {F : Fr} {h : World} {G1 G2 : List Ent} (hh : Holds ⟨I, G1 ++ G2⟩ F h) : Holds ⟨fun x => I x ∨ x ∈ G1, G2⟩ F h := by
  obtain ⟨h1, h2, h3, h4, h5⟩ := hh
  simp only [List.append_assoc] at h1 h2 h3 h4
  refine ⟨fun x hx => hx.elim (h1 x) (fun hm => (h2 x (List.mem_append_left _ hm)).sees), fun x hx => h2 x (List.mem_append_right _ hx), (List.pairwise_append.1 h3).2.1, fun x hx y hy => ?_, h5.sub fun x hx => List.mem_append_left _ (List.mem_append_right _ hx)⟩
  rcases hx with hx | hx
  · exact h4 x hx y (List.mem_append_right _ hy)
  · exact (List.pairwise_append.1 h3).2.2 x hx y hy

/-- What is asked at the end of a function: of one's own blocks some are let go (D), some frozen (Z). -/
structure Fin (K : Post) (v : Value) (S : St) : Prop where
  out : ∃ D Z G I', S.G.Perm (Z ++ (G ++ D)) ∧ (∀ x, I' x ↔ (S.I x ∨ x ∈ Z)) ∧ K v ⟨I', G⟩
theorem Fin.focus {v : Value} (i : Nat) {x : Ent} (hx : S.G[i]? = some x) (h : Fin K v ⟨S.I, x :: S.G.eraseIdx i⟩) : Fin K v S := by
  obtain ⟨D, Z, G, I', hp, hi, hk⟩ := h.out
  exact ⟨D, Z, G, I', (focus_perm hx).trans hp, hi, hk⟩
theorem Fin.done {v : Value} {I : Ent → Prop} (Z G D : List Ent) (h : K v ⟨fun x => I x ∨ x ∈ Z, G⟩) : Fin K v ⟨I, Z ++ (G ++ D)⟩ := ⟨D, Z, G, _, .refl _, fun _ => .rfl, h⟩
theorem Fin.drop {v : Value} {I : Ent → Prop} (G D : List Ent) (h : K v ⟨I, G⟩) : Fin K v ⟨I, D ++ G⟩ := ⟨D, [], G, I, by simpa using List.perm_append_comm, fun x => by simp, h⟩
theorem Fin.frz {v : Value} {I : Ent → Prop} (Z G : List Ent) (h : K v ⟨fun x => I x ∨ x ∈ Z, G⟩) : Fin K v ⟨I, Z ++ G⟩ := ⟨[], Z, G, _, by simp, fun _ => .rfl, h⟩
theorem Fin.same {v : Value} (h : K v S) : Fin K v S := ⟨[], [], S.G, S.I, by simp, fun x => by simp, h⟩
theorem Holds.congrI {I I' : Ent → Prop} {G : List Ent} {F : Fr} {h : World} (hh : Holds ⟨I, G⟩ F h) (hi : ∀ x, I' x → I x) : Holds ⟨I', G⟩ F h :=
  ⟨fun x hx => hh.imm x (hi x hx), hh.own, hh.dis, fun x hx => hh.apart x (hi x hx), hh.low⟩

theorem CallG.start (hC : C.Ok) {f : FuncId} {fn : Func} {c : Code} {args : List Value} (hf : C.P.funcs[f]? = some fn) (hb : fn.body = some c) (hn : fn.ntmps = n) (hargs : args.length ≤ n)
    (hok : codeOk n c = true) (h : W C n c (retQ C.P fn.results (Fin K)) (env0 args) S) : CallG C.P f args.toArray S K := by
  have := CallG.intro hC hf hb hn hargs hok h
  refine ⟨fun F w hw => (this.run F w hw).mono ?_⟩
  rintro x w' ⟨v, S', hx, hh, hs, ⟨D, Z, G, I', hp, hi, hk⟩⟩
  have h1 := (hh.perm hp).freeze
  have h2 : Holds ⟨fun x => S'.I x ∨ x ∈ Z, G⟩ F w' := by
    have h3 : Holds ⟨fun x => S'.I x ∨ x ∈ Z, D ++ G⟩ F w' := h1.perm List.perm_append_comm
    exact Holds.drop (S := ⟨fun x => S'.I x ∨ x ∈ Z, []⟩) h3
  exact ⟨v, _, hx, h2.congrI fun x hx => (hi x).1 hx, fun x hx => (hi x).2 (.inl (hs x hx)), hk⟩

/-- The variables that are known are laid over whatever the others hold. -/
theorem W.slots {c : Code} {Q : HPost} (l : List (Nat × Value)) (hl : HL.slots l e) (h : ∀ e', W C n c Q (over e' l) S) : W C n c Q e S := by
  have := h e; rw [over_slots l hl] at this; exact this
/-- A cell is read, and what it holds. -/
theorem QuG.ld (hC : C.Ok) {x : Ent} (hx : Rd S x) {t : TypeId} {a : Operand} {i : TI} {b o : Nat} {v : Value} (hD : C.D t = some i) (hk : isAggK i = false) (ha : ev e a = ptr b o) (hb : x.b = b) (ho : o < x.sz) (hv : x.c o = v) (h : q v) :
    QuG C.P (.load t a) ty e S q := QuG.load1 hC hD hk ha hx hb ho (by rw [hv]; exact h)
/-- A cell is read: where, and what it holds. -/
theorem QuG.ldo (hC : C.Ok) {x : Ent} (hx : Rd S x) {t : TypeId} {a : Operand} {i : TI} {b o : Nat} (o2 : Nat) (v : Value) (hD : C.D t = some i) (hk : isAggK i = false) (ha : ev e a = ptr b o) (hb : x.b = b) (hoo : o = o2) (ho : o2 < x.sz) (hv : x.c o2 = v) (h : q v) :
    QuG C.P (.load t a) ty e S q := by subst hoo; exact QuG.load1 hC hD hk ha hx hb ho (by rw [hv]; exact h)

theorem CondS.split {v : Value} {b : Bool} {X Y : Prop} (hv : v = .bool b) (ht : b = true → X) (hf : b = false → Y) : CondS v X Y := by
  subst hv; cases b
  · exact ⟨hf rfl⟩
  · exact ⟨ht rfl⟩
theorem CondS.t {v : Value} {X Y : Prop} (hv : v = .bool true) (h : X) : CondS v X Y := by subst hv; exact ⟨h⟩
theorem CondS.f {v : Value} {X Y : Prop} (hv : v = .bool false) (h : Y) : CondS v X Y := by subst hv; exact ⟨h⟩
theorem GuardS.split {v : Value} {b want : Bool} {X Y : Value → Prop} (hv : v = .bool b) (ht : b = want → X (.bool want)) (hf : b = (!want) → Y (.bool (!want))) : GuardS v want X Y := by
  subst hv; refine ⟨?_⟩; cases b <;> cases want <;> first | exact ht rfl | exact hf rfl
theorem GuardS.yes {v : Value} {want : Bool} {X Y : Value → Prop} (hv : v = .bool want) (h : X (.bool want)) : GuardS v want X Y := by
  subst hv; refine ⟨?_⟩; cases want <;> exact h
theorem GuardS.no {v : Value} {want : Bool} {X Y : Value → Prop} (hv : v = .bool (!want)) (h : Y (.bool (!want))) : GuardS v want X Y := by
  subst hv; refine ⟨?_⟩; cases want <;> exact h
end
end Go.HL
