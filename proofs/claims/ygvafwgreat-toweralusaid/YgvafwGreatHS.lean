import Derived.Test.YgvafwGreatHQ
set_option maxRecDepth 100000
set_option linter.unusedVariables false
set_option linter.unusedSimpArgs false
namespace Go.HL
open Go.Proofs

/-- Of one's own blocks some are let go (D), some frozen (Z), and what is left is as J says. -/
structure Rel (J : St → Prop) (S : St) : Prop where
  out : ∃ D Z G I', S.G.Perm (Z ++ (G ++ D)) ∧ (∀ x, I' x ↔ (S.I x ∨ x ∈ Z)) ∧ J ⟨I', G⟩
theorem Rel.same {J : St → Prop} {S : St} (h : J S) : Rel J S := ⟨[], [], S.G, S.I, by simp, fun x => by simp, h⟩
theorem Rel.drop {J : St → Prop} {I : Ent → Prop} (G D : List Ent) (h : J ⟨I, G⟩) : Rel J ⟨I, D ++ G⟩ := ⟨D, [], G, I, by simpa using List.perm_append_comm, fun x => by simp, h⟩
theorem Rel.frz {J : St → Prop} {I : Ent → Prop} (Z G : List Ent) (h : J ⟨fun x => I x ∨ x ∈ Z, G⟩) : Rel J ⟨I, Z ++ G⟩ := ⟨[], Z, G, _, by simp, fun _ => .rfl, h⟩
theorem Rel.perm {J : St → Prop} {I : Ent → Prop} {G : List Ent} (G' D : List Ent) (hp : G.Perm (G' ++ D)) (h : J ⟨I, G'⟩) : Rel J ⟨I, G⟩ := ⟨D, [], G', I, by simpa using hp, fun x => by simp, h⟩
theorem Rel.mono {J J' : St → Prop} {S : St} (h : Rel J S) (hk : ∀ S', Sub S.I S'.I → J S' → J' S') : Rel J' S := by
  obtain ⟨D, Z, G, I', hp, hi, hj⟩ := h.out
  exact ⟨D, Z, G, I', hp, hi, hk _ (fun x hx => (hi x).2 (.inl hx)) hj⟩
theorem Rel.holds {J : St → Prop} {S : St} {F : Fr} {h : World} (hr : Rel J S) (hh : Holds S F h) : ∃ S', Holds S' F h ∧ Sub S.I S'.I ∧ J S' := by
  obtain ⟨D, Z, G, I', hp, hi, hj⟩ := hr.out
  have h1 := (hh.perm hp).freeze
  have h2 : Holds ⟨fun x => S.I x ∨ x ∈ Z, G⟩ F h := by
    have h3 : Holds ⟨fun x => S.I x ∨ x ∈ Z, D ++ G⟩ F h := h1.perm List.perm_append_comm
    exact Holds.drop (S := ⟨fun x => S.I x ∨ x ∈ Z, []⟩) h3
  exact ⟨_, h2.congrI fun x hx => (hi x).1 hx, fun x hx => (hi x).2 (.inl hx), hj⟩
theorem GW.rel {P : Program} {n : Nat} {c : Code} {e : Env} {Q : HPost} {S : St} (h : Rel (fun S' => GW P n c e S' Q) S) : GW P n c e S Q :=
  ⟨fun F a w s hw => by
    obtain ⟨S', hh, hs, hj⟩ := h.holds hw
    exact wp_mono (hj.run F a w s hh) fun _ _ _ ⟨e', S2, s', h2, hs2, q⟩ => ⟨e', S2, s', h2, hs.trans hs2, q⟩⟩
theorem SeqS.rel {C : Cfg} {n : Nat} {c : Code} {e : Env} {Q : HPost} {S : St} (h : Rel (fun S' => SeqS C n c Q e S') S) : SeqS C n c Q e S :=
  ⟨fun hok => GW.rel (h.mono fun _ _ k => k.out hok)⟩
theorem CallG.rel {P : Program} {f : FuncId} {args : Array Value} {K : Post} {S : St} (h : Rel (fun S' => CallG P f args S' K) S) : CallG P f args S K :=
  ⟨fun F w hw => by
    obtain ⟨S', hh, hs, hj⟩ := h.holds hw
    exact (hj.run F w hh).mono fun _ _ ⟨v, S2, e, h2, hs2, k⟩ => ⟨v, S2, e, h2, hs.trans hs2, k⟩⟩
theorem CallG.post {P : Program} {f : FuncId} {args : Array Value} {K : Post} {S : St} (h : CallG P f args S fun v S' => Rel (K v) S') : CallG P f args S K :=
  ⟨fun F w hw => (h.run F w hw).mono fun _ _ ⟨v, S', e, hh, hs, k⟩ => by
    obtain ⟨S2, h2, hs2, hj⟩ := k.holds hh
    exact ⟨v, S2, e, h2, hs.trans hs2, hj⟩⟩
theorem OpG.post {P : Program} {op : Op} {ty : TypeId} {e : Env} {S : St} {K : Post} (h : OpG P op ty e S fun v S' => Rel (K v) S') : OpG P op ty e S K := by
  refine ⟨fun F w hw => ?_⟩
  have := h.run F w hw
  generalize (execOp (ev e) ⟨none, op, ty, "", #[], none⟩).run P w = r at this ⊢
  cases r with
  | halt x w => exact this.elim
  | ok x w =>
    cases x <;> simp only [OpUpon] at this ⊢
    case value => obtain ⟨S', a, b, c⟩ := this; obtain ⟨S2, h2, hs2, hj⟩ := c.holds a; exact ⟨S2, h2, b.trans hs2, hj⟩
    case skip => obtain ⟨S', a, b, c⟩ := this; obtain ⟨S2, h2, hs2, hj⟩ := c.holds a; exact ⟨S2, h2, b.trans hs2, hj⟩
    case enter => exact this.mono fun _ _ ⟨v, S', e, a, b, c⟩ => by
                    obtain ⟨S2, h2, hs2, hj⟩ := c.holds a; exact ⟨v, S2, e, h2, b.trans hs2, hj⟩
/-- A loop whose rounds may leave blocks behind. -/
theorem W.loopF {C : Cfg} {n : Nat} (hC : C.Ok) {e : Env} {S : St} {Q : HPost} {σ : Type} {c : Code} (hok : codeOk n c = true) (x : Nat) (J : σ → Env → St → Prop) (μ : σ → Nat) (s0 : σ) (h0 : Rel (J s0 e) S) (E : Env → St → Prop)
    (cont : ∀ e' S', Sub S.I S'.I → E e' S' → Q (.exit x) e' S')
    (round : ∀ s e' S', Sub S.I S'.I → J s e' S' → W C n c (loopQ (fun s e S => Rel (J s e) S) μ s x E Q) e' S') : GW C.P n (.loop c) e S Q := by
  refine .loop (fun s e S => Rel (J s e) S) μ s0 h0 fun s e' S' hs hJ => ?_
  refine GW.rel (hJ.mono fun S2 hs1 hj => (W_sound hC c _ e' S2 hok (round s e' S2 (hs.trans hs1) hj)).mono fun y e2 S3 hs2 q => ?_)
  cases y with
  | exit i =>
    simp only [thenQ]
    simp only [loopQ] at q
    cases hi : Nat.beq i x with
    | false => rw [hi] at q; exact q
    | true => rw [hi] at q; have : i = x := Nat.eq_of_beq_eq_true hi; subst this; exact cont e2 S3 ((hs.trans hs1).trans hs2) q
  | _ => exact q

/-! ### Lists: rows of elements of k cells each -/
structure Els (x : Ent) (o k : Nat) (vss : List (List Value)) : Prop where
  len : ∀ l ∈ vss, l.length = k
  row : Row x.c o vss.flatten
  fit : o + vss.length * k ≤ x.sz
theorem flat_len {k : Nat} : ∀ {vss : List (List Value)}, (∀ l ∈ vss, l.length = k) → vss.flatten.length = vss.length * k
  | [], _ => by simp
  | l :: vss, h => by rw [List.flatten_cons, List.length_append, h l (by simp), flat_len (fun m hm => h m (by simp [hm])), List.length_cons, Nat.add_mul]; omega
theorem flat_get {k : Nat} : ∀ {vss : List (List Value)} {i j : Nat}, (∀ l ∈ vss, l.length = k) → i < vss.length → j < k → vss.flatten[i * k + j]? = (vss.getD i [])[j]?
  | [], i, j, _, hi, _ => by simp at hi
  | l :: vss, 0, j, h, _, hj => by
    have hl := h l (by simp)
    rw [List.flatten_cons, Nat.zero_mul, Nat.zero_add, List.getElem?_append_left (by omega)]; rfl
  | l :: vss, i + 1, j, h, hi, hj => by
    have hl := h l (by simp)
    rw [List.flatten_cons, List.getElem?_append_right (by rw [hl, Nat.add_mul]; omega), hl, show (i + 1) * k + j - k = i * k + j by rw [Nat.add_mul]; omega, flat_get (fun m hm => h m (by simp [hm])) (by simpa using hi) hj, List.getD_cons_succ]
theorem Els.at {x : Ent} {o k i : Nat} {vss : List (List Value)} (h : Els x o k vss) (hi : i < vss.length) : Row x.c (o + i * k) (vss.getD i []) ∧ (vss.getD i []).length = k ∧ o + i * k + k ≤ x.sz := by
  have hm : vss.getD i [] ∈ vss := by rw [List.getD_eq_getElem?_getD, List.getElem?_eq_getElem hi]; exact List.getElem_mem hi
  have hl := h.len _ hm
  have hf := h.fit
  have hik : i * k + k ≤ vss.length * k := by rw [← Nat.succ_mul]; exact Nat.mul_le_mul_right k hi
  refine ⟨⟨fun j hj => ?_⟩, hl, by omega⟩
  rw [hl] at hj
  have := h.row.get (i * k + j) (by rw [flat_len h.len]; omega)
  rw [Nat.add_assoc, this, List.getD_eq_getElem?_getD (l := vss.flatten), flat_get h.len hi hj]
  exact (List.getD_eq_getElem?_getD ..).symm
section
variable {C : Cfg} {e : Env} {S : St} {ty : TypeId}
/-- Element i is read. -/
theorem QuG.el (hC : C.Ok) {q : Value → Prop} {x : Ent} {o k i z : Nat} {vss : List (List Value)} {t : TypeId} {a : Operand} {ti : TI} (hr : Els x o k vss) (hx : Rd S x) (hD : C.D t = some ti) (hk : isAggK ti = true) (hs : ti.size = k) (ha : ev e a = ptr x.b (addS o (mulS i z))) (hz : z = k) (hi : i < vss.length)
    (h : q (.agg (vss.getD i []).toArray)) : QuG C.P (.load t a) ty e S q := by
  subst hz
  obtain ⟨h1, h2, h3⟩ := hr.at hi
  exact QuG.rowE hC h1 hx hD hk ha rfl (by rw [addS_eq, mulS_eq]) (by rw [h2, hs]) (by rw [hs]; omega) h
theorem QuG.el1 (hC : C.Ok) {q : Value → Prop} {x : Ent} {o i z : Nat} {vs : List Value} {t : TypeId} {a : Operand} {ti : TI} (hr : Row x.c o vs) (hx : Rd S x) (hD : C.D t = some ti) (hk : isAggK ti = false) (ha : ev e a = ptr x.b (addS o (mulS i z))) (hz : z = 1) (hi : i < vs.length) (hf : o + vs.length ≤ x.sz)
    (h : q (vs.getD i undef)) : QuG C.P (.load t a) ty e S q :=
  QuG.cell hC hr hx hD hk ha rfl (by rw [addS_eq, mulS_eq, hz, Nat.mul_one]) hi (by omega) h
end
/-- A slice of elements that nobody writes any more. -/
def RowI (I : Ent → Prop) (k : Nat) (v : Value) (vss : List (List Value)) : Prop :=
  (∀ l ∈ vss, l.length = k) ∧ ((v = .slice none 0 0 ∧ vss = []) ∨ ∃ x o cap, v = sl x.b o vss.length cap ∧ vss.length ≤ cap ∧ I x ∧ Els x o k vss)
theorem RowI.up {I J : Ent → Prop} {k : Nat} {v : Value} {vss : List (List Value)} (h : RowI I k v vss) (hs : Sub I J) : RowI J k v vss :=
  ⟨h.1, h.2.imp id fun ⟨x, o, cap, a, b, c, d⟩ => ⟨x, o, cap, a, b, hs x c, d⟩⟩
theorem RowI.nil (I : Ent → Prop) (k : Nat) : RowI I k (.slice none 0 0) [] := ⟨by simp, .inl ⟨rfl, rfl⟩⟩
/-- A slice of elements of one's own, with its block, if it has one. -/
structure OwnL (T : TypeId) (k : Nat) (v : Value) (vss : List (List Value)) (M : List Ent) : Prop where
  len : ∀ l ∈ vss, l.length = k
  out : (v = .slice none 0 0 ∧ vss = [] ∧ M = []) ∨ ∃ b cap c, v = sl b 0 vss.length cap ∧ vss.length ≤ cap ∧ M = [⟨b, mulS cap k, T, c⟩] ∧ Row c 0 vss.flatten
theorem OwnL.nil (T : TypeId) (k : Nat) : OwnL T k (.slice none 0 0) [] [] := ⟨by simp, .inl ⟨rfl, rfl, rfl⟩⟩
theorem OwnL.row {T : TypeId} {k : Nat} {v : Value} {vss : List (List Value)} {M : List Ent} {I : Ent → Prop} (h : OwnL T k v vss M) (hm : ∀ x ∈ M, I x) : RowI I k v vss := by
  refine ⟨h.len, ?_⟩
  rcases h.out with ⟨a, b, _⟩ | ⟨b, cap, c, h1, h2, h3, h4⟩
  · exact .inl ⟨a, b⟩
  · refine .inr ⟨⟨b, mulS cap k, T, c⟩, 0, cap, h1, h2, hm _ (by rw [h3]; simp), h.len, h4, ?_⟩
    show 0 + vss.length * k ≤ mulS cap k
    rw [mulS_eq, Nat.zero_add]; exact Nat.mul_le_mul_right k h2
section
variable {C : Cfg} {e : Env} {ty : TypeId}
/-- append of one element to a list of one's own. The row that held the element is let go. -/
theorem OpG.appendOwn (hC : C.Ok) {s x : Operand} {ts tx : TypeId} {i i2 j : TI} {K : Post} {I : Ent → Prop} {v : Value} {vss : List (List Value)} {M L : List Ent} {tb : Nat} {Tt : TypeId} {tc : Nat → Value} {el : List Value}
    (ho : OwnL i.elem j.size v vss M) (hD : C.D ts = some i) (hk : i.kind = 4) (hj : C.D i.elem = some j) (hjs : 0 < j.size) (hD2 : C.D tx = some i2) (hk2 : i2.kind = 4)
    (hs : ev e s = v) (hx : ev e x = sl tb 0 1 1) (hr : Row tc 0 el) (hel : el.length = j.size) (h1 : ∀ u ∈ el, one u = true) (hlen : vss.length < 2 ^ 20) (hby : j.bytes ≤ 2 ^ 20)
    (h : ∀ v' M', OwnL i.elem j.size v' (vss ++ [el]) M' → K v' ⟨I, L ++ M'⟩) : OpG C.P (.call ⟨.builtin .append, #[s, x], #[ts, tx]⟩) ty e ⟨I, ⟨tb, j.size, Tt, tc⟩ :: (L ++ M)⟩ K := by
  refine OpG.post ?_
  have hbig : (2 * (vss.length + 1) + 1024) * j.bytes ≤ 2 ^ 48 := by
    have : (2 * (vss.length + 1) + 1024) * j.bytes ≤ 2 ^ 22 * 2 ^ 20 := Nat.mul_le_mul (by omega) hby
    omega
  have hlen' : ∀ l ∈ vss ++ [el], l.length = j.size := by
    intro l hl
    rcases List.mem_append.1 hl with hl | hl
    · exact ho.len l hl
    · obtain rfl := List.mem_singleton.1 hl; exact hel
  have fl := flat_len ho.len
  have mk : ∀ {b2 cap2 : Nat} {c2 : Nat → Value}, vss.length + 1 ≤ cap2 → (∀ p, p < vss.length * j.size → c2 p = vss.flatten.getD p undef) → (∀ p, p < j.size → c2 (vss.length * j.size + p) = tc (0 + p)) → OwnL i.elem j.size (sl b2 0 (vss.length + 1) cap2) (vss ++ [el]) [⟨b2, mulS cap2 j.size, i.elem, c2⟩] := by
    intro b2 cap2 c2 h2 h3 h4
    refine ⟨hlen', .inr ⟨b2, cap2, c2, by simp, by simpa using h2, rfl, ⟨fun p hp => ?_⟩⟩⟩
    rw [List.flatten_append, List.flatten_singleton, List.length_append, fl, hel] at hp
    rw [List.flatten_append, List.flatten_singleton, Nat.zero_add, List.getD_eq_getElem?_getD]
    by_cases hlt : p < vss.length * j.size
    · rw [List.getElem?_append_left (by omega), h3 p hlt, List.getD_eq_getElem?_getD]
    · rw [List.getElem?_append_right (by omega), fl]
      have := h4 (p - vss.length * j.size) (by omega)
      rw [show vss.length * j.size + (p - vss.length * j.size) = p by omega] at this
      rw [this, hr.get _ (by omega), List.getD_eq_getElem?_getD]
  rcases ho.out with ⟨hv, hvs, hM⟩ | ⟨b, cap, c, hv, hcap, hM, hrow⟩
  · subst hv hvs hM
    refine OpG.appendNew hC (y := ⟨tb, j.size, Tt, tc⟩) (len := 0) (cap := 0) (m := 1) (cs := fun _ => undef) hD hk hj hjs hD2 hk2 hs ⟨_, rfl⟩ ?_ hx (.inr List.mem_cons_self) rfl ?_ (by decide) hbig (by decide) ?_
    · intro F w hw
      simp [Builtin.firstCells, mulS_eq]
      rfl
    · show 0 + mulS 1 j.size ≤ j.size; rw [mulS_eq]; omega
    · intro b2 cap2 c2 hc h2 h3
      refine Rel.perm (L ++ [_]) [⟨tb, j.size, Tt, tc⟩] ?_ (h _ _ (mk (b2 := b2) (cap2 := cap2) (c2 := c2) hc ?_ ?_))
      · simp only [List.append_nil, List.append_assoc, List.singleton_append]
        refine (List.Perm.swap _ _ _).trans ?_
        refine List.Perm.trans ?_ (List.perm_middle.symm)
        refine List.Perm.trans ?_ ((List.perm_append_singleton _ _).symm.cons _)
        exact List.Perm.swap _ _ _
      · intro p hp; simp at hp
      · intro p hp
        have := h3 p (by rw [mulS_eq]; omega)
        simpa [mulS_eq] using this
  · subst hv hM
    by_cases hroom : vss.length + 1 ≤ cap
    · refine OpG.appendRoom hC (y := ⟨tb, j.size, Tt, tc⟩) (z := ⟨b, mulS cap j.size, i.elem, c⟩) (len := vss.length) (cap := cap) (m := 1) (1 + L.length) ?_ hD hk hj hD2 hk2 hs rfl hx (.inr List.mem_cons_self) rfl ?_ hroom ?_ ?_ ?_
      · rw [Nat.add_comm, List.getElem?_cons_succ, List.getElem?_append_right (Nat.le_refl _)]; simp
      · show 0 + mulS 1 j.size ≤ j.size; rw [mulS_eq]; omega
      · show 0 + mulS (vss.length + 1) j.size ≤ mulS cap j.size
        rw [mulS_eq, mulS_eq, Nat.zero_add]; exact Nat.mul_le_mul_right _ hroom
      · intro p hp
        rw [mulS_eq, Nat.one_mul] at hp
        show one (tc (0 + p)) = true
        rw [hr.get p (by omega), List.getD_eq_getElem?_getD, List.getElem?_eq_getElem (by omega)]
        exact h1 _ (List.getElem_mem _)
      · refine Rel.perm (L ++ [⟨b, mulS cap j.size, i.elem, updN c (0 + mulS vss.length j.size) (cellsFrom tc 0 (mulS 1 j.size))⟩]) [⟨tb, j.size, Tt, tc⟩] ?_ (h _ _ (mk hroom ?_ ?_))
        · rw [Nat.add_comm 1, List.set_cons_succ, List.set_append_right _ _ (Nat.le_refl _), Nat.sub_self]
          exact (List.perm_append_singleton _ _).symm
        · intro p hp
          have := hrow.get p (by rw [fl]; exact hp)
          rw [Nat.zero_add] at this
          simp only [updN, mulS_eq]
          rw [if_neg (by omega)]; exact this
        · intro p hp
          simp only [updN, mulS_eq, Nat.one_mul, cellsFrom_length, Nat.zero_add]
          rw [if_pos (by omega), List.getD_eq_getElem?_getD, show vss.length * j.size + p - vss.length * j.size = p by omega, cellsFrom_get _ _ _ _ hp]; simp
    · refine OpG.appendNew hC (y := ⟨tb, j.size, Tt, tc⟩) (len := vss.length) (cap := cap) (m := 1) (cs := c) hD hk hj hjs hD2 hk2 hs ⟨_, rfl⟩ ?_ hx (.inr List.mem_cons_self) rfl ?_ (by omega) hbig (by omega) ?_
      · intro F w hw
        have := firstCells_run (P := C.P) hw (y := ⟨b, mulS cap j.size, i.elem, c⟩) (.inr (by simp)) (o := 0) (l := vss.length) (c := cap) (m := vss.length * j.size) (by show 0 + _ ≤ mulS cap j.size; rw [mulS_eq, Nat.zero_add]; exact Nat.mul_le_mul_right _ hcap) j.size vss.length rfl
        rw [mulS_eq]; exact this
      · show 0 + mulS 1 j.size ≤ j.size; rw [mulS_eq]; omega
      · intro b2 cap2 c2 hc h2 h3
        refine Rel.perm (L ++ [_]) [⟨tb, j.size, Tt, tc⟩, ⟨b, mulS cap j.size, i.elem, c⟩] ?_ (h _ _ (mk (b2 := b2) (cap2 := cap2) (c2 := c2) hc ?_ ?_))
        · simp only [List.append_assoc, List.singleton_append]
          refine List.Perm.trans ?_ (List.perm_middle.symm)
          refine List.Perm.cons _ ?_
          refine List.Perm.trans ?_ (List.perm_middle.symm)
          exact List.Perm.refl _
        · intro p hp
          have := hrow.get p (by rw [fl]; exact hp)
          rw [Nat.zero_add] at this
          rw [h2 p (by rw [mulS_eq]; exact hp)]; exact this
        · intro p hp
          have := h3 p (by rw [mulS_eq]; omega)
          rw [mulS_eq] at this; exact this
end
theorem Fin.own {K : Post} {v : Value} {I : Ent → Prop} (L G M : List Ent) (h : K v ⟨fun x => I x ∨ x ∈ M, G⟩) : Fin K v ⟨I, L ++ (G ++ M)⟩ :=
  ⟨L, M, G, _, by
    refine (List.perm_append_comm).trans ?_
    rw [List.append_assoc]
    refine (List.perm_append_comm_assoc _ _ _).trans ?_
    exact List.Perm.refl _, fun _ => .rfl, h⟩
end Go.HL
