import Derived.Test.YgvafwGreatY9
set_option maxRecDepth 100000
set_option maxHeartbeats 4000000
set_option linter.unusedVariables false
set_option linter.unusedSimpArgs false
-- v2
-- plus: (refine QuG.keep ?_; fail "none")
-- plus: (refine QuG.keep ?_; fail "none")
-- plus: (refine OpG.keep ?_; fail "none")
-- plus: (refine LdG.keep ?_; fail "none")
-- plus: refine And.intro ⟨⟨by assumption, Nat.le_of_ble_eq_true rfl⟩, trivial⟩ ?_
namespace Go.HL
section
variable {C : Cfg} {e : Env} {S : St} {ty : TypeId} {q : Value → Prop} {t : TypeId} {a : Operand} {ti : TI} {b b' o n sz : Nat} {T : TypeId} {c : Nat → Value} {vs : List Value}
theorem Row.sub {p : Nat} {l : List Value} (hs : (vs.drop p).take n = l) (hl : l.length = n) (hr : Row c o vs) : Row c (o + p) l := by
  refine ⟨fun i hi => ?_⟩
  rw [hl] at hi
  have hlen := congrArg List.length hs
  simp only [List.length_take, List.length_drop, hl] at hlen
  rw [Nat.add_assoc, hr.get (p + i) (by omega), ← hs, List.getD_eq_getElem?_getD, List.getD_eq_getElem?_getD, List.getElem?_take, if_pos hi, List.getElem?_drop]
theorem QuG.subL (hC : C.Ok) (k : Nat) {p o' : Nat} {l : List Value} (hx : S.G[k]? = some ⟨b, sz, T, HL.updN c o vs⟩) (hD : C.D t = some ti) (hk : isAggK ti = true) (ha : ev e a = ptr b' o') (hb : b = b') (hoo : o' = o + p) (hs : (vs.drop p).take ti.size = l) (hl : l.length = ti.size) (ho : o + p + ti.size ≤ sz) (h : q (.agg l.toArray)) : QuG C.P (.load t a) ty e S q :=
  QuG.rowE hC (x := ⟨b, sz, T, HL.updN c o vs⟩) (Row.sub hs hl (Row.updN2 c o vs)) (.inr (List.mem_of_getElem? hx)) hD hk ha hb hoo hl ho h
theorem QuG.l1E (hC : C.Ok) (k : Nat) {u : Value} (hx : S.G[k]? = some ⟨b, sz, T, c⟩) (hD : C.D t = some ti) (hk : isAggK ti = false) (ha : ev e a = ptr b' o) (hb : b = b') (ho : o < sz) (hu : c o = u) (h : q u) : QuG C.P (.load t a) ty e S q :=
  QuG.l1 hC k hx hD hk ha hb ho (by rw [hu]; exact h)
theorem LdG.upL (hC : C.Ok) (k : Nat) {p : Value} {o' : Nat} (hx : S.G[k]? = some ⟨b, sz, T, HL.updN c o vs⟩) (hD : C.D t = some ti) (hk : isAggK ti = true) (ha : p = ptr b' o') (hb : b = b') (hoo : o' = o) (hl : vs.length = ti.size) (ho : o + ti.size ≤ sz) (h : q (.agg vs.toArray)) : LdG C.P t p S q :=
  LdG.rowE hC (x := ⟨b, sz, T, HL.updN c o vs⟩) (Row.updN2 c o vs) (.inr (List.mem_of_getElem? hx)) hD hk ha hb hoo hl ho h
end
end Go.HL
namespace Go.Proofs.YgvafwGreat
open Go.HL Go.Proofs

/-- An account of the specification's. -/
structure YA where
  addr : List Nat
  nonce : Nat
  bal : Nat
  code : List Nat
  slots : List (Nat × Nat)
structure AdOk (a : List Nat) : Prop where
  len : a.length = 20
  b8 : ∀ d ∈ a, d < 256
theorem AdOk.bv {a : List Nat} (h : AdOk a) : (bvs a).length = 20 := by rw [bvs_len]; exact h.len
def SlotC (I : Ent → Prop) (l : List Value) (s : Nat × Nat) : Prop := ∃ kv vv, l = [kv, vv] ∧ NatI I kv s.1 ∧ NatI I vv s.2
structure SlotsI (I : Ent → Prop) (v : Value) (ss : List (Nat × Nat)) : Prop where
  out : ∃ vss, RowI I 2 v vss ∧ vss.length = ss.length ∧ ∀ i, i < ss.length → SlotC I (vss.getD i []) (ss.getD i (0, 0))
structure AcctC (I : Ent → Prop) (l : List Value) (a : YA) : Prop where
  ok : AdOk a.addr
  out : ∃ nv bv cv sv, l = bvs a.addr ++ [nv, bv, cv, sv] ∧ NatI I nv a.nonce ∧ NatI I bv a.bal ∧ Byt ⟨I, []⟩ cv a.code ∧ SlotsI I sv a.slots
structure AcctsI (I : Ent → Prop) (v : Value) (al : List YA) : Prop where
  out : ∃ vss, RowI I 24 v vss ∧ vss.length = al.length ∧ ∀ i, i < al.length → AcctC I (vss.getD i []) (al.getD i ⟨[], 0, 0, [], []⟩)
theorem SlotC.up {I J : Ent → Prop} {l : List Value} {s : Nat × Nat} (h : SlotC I l s) (hs : Sub I J) : SlotC J l s := by
  obtain ⟨a, b, c, d, e⟩ := h; exact ⟨a, b, c, d.up hs, e.up hs⟩
theorem SlotsI.up {I J : Ent → Prop} {v : Value} {ss : List (Nat × Nat)} (h : SlotsI I v ss) (hs : Sub I J) : SlotsI J v ss := by
  obtain ⟨vss, a, b, c⟩ := h.out; exact ⟨vss, a.up hs, b, fun i hi => (c i hi).up hs⟩
theorem AcctC.up {I J : Ent → Prop} {l : List Value} {a : YA} (h : AcctC I l a) (hs : Sub I J) : AcctC J l a := by
  obtain ⟨nv, bv, cv, sv, e, h1, h2, h3, h4⟩ := h.out
  exact ⟨h.ok, nv, bv, cv, sv, e, h1.up hs, h2.up hs, h3.mono hs (by simp), h4.up hs⟩
theorem AcctsI.up {I J : Ent → Prop} {v : Value} {al : List YA} (h : AcctsI I v al) (hs : Sub I J) : AcctsI J v al := by
  obtain ⟨vss, a, b, c⟩ := h.out; exact ⟨vss, a.up hs, b, fun i hi => (c i hi).up hs⟩
/-- A cell that holds one value. -/
theorem one_slice {a : Option Addr} {n c : Nat} : one (.slice a n c) = true := rfl
theorem NatI.isl {I : Ent → Prop} {v : Value} {n : Nat} (h : NatI I v n) : one v = true := by
  obtain ⟨ds, a, _⟩ := h; obtain ⟨x, y, rfl, _⟩ := a.form; rfl
theorem Byt.isl {S : St} {v : Value} {n : List Nat} (h : Byt S v n) : one v = true := by
  obtain ⟨x, y, rfl, _⟩ := h.form; rfl
theorem SlotsI.isl {I : Ent → Prop} {v : Value} {ss : List (Nat × Nat)} (h : SlotsI I v ss) : one v = true := by
  obtain ⟨vss, a, _⟩ := h.out; obtain ⟨x, y, rfl⟩ := a.form; rfl
theorem AcctC.one {I : Ent → Prop} {l : List Value} {a : YA} (h : AcctC I l a) : ∀ u ∈ l, one u = true := by
  obtain ⟨nv, bv, cv, sv, rfl, h1, h2, h3, h4⟩ := h.out
  intro u hu
  rcases List.mem_append.1 hu with hu | hu
  · exact one_bvs _ u hu
  · simp at hu
    rcases hu with rfl | rfl | rfl | rfl
    · exact NatI.isl h1
    · exact NatI.isl h2
    · exact Byt.isl h3
    · exact h4.isl
theorem AcctC.len {I : Ent → Prop} {l : List Value} {a : YA} (h : AcctC I l a) : l.length = 24 := by
  obtain ⟨nv, bv, cv, sv, rfl, _⟩ := h.out
  have := h.ok.bv
  simp [this]
theorem AcctC.ad {I : Ent → Prop} {l : List Value} {a : YA} (h : AcctC I l a) : (l.drop 0).take 20 = bvs a.addr := by
  obtain ⟨nv, bv, cv, sv, rfl, _⟩ := h.out
  rw [List.drop_zero, List.take_append_of_le_length (by rw [h.ok.bv]; omega), List.take_of_length_le (by rw [h.ok.bv]; omega)]
/-- The account of an address; an empty one if it is not listed. -/
def getA (al : List YA) (a : List Nat) : YA := (al.find? (fun x => x.addr == a)).getD ⟨a, 0, 0, [], []⟩
theorem Byt.nil' (I : Ent → Prop) : Byt ⟨I, []⟩ (.slice none 0 0) [] := Byt.nil _
theorem AcctC.zero {I : Ent → Prop} {a : List Nat} (h : AdOk a) : AcctC I (bvs a ++ [.slice none 0 0, .slice none 0 0, .slice none 0 0, .slice none 0 0]) ⟨a, 0, 0, [], []⟩ :=
  ⟨h, _, _, _, _, rfl, NatI.zero _, NatI.zero _, Byt.nil _, ⟨[], RowI.nil _ _, rfl, by simp⟩⟩
theorem findA_none {al : List YA} {a : List Nat} (h : ∀ j, j < al.length → (al.getD j ⟨[], 0, 0, [], []⟩).addr ≠ a) : getA al a = ⟨a, 0, 0, [], []⟩ := by
  unfold getA
  rw [List.find?_eq_none.2]
  · rfl
  · intro x hx
    obtain ⟨j, hj, rfl⟩ := List.getElem_of_mem hx
    have := h j hj
    rw [List.getD_eq_getElem?_getD, List.getElem?_eq_getElem hj] at this
    simpa using this
theorem findA_some {al : List YA} {a : List Nat} {i : Nat} (hi : i < al.length) (h : ∀ j, j < i → (al.getD j ⟨[], 0, 0, [], []⟩).addr ≠ a) (he : (al.getD i ⟨[], 0, 0, [], []⟩).addr = a) : getA al a = al.getD i ⟨[], 0, 0, [], []⟩ := by
  unfold getA
  induction al generalizing i with
  | nil => simp at hi
  | cons x al ih =>
    cases i with
    | zero => simp at he; simp [he]
    | succ i =>
      have h0 := h 0 (by omega)
      simp at h0
      rw [List.find?_cons_of_neg (by simpa using h0)]
      exact ih (i := i) (by simpa using hi) (fun j hj => by have := h (j + 1) (by omega); simpa using this) (by simpa using he)
/-- yp.Acct.empty -/
def emptyA (a : YA) : Bool := decide (a.nonce = 0) && (decide (a.bal = 0) && decide (a.code.length = 0))
theorem build_acct {a : List Nat} (h : AdOk a) {z : Nat → Value} (hz : ∀ i, 20 ≤ i → i < 24 → z i = .slice none 0 0) : cellsFrom (fillC z [(0, 20, bytesV a)]) 0 24 = bvs a ++ [.slice none 0 0, .slice none 0 0, .slice none 0 0, .slice none 0 0] := by
  apply List.ext_getElem?
  intro i
  show (cellsFrom (HL.updN z 0 (bvs a)) 0 24)[i]? = _
  by_cases hi : i < 24
  · rw [cellsFrom_get _ _ _ _ hi, Nat.zero_add]
    simp only [HL.updN, Nat.zero_add, h.bv, Nat.zero_le, true_and, Nat.sub_zero]
    by_cases h20 : i < 20
    · rw [if_pos h20, List.getElem?_append_left (by rw [h.bv]; exact h20), List.getD_eq_getElem?_getD, List.getElem?_eq_getElem (by rw [h.bv]; exact h20)]; rfl
    · rw [if_neg h20, hz i (by omega) hi, List.getElem?_append_right (by rw [h.bv]; omega), h.bv]
      have : i = 20 ∨ i = 21 ∨ i = 22 ∨ i = 23 := by omega
      rcases this with rfl | rfl | rfl | rfl <;> rfl
  · rw [List.getElem?_eq_none (by simp; omega), List.getElem?_eq_none (by simp [h.bv]; omega)]
/-- yp.World.account -/
theorem yAccount {I : Ent → Prop} {G : List Ent} {wb sz : Nat} {T : TypeId} {c : Nat → Value} {al : List YA} {a : List Nat} (hsz : 8 ≤ sz) (hN : AcctsI I (c 0) al) (hA : AdOk a) (hlen : al.length < 2 ^ 30) :
    CallG Hvaf.prog 53 #[ptr wb 0, bytesV a] ⟨I, ⟨wb, sz, T, c⟩ :: G⟩ fun r S' => ⟨I, ⟨wb, sz, T, c⟩ :: G⟩ = S' ∧ ∃ l, r = .agg l.toArray ∧ AcctC I l (getA al a) := by
  have ha := hA.bv
  have hla := hA.len
  obtain ⟨vss, hR, hvl, hel0⟩ := hN.out
  obtain ⟨ad, cap, hc0⟩ := hR.form
  refine CallG.start (C := mkC Hvaf.prog) cok (args := [ptr wb 0, bytesV a]) Hvaf.func53 rfl Hvaf.ntmps53 (by simp) (by kernel_rfl) ?_
  intro b3 b4
  repeat (first | (refine QuG.keep ?_; first | refine QuG.l1E cok 2 rfl rfl rfl rfl rfl (by first | exact Nat.le_of_ble_eq_true rfl | omega | (dsimp only; omega) | (simp only [addS_eq, mulS_eq]; omega)) (by assumption) ?_) | refine SeqS.go cok ?_)
  refine W.loopG cok (by kernel_rfl) 0 (fun (i : Nat) e' => i ≤ al.length ∧ (∀ j, j < i → (al.getD j ⟨[], 0, 0, [], []⟩).addr ≠ a) ∧ slots [(3, ptr b3 0), (4, ptr b4 0), (10, .slice ad vss.length cap), (11, .int .i64 (vss.length : Nat)), (12, .int .i64 (i : Nat))] e') (fun i => al.length - i) 0
    ⟨Nat.zero_le _, by omega, rfl, rfl, rfl, rfl, rfl, trivial⟩ (fun e' => (∀ j, j < al.length → (al.getD j ⟨[], 0, 0, [], []⟩).addr ≠ a) ∧ slots [(3, ptr b3 0), (4, ptr b4 0)] e') ?_ ?_
  · rintro e' ⟨hno, hsl⟩
    refine SeqS.slots cok _ hsl fun e => ?_
    have hb := build_acct hA (z := z121) (fun i h1 h2 => by
      have : i = 20 ∨ i = 21 ∨ i = 22 ∨ i = 23 := by omega
      rcases this with rfl | rfl | rfl | rfl <;> rfl)
    have hZ := AcctC.zero (I := I) hA
    have h24 := hZ.len
    have hone := hZ.one
    repeat (first | (refine QuG.keep ?_; first | refine QuG.boxL cok 1 rfl rfl rfl rfl rfl (by assumption) ?_) | refine And.intro ⟨⟨by assumption, Nat.le_of_ble_eq_true rfl⟩, trivial⟩ ?_ | refine And.intro (Eq.refl true) ?_)
    refine OpG.keep ?_
    refine OpG.upS cok 0 (vs := bvs a ++ [.slice none 0 0, .slice none 0 0, .slice none 0 0, .slice none 0 0]) rfl rfl rfl rfl ?_ h24 hone (Nat.le_of_ble_eq_true rfl) ?_
    · exact congrArg (fun l => Value.agg l.toArray) hb
    repeat (first | (refine LdG.keep ?_; first | refine LdG.upL cok 0 rfl rfl rfl rfl rfl rfl (by assumption) (by first | exact Nat.le_of_ble_eq_true rfl | omega) ?_) | refine SeqS.go cok ?_)
    refine Fin.drop (⟨wb, sz, T, c⟩ :: G) [_, _] ⟨rfl, _, rfl, ?_⟩
    rw [findA_none hno]; exact hZ
  · rintro i e' ⟨hi, hno, hsl⟩
    refine W.slots _ hsl fun e => ?_
    by_cases hlt : i < al.length
    · rw [hc0] at hR
      obtain ⟨x, o, rfl, hx, hE⟩ := hR.some (by omega)
      have hac := hel0 i hlt
      obtain ⟨l, hl⟩ : ∃ l, vss.getD i [] = l := ⟨_, rfl⟩
      rw [hl] at hac
      have hrd : ∀ G, Rd ⟨I, G⟩ x := fun _ => .inl hx
      have h24 := hac.len
      have hone := hac.one
      have had := hac.ad
      have hb20 := hac.ok.bv
      have hl20 := hac.ok.len
      repeat (first | (refine QuG.keep ?_; first | refine QuG.elE cok _ (by assumption) (by first | assumption | exact ‹∀ G, Rd ⟨_, G⟩ _› _) (by assumption) rfl rfl rfl rfl rfl (by omega) ?_) | refine SeqS.go cok ?_ | refine And.intro (by omega) ?_ | (refine NatS.keep ?_; first | with_reducible refine NatS.nat ?_) | (refine CondS.keep ?_; first | refine CondS.d1 rfl (by omega) ?_))
      intro b6
      repeat (first | (refine QuG.keep ?_; first | refine QuG.subL cok 0 rfl rfl rfl rfl rfl rfl (by assumption) (by assumption) (by first | exact Nat.le_of_ble_eq_true rfl | omega) ?_ | refine QuG.boxL cok 2 rfl rfl rfl rfl rfl (by assumption) ?_ | refine QuG.eqA cok .u8 rfl rfl rfl rfl rfl (by kernel_rfl) rfl rfl (by assumption) (by assumption) ?_) | (refine OpG.keep ?_; first | refine OpG.upS cok 0 rfl rfl rfl rfl rfl (by assumption) (by first | assumption | exact one_bvs _) (by first | exact Nat.le_of_ble_eq_true rfl | omega) ?_) | refine SeqS.go cok ?_)
      (first | refine CondS.dec rfl (fun heq => ?_) (fun heq => ?_))
      · repeat (first | (refine QuG.keep ?_; first | refine QuG.upL cok 0 rfl rfl rfl rfl rfl rfl (by assumption) (by first | exact Nat.le_of_ble_eq_true rfl | omega) ?_) | (refine OpG.keep ?_; first | refine OpG.upS cok 1 rfl rfl rfl rfl rfl (by assumption) (by first | assumption | exact one_bvs _) (by first | exact Nat.le_of_ble_eq_true rfl | omega) ?_) | (refine LdG.keep ?_; first | refine LdG.upL cok 1 rfl rfl rfl rfl rfl rfl (by assumption) (by first | exact Nat.le_of_ble_eq_true rfl | omega) ?_) | refine SeqS.go cok ?_)
        refine Fin.drop (⟨wb, sz, T, c⟩ :: G) [_, _, _] ⟨rfl, l, rfl, ?_⟩
        rw [findA_some hlt hno heq]; exact hac
      · repeat (first | refine SeqS.go cok ?_ | (refine ValS.keep ?_; first | (with_reducible refine ValS.kI64 ?_; first | (with_reducible refine ValS.addI64_L ?_ ?_ ; omega))))
        refine ⟨i + 1, Rel.drop _ [_] ⟨rfl, hlt, fun j hj => ?_, rfl, rfl, rfl, rfl, rfl, trivial⟩, by show al.length - (i + 1) < al.length - i; omega⟩
        by_cases h : j = i
        · subst h; exact heq
        · exact hno j (by omega)
    · repeat (first | refine SeqS.go cok ?_ | (refine CondS.keep ?_; first | refine CondS.d0 rfl (by omega) ?_))
      exact ⟨rfl, fun j hj => hno j (by omega), rfl, rfl, trivial⟩
end Go.Proofs.YgvafwGreat
