import Derived.Test.YgvafwGreatY12
set_option maxRecDepth 100000
set_option maxHeartbeats 4000000
set_option linter.unusedVariables false
set_option linter.unusedSimpArgs false
-- v2
-- v4
-- v5
namespace Go.HL
section
variable {C : Cfg} {e : Env} {S : St} {ty : TypeId} {q : Value → Prop} {t : TypeId} {a : Operand} {ti : TI} {b b' o n sz : Nat} {T : TypeId} {c : Nat → Value} {vs : List Value}
/-- A field of one cell of a struct's value. -/
theorem QuG.fldE (hC : C.Ok) {k : Nat} {x : Operand} {fs : Array Field} {f : Field} {j : TI} {u : Value} (hu : C.P.underlying t = some (.struct fs)) (hf : fs[k]? = some f) (hj : C.D f.type = some j) (hja : isAggK j = false) (hx : ev e x = .agg vs.toArray) (ho : f.offset < vs.length) (hv : vs.getD f.offset undef = u) (h : q u) : QuG C.P (.field t x k) ty e S q := by
  refine .mk' (fun F w _ => ?_) h
  have h1 := (hC.tab f.type j hj).isAgg w
  rw [hja] at h1
  have h2 : vs.toArray[f.offset]? = some u := by
    rw [← hv, List.getElem?_toArray, List.getD_eq_getElem?_getD, List.getElem?_eq_getElem ho]; rfl
  simp only [execOp, hx, Instr.field, run_underlying hu, asAgg, Sem.run_bind, Sem.run_pure, Result.andThen, hf, part, h1, Bool.false_eq_true, if_false, h2]
theorem QuG.upC (hC : C.Ok) (k : Nat) {p o' : Nat} {u : Value} (hx : S.G[k]? = some ⟨b, sz, T, HL.updN c o vs⟩) (hD : C.D t = some ti) (hk : isAggK ti = false) (ha : ev e a = ptr b' o') (hb : b = b') (hoo : o' = o + p) (hp : p < vs.length) (ho : o + p < sz) (hv : vs.getD p undef = u) (h : q u) : QuG C.P (.load t a) ty e S q :=
  QuG.cell hC (x := ⟨b, sz, T, HL.updN c o vs⟩) (Row.updN2 c o vs) (.inr (List.mem_of_getElem? hx)) hD hk ha hb hoo hp ho (by rw [hv]; exact h)
/-- One cell of a row of one's own is written. -/
theorem OpG.upF {K : Post} {v : Operand} {u : Value} {p o' : Nat} (hC : C.Ok) (k : Nat) (hx : S.G[k]? = some ⟨b, sz, T, HL.updN c o vs⟩) (hD : C.D t = some ti) (hi : ti.size = 1) (ha : ev e a = ptr b' o') (hb : b = b') (hoo : o' = o + p) (hp : p < vs.length) (ho : o + p < sz) (hv : ev e v = u) (h1 : one u = true)
    (h : K undef ⟨S.I, S.G.set k ⟨b, sz, T, HL.updN c o (vs.set p u)⟩⟩) : OpG C.P (.store t a v) ty e S K :=
  OpG.s1E hC k (o + p) hx hD hi ha hb hoo ho hv h1 (by rw [upd_updN_set hp]; exact h)
end
end Go.HL
namespace Go.Proofs.YgvafwGreat
open Go.HL Go.Proofs

theorem AcctC.get {I : Ent → Prop} {l : List Value} {a : YA} (h : AcctC I l a) : ∃ nv bv cv sv, l.getD 20 undef = nv ∧ l.getD 21 undef = bv ∧ l.getD 22 undef = cv ∧ l.getD 23 undef = sv ∧ NatI I nv a.nonce ∧ NatI I bv a.bal ∧ Byt ⟨I, []⟩ cv a.code ∧ SlotsI I sv a.slots := by
  obtain ⟨nv, bv, cv, sv, el, h1, h2, h3, h4⟩ := h.out
  have hg : ∀ k, k < 4 → l.getD (20 + k) undef = [nv, bv, cv, sv].getD k undef := by
    intro k hk
    rw [el, List.getD_eq_getElem?_getD, List.getElem?_append_right (by rw [h.ok.bv]; omega), h.ok.bv, List.getD_eq_getElem?_getD, show 20 + k - 20 = k by omega]
  exact ⟨nv, bv, cv, sv, hg 0 (by omega), hg 1 (by omega), hg 2 (by omega), hg 3 (by omega), h1, h2, h3, h4⟩
theorem set_app {A : List Value} {n k : Nat} {B : List Value} {u : Value} (h : A.length = n) : (A ++ B).set (n + k) u = A ++ B.set k u := by
  rw [List.set_append_right _ _ (by omega), show n + k - A.length = k by omega]
theorem AcctC.setBal {I : Ent → Prop} {l : List Value} {a : YA} {u : Value} {n : Nat} (h : AcctC I l a) (hu : NatI I u n) : AcctC I (l.set 21 u) { a with bal := n } := by
  obtain ⟨nv, bv, cv, sv, el, h1, h2, h3, h4⟩ := h.out
  refine ⟨h.ok, nv, u, cv, sv, ?_, h1, hu, h3, h4⟩
  rw [el]; exact set_app (n := 20) (k := 1) h.ok.bv
theorem AcctC.setNonce {I : Ent → Prop} {l : List Value} {a : YA} {u : Value} {n : Nat} (h : AcctC I l a) (hu : NatI I u n) : AcctC I (l.set 20 u) { a with nonce := n } := by
  obtain ⟨nv, bv, cv, sv, el, h1, h2, h3, h4⟩ := h.out
  refine ⟨h.ok, u, bv, cv, sv, ?_, hu, h2, h3, h4⟩
  rw [el]; exact set_app (n := 20) (k := 0) h.ok.bv
theorem AcctC.setSlots {I : Ent → Prop} {l : List Value} {a : YA} {u : Value} {ss : List (Nat × Nat)} (h : AcctC I l a) (hu : SlotsI I u ss) : AcctC I (l.set 23 u) { a with slots := ss } := by
  obtain ⟨nv, bv, cv, sv, el, h1, h2, h3, h4⟩ := h.out
  refine ⟨h.ok, nv, bv, cv, u, ?_, h1, h2, h3, hu⟩
  rw [el]; exact set_app (n := 20) (k := 3) h.ok.bv
/-- yp.World.setBalance -/
theorem ySetBalance {I : Ent → Prop} {G : List Ent} {wb sz n : Nat} {T : TypeId} {c : Nat → Value} {al : List YA} {a : List Nat} {v : Value} (hsz : 8 ≤ sz) (hN : AcctsI I (c 0) al) (hA : AdOk a) (hN2 : NatI I v n) (hlen : al.length < 2 ^ 19) :
    CallG Hvaf.prog 59 #[ptr wb 0, bytesV a, v] ⟨I, ⟨wb, sz, T, c⟩ :: G⟩ fun r S' => ∃ J w, S' = ⟨J, ⟨wb, sz, T, upd c 0 w⟩ :: G⟩ ∧ AcctsI J w (putA { getA al a with bal := n } al) := by
  have ha := hA.bv
  have hla := hA.len
  have hv1 := NatI.isl hN2
  refine CallG.start (C := mkC Hvaf.prog) cok (args := [ptr wb 0, bytesV a, v]) Hvaf.func59 rfl Hvaf.ntmps59 (by simp) (by kernel_rfl) ?_
  intro b4
  repeat (first | (refine QuG.keep ?_; first | refine QuG.boxL cok 0 rfl rfl rfl rfl rfl (by assumption) ?_) | refine SeqS.go cok ?_)
  refine CallG.focus 1 rfl ?_
  refine (yAccount hsz hN hA (by omega)).mono ?_
  rintro r _ - ⟨rfl, l, rfl, hac⟩
  have h24 := hac.len
  have hone := hac.one
  have hac2 := hac.setBal hN2
  have h24b := hac2.len
  intro b6
  repeat (first | (refine OpG.keep ?_; first | refine OpG.upF cok 0 rfl rfl rfl rfl rfl rfl (by first | exact Nat.le_of_ble_eq_true rfl | omega) (by first | exact Nat.le_of_ble_eq_true rfl | omega) rfl (by first | rfl | assumption) ?_) | (refine QuG.keep ?_; first | refine QuG.upL cok 0 rfl rfl rfl rfl rfl rfl (by assumption) (by first | exact Nat.le_of_ble_eq_true rfl | omega) ?_) | (refine OpG.keep ?_; first | refine OpG.upS cok 0 rfl rfl rfl rfl rfl (by assumption) (by first | assumption | exact one_bvs _) (by first | exact Nat.le_of_ble_eq_true rfl | omega) ?_) | refine SeqS.go cok ?_)
  refine CallG.focus 1 rfl ?_
  refine (yPut hsz hN hac2 hlen).mono ?_
  rintro r _ hs ⟨J, w, rfl, hw⟩
  skip
  exact Fin.drop1 _ G [_, _] ⟨J, w, rfl, hw⟩
/-- yp.World.setNonce -/
theorem ySetNonce {I : Ent → Prop} {G : List Ent} {wb sz n : Nat} {T : TypeId} {c : Nat → Value} {al : List YA} {a : List Nat} {v : Value} (hsz : 8 ≤ sz) (hN : AcctsI I (c 0) al) (hA : AdOk a) (hN2 : NatI I v n) (hlen : al.length < 2 ^ 19) :
    CallG Hvaf.prog 58 #[ptr wb 0, bytesV a, v] ⟨I, ⟨wb, sz, T, c⟩ :: G⟩ fun r S' => ∃ J w, S' = ⟨J, ⟨wb, sz, T, upd c 0 w⟩ :: G⟩ ∧ AcctsI J w (putA { getA al a with nonce := n } al) := by
  have ha := hA.bv
  have hla := hA.len
  have hv1 := NatI.isl hN2
  refine CallG.start (C := mkC Hvaf.prog) cok (args := [ptr wb 0, bytesV a, v]) Hvaf.func58 rfl Hvaf.ntmps58 (by simp) (by kernel_rfl) ?_
  intro b4
  repeat (first | (refine QuG.keep ?_; first | refine QuG.boxL cok 0 rfl rfl rfl rfl rfl (by assumption) ?_) | refine SeqS.go cok ?_)
  refine CallG.focus 1 rfl ?_
  refine (yAccount hsz hN hA (by omega)).mono ?_
  rintro r _ - ⟨rfl, l, rfl, hac⟩
  have h24 := hac.len
  have hone := hac.one
  have hac2 := hac.setNonce hN2
  have h24b := hac2.len
  intro b6
  repeat (first | (refine OpG.keep ?_; first | refine OpG.upF cok 0 rfl rfl rfl rfl rfl rfl (by first | exact Nat.le_of_ble_eq_true rfl | omega) (by first | exact Nat.le_of_ble_eq_true rfl | omega) rfl (by first | rfl | assumption) ?_) | (refine QuG.keep ?_; first | refine QuG.upL cok 0 rfl rfl rfl rfl rfl rfl (by assumption) (by first | exact Nat.le_of_ble_eq_true rfl | omega) ?_) | (refine OpG.keep ?_; first | refine OpG.upS cok 0 rfl rfl rfl rfl rfl (by assumption) (by first | assumption | exact one_bvs _) (by first | exact Nat.le_of_ble_eq_true rfl | omega) ?_) | refine SeqS.go cok ?_)
  refine CallG.focus 1 rfl ?_
  refine (yPut hsz hN hac2 hlen).mono ?_
  rintro r _ hs ⟨J, w, rfl, hw⟩
  skip
  exact Fin.drop1 _ G [_, _] ⟨J, w, rfl, hw⟩
end Go.Proofs.YgvafwGreat
