import Derived.Test.YgvafwGreatHLt
set_option linter.unusedVariables false
set_option linter.unusedSimpArgs false
namespace Go.HL
/-- The values 'vs' stand in a block from o on. -/
structure Row (c : Nat → Value) (o : Nat) (vs : List Value) : Prop where
  get : ∀ i, i < vs.length → c (o + i) = vs.getD i undef
theorem Row.cells {c : Nat → Value} {o n : Nat} {vs : List Value} (h : Row c o vs) (hn : vs.length = n) : cellsFrom c o n = vs := by
  subst hn
  apply List.ext_getElem?
  intro i
  by_cases hi : i < vs.length
  · rw [cellsFrom_get _ _ _ _ hi, h.get i hi, List.getElem?_eq_getElem hi, List.getD_eq_getElem?_getD, List.getElem?_eq_getElem hi]; rfl
  · rw [List.getElem?_eq_none (by simp; omega), List.getElem?_eq_none (by omega)]
theorem Row.updN (c : Nat → Value) (o : Nat) (vs : List Value) : Row (HL.updN c o vs) o vs := by
  refine ⟨fun i hi => ?_⟩
  simp only [HL.updN]; rw [if_pos (by omega)]; congr 1; omega
theorem Row.off {c : Nat → Value} {o o2 : Nat} {vs us : List Value} (h : Row c o vs) (hd : o + vs.length ≤ o2 ∨ o2 + us.length ≤ o) : Row (HL.updN c o2 us) o vs := by
  refine ⟨fun i hi => ?_⟩
  simp only [HL.updN]; rw [if_neg (by omega)]; exact h.get i hi
theorem Row.off1 {c : Nat → Value} {o o2 : Nat} {vs : List Value} {u : Value} (h : Row c o vs) (hd : o + vs.length ≤ o2 ∨ o2 < o) : Row (HL.upd c o2 u) o vs := by
  refine ⟨fun i hi => ?_⟩
  simp only [HL.upd]; rw [if_neg (by omega)]; exact h.get i hi
theorem Row.upd {c : Nat → Value} {o k : Nat} {vs : List Value} {u : Value} (h : Row c o vs) (hk : k < vs.length) : Row (HL.upd c (o + k) u) o (vs.set k u) := by
  refine ⟨fun i hi => ?_⟩
  simp only [List.length_set] at hi
  simp only [HL.upd, List.getD_eq_getElem?_getD, List.getElem?_set]
  by_cases hik : i = k
  · subst hik; simp [hk]
  · rw [if_neg (by omega), if_neg (Ne.symm hik)]
    have := h.get i hi
    rw [List.getD_eq_getElem?_getD] at this; exact this
/-- The bytes' values. -/
def bvs (ds : List Nat) : List Value := ds.map fun d => .int .u8 (d : Nat)
@[simp] theorem bvs_length (ds : List Nat) : (bvs ds).length = ds.length := by simp [bvs]
theorem bvs_getD (ds : List Nat) (i : Nat) (h : i < ds.length) : (bvs ds).getD i undef = .int .u8 (ds.getD i 0 : Nat) := by
  simp [bvs, List.getD_eq_getElem?_getD, h]
theorem Ow.row {c : Nat → Value} {ds : List Nat} (h : Ow c ds) : Row c 0 (bvs ds) := by
  refine ⟨fun i hi => ?_⟩
  simp only [bvs_length] at hi
  rw [bvs_getD ds i hi, Nat.zero_add, h.get i hi]
theorem Row.ow {c : Nat → Value} {ds : List Nat} (h : Row c 0 (bvs ds)) : Ow c ds := by
  refine ⟨fun i hi => ?_⟩
  have := h.get i (by simpa using hi)
  rw [bvs_getD ds i hi, Nat.zero_add] at this; exact this
theorem bvs_one (ds : List Nat) : ∀ u ∈ bvs ds, one u = true := by
  intro u hu; obtain ⟨d, _, rfl⟩ := List.mem_map.1 hu; rfl
def bytesV (ds : List Nat) : Value := .agg (bvs ds).toArray
section
variable {C : Cfg} {e : Env} {S : St} {ty : TypeId}
/-- A load of a row. -/
theorem QuG.row {q : Value → Prop} (hC : C.Ok) {x : Ent} {o : Nat} {vs : List Value} (hr : Row x.c o vs) (hx : Rd S x) {t : TypeId} {a : Operand} {i : TI} {b : Nat} (hD : C.D t = some i) (hk : isAggK i = true) (ha : ev e a = ptr b o) (hb : x.b = b) (hl : vs.length = i.size) (ho : o + i.size ≤ x.sz) (h : q (.agg vs.toArray)) :
    QuG C.P (.load t a) ty e S q := QuG.loadN hC hD hk ha hx hb ho (by rw [hr.cells hl]; exact h)
theorem LdG.row {k : Value → Prop} (hC : C.Ok) {t : TypeId} {p : Value} {i : TI} {b o : Nat} {x : Ent} {vs : List Value} (hr : Row x.c o vs) (hx : Rd S x) (hD : C.D t = some i) (hk : isAggK i = true) (ha : p = ptr b o) (hb : x.b = b) (hl : vs.length = i.size) (ho : o + i.size ≤ x.sz) (h : k (.agg vs.toArray)) :
    LdG C.P t p S k := LdG.ofN hC hD hk ha hx hb ho (by rw [hr.cells hl]; exact h)
/-- A store of a row. -/
theorem OpG.row {K : Post} (hC : C.Ok) {t : TypeId} {a v : Operand} {i : TI} {b o : Nat} {x : Ent} (k : Nat) (vs : List Value) (hx : S.G[k]? = some x) (hD : C.D t = some i) (ha : ev e a = ptr b o) (hb : x.b = b) (hv : ev e v = .agg vs.toArray) (hl : vs.length = i.size) (ho : o + i.size ≤ x.sz) (h1 : ∀ u ∈ vs, one u = true)
    (h : K undef ⟨S.I, S.G.set k ⟨x.b, x.sz, x.T, HL.updN x.c o vs⟩⟩) : OpG C.P (.store t a v) ty e S K := by
  have hc : (ev e v).cells = vs.toArray := by rw [hv]; rfl
  refine OpG.store hC k hx hD ha hb (by rw [hc]; simpa using hl) ho (by rw [hc]; exact h1) ?_
  rw [hc]; exact h
end
end Go.HL
