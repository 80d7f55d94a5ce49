import Derived.Test.YgvafwGreatHS
set_option maxRecDepth 100000
set_option linter.unusedVariables false
set_option linter.unusedSimpArgs false
namespace Go.HL
open Go.Proofs
theorem W.loopG {C : Cfg} {n : Nat} (hC : C.Ok) {e : Env} {S : St} {Q : HPost} {σ : Type} {c : Code} (hok : codeOk n c = true) (x : Nat) (J : σ → Env → Prop) (μ : σ → Nat) (s0 : σ) (h0 : J s0 e) (E : Env → Prop)
    (cont : ∀ e', E e' → Q (.exit x) e' S)
    (round : ∀ s e', J s e' → W C n c (loopQ (fun s e' S' => Rel (fun S2 => S2 = S ∧ J s e') S') μ s x (fun e' S' => S' = S ∧ E e') Q) e' S) : GW C.P n (.loop c) e S Q := by
  refine W.loopF hC hok x (fun s e' S' => S' = S ∧ J s e') μ s0 (.same ⟨rfl, h0⟩) (fun e' S' => S' = S ∧ E e') ?_ ?_
  · rintro e' S' _ ⟨rfl, k⟩; exact cont e' k
  · rintro s e' S' _ ⟨rfl, k⟩; exact round s e' k
theorem one_bvs (ds : List Nat) : ∀ u ∈ bvs ds, one u = true := by
  intro u hu
  obtain ⟨d, _, rfl⟩ := List.mem_map.1 hu
  rfl
theorem bvs_len (ds : List Nat) : (bvs ds).length = ds.length := by simp [bvs]
section
variable {C : Cfg} {e : Env} {S : St} {ty : TypeId} {q : Value → Prop} {t : TypeId} {a : Operand} {ti : TI} {b b' o n sz : Nat} {T : TypeId} {c : Nat → Value} {vs : List Value}
theorem QuG.elE (hC : C.Ok) {x : Ent} {k i z : Nat} {vss : List (List Value)} (l : List Value) (hr : Els x o k vss) (hx : Rd S x) (hl : vss.getD i [] = l) (hD : C.D t = some ti) (hk : isAggK ti = true) (hs : ti.size = k) (ha : ev e a = ptr x.b (addS o (mulS i z))) (hz : z = k) (hi : i < vss.length)
    (h : q (.agg l.toArray)) : QuG C.P (.load t a) ty e S q := QuG.el hC hr hx hD hk hs ha hz hi (by rw [hl]; exact h)
theorem Row.updN2 (c : Nat → Value) (o : Nat) (vs : List Value) : Row (HL.updN c o vs) o vs := ⟨fun i hi => updN_get hi⟩
theorem QuG.upL (hC : C.Ok) (k : Nat) (hx : S.G[k]? = some ⟨b, sz, T, HL.updN c o vs⟩) (hD : C.D t = some ti) (hk : isAggK ti = true) {o' : Nat} (ha : ev e a = ptr b' o') (hb : b = b') (hoo : o' = o) (hl : vs.length = ti.size) (ho : o + ti.size ≤ sz) (h : q (.agg vs.toArray)) : QuG C.P (.load t a) ty e S q :=
  QuG.rowE hC (x := ⟨b, sz, T, HL.updN c o vs⟩) (Row.updN2 c o vs) (.inr (List.mem_of_getElem? hx)) hD hk ha hb hoo hl ho h
theorem OpG.upS {K : Post} {v : Operand} (hC : C.Ok) (k : Nat) (hx : S.G[k]? = some ⟨b, sz, T, c⟩) (hD : C.D t = some ti) (ha : ev e a = ptr b' o) (hb : b = b') (hv : ev e v = .agg vs.toArray) (hl : vs.length = ti.size) (h1 : ∀ u ∈ vs, one u = true) (ho : o + ti.size ≤ sz)
    (h : K undef ⟨S.I, S.G.set k ⟨b, sz, T, HL.updN c o vs⟩⟩) : OpG C.P (.store t a v) ty e S K := OpG.rowX hC k o vs hx hD ha hb rfl hv hl ho h1 h
theorem Row.box (vs : List Value) : Row (vc (.agg vs.toArray)) 0 vs := ⟨fun i hi => by rw [Nat.zero_add]; rfl⟩
theorem QuG.boxL (hC : C.Ok) (k : Nat) (hx : S.G[k]? = some ⟨b, vs.length, T, vc (.agg vs.toArray)⟩) (hD : C.D t = some ti) (hk : isAggK ti = true) (ha : ev e a = ptr b' 0) (hb : b = b') (hl : vs.length = ti.size) (h : q (.agg vs.toArray)) : QuG C.P (.load t a) ty e S q :=
  QuG.rowE hC (x := ⟨b, vs.length, T, vc (.agg vs.toArray)⟩) (Row.box vs) (.inr (List.mem_of_getElem? hx)) hD hk ha hb rfl hl (by show 0 + ti.size ≤ vs.length; omega) h
theorem QuG.strBox (hC : C.Ok) {s d : TypeId} {i j k : TI} {n cap : Nat} {ds : List Nat} (m : Nat) (hx : S.G[m]? = some ⟨b, (bvs ds).length, T, vc (.agg (bvs ds).toArray)⟩) (hs : C.D s = some i) (hk : i.kind = 4) (hj : C.D i.elem = some j) (hjk : j.kind = 1) (hju : j.ik = .u8) (hd : C.D d = some k) (hdk : k.kind = 2) (ha : ev e a = sl b' 0 n cap) (hb : b = b') (hn : ds.length = n)
    (h : q (.string (strOf ds))) : QuG C.P (.convert s d a) ty e S q :=
  QuG.str hC (x := ⟨b, (bvs ds).length, T, vc (.agg (bvs ds).toArray)⟩) (Row.box _) (.inr (List.mem_of_getElem? hx)) hs hk hj hjk hju hd hdk ha hb hn (by show 0 + n ≤ (bvs ds).length; rw [bvs_len]; omega) h
end
end Go.HL
