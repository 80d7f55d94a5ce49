import Derived.Test.YgvafwGreatHLz
set_option linter.unusedVariables false
set_option linter.unusedSimpArgs false
namespace Go.HL
theorem updN_get {c : Nat → Value} {o i : Nat} {vs : List Value} (h : i < vs.length) : updN c o vs (o + i) = vs.getD i undef := by
  simp only [updN]; rw [if_pos (by omega), Nat.add_sub_cancel_left]
theorem upd_updN_set {c : Nat → Value} {o i : Nat} {vs : List Value} {v : Value} (h : i < vs.length) : upd (updN c o vs) (o + i) v = updN c o (vs.set i v) := by
  funext k
  simp only [upd, updN, List.length_set]
  by_cases hk : k = o + i
  · subst hk
    rw [if_pos rfl, if_pos (by omega), Nat.add_sub_cancel_left, List.getD_eq_getElem?_getD, List.getElem?_set_self h]; rfl
  · rw [if_neg hk]
    by_cases h2 : o ≤ k ∧ k < o + vs.length
    · rw [if_pos h2, if_pos h2, List.getD_eq_getElem?_getD, List.getD_eq_getElem?_getD, List.getElem?_set_ne (by omega)]
    · rw [if_neg h2, if_neg h2]
theorem ivs_set (k : IntKind) (ds : List Nat) (i v : Nat) : (ivs k ds).set i (.int k (v : Nat)) = ivs k (ds.set i v) := by
  simp [ivs, List.map_set]
/-- A block that holds the values as they stand. -/
theorem updN_self {c : Nat → Value} {o : Nat} {vs : List Value} (h : Row c o vs) : updN c o vs = c := by
  funext k
  simp only [updN]
  by_cases h2 : o ≤ k ∧ k < o + vs.length
  · rw [if_pos h2]
    have := h.get (k - o) (by omega)
    rw [show o + (k - o) = k by omega] at this; exact this.symm
  · rw [if_neg h2]
theorem addS_mulS (o i z : Nat) (hz : z = 1) : addS o (mulS i z) = o + i := by rw [addS_eq, mulS_eq, hz, Nat.mul_one]
section
variable {C : Cfg} {e : Env} {S : St} {ty : TypeId} {q : Value → Prop} {K : Post} {b' b sz o i z v : Nat} {T t : TypeId} {c : Nat → Value} {a w : Operand} {ti : TI} {u : Value} {kd : IntKind} {ds : List Nat}
theorem QuG.ar (hC : C.Ok) (k : Nat) (hx : S.G[k]? = some ⟨b, sz, T, updN c o (ivs kd ds)⟩) (hD : C.D t = some ti) (hk : isAggK ti = false) (ha : ev e a = ptr b' (addS o (mulS i z))) (hz : z = 1) (hb : b = b') (hi : i < ds.length) (ho : o + ds.length ≤ sz) (h : q (.int kd (ds.getD i 0 : Nat))) : QuG C.P (.load t a) ty e S q := by
  rw [addS_mulS _ _ _ hz] at ha
  refine QuG.l1 hC k hx hD hk ha hb (by omega) ?_
  rw [updN_get (by simpa using hi), ivs_getD _ _ _ hi]; exact h
theorem QuV.ar (hC : C.Ok) (k : Nat) (hx : S.G[k]? = some ⟨b, sz, T, updN c o (ivs kd ds)⟩) (hD : C.D t = some ti) (hk : isAggK ti = false) (ha : ev e a = ptr b' (addS o (mulS i z))) (hz : z = 1) (hb : b = b') (hi : i < ds.length) (ho : o + ds.length ≤ sz) (h : .int kd (ds.getD i 0 : Nat) = u) : QuV C.P (.load t a) ty e S u :=
  QuV.of (QuG.ar hC k hx hD hk ha hz hb hi ho h)
theorem OpG.ar (hC : C.Ok) (k : Nat) (hx : S.G[k]? = some ⟨b, sz, T, updN c o (ivs kd ds)⟩) (hD : C.D t = some ti) (hs : ti.size = 1) (ha : ev e a = ptr b' (addS o (mulS i z))) (hz : z = 1) (hb : b = b') (hi : i < ds.length) (ho : o + ds.length ≤ sz) (hv : ev e w = .int kd (v : Nat))
    (h : K undef ⟨S.I, S.G.set k ⟨b, sz, T, updN c o (ivs kd (ds.set i v))⟩⟩) : OpG C.P (.store t a w) ty e S K := by
  rw [addS_mulS _ _ _ hz] at ha
  refine OpG.s1 hC k hx hD hs ha hb (by omega) hv rfl ?_
  rw [upd_updN_set (by simpa using hi), ivs_set]; exact h
end
theorem ValS.subK {a n : Nat} {q : Value → Prop} (k : Nat) (h : a - (OfNat.ofNat n : Nat) = k) (h1 : (OfNat.ofNat n : Nat) ≤ a ∧ a < 9223372036854775808) (hq : q (.int .i64 (k : Nat))) : ValS (.int .i64 (IntKind.wrap .i64 ((a : Int) - (OfNat.ofNat n : Int)))) q := ValS.subI64_L h1.1 h1.2 (by rw [h]; exact hq)
/-- Limbs, the least first. -/
def lv : List Nat → Nat
  | [] => 0
  | d :: ds => d + 18446744073709551616 * lv ds
theorem lv_append (a b : List Nat) : lv (a ++ b) = lv a + 18446744073709551616 ^ a.length * lv b := by
  induction a with
  | nil => simp [lv]
  | cons d a ih => simp only [List.cons_append, lv, ih, List.length_cons, Nat.pow_succ, Nat.mul_add, Nat.add_assoc, Nat.mul_assoc, Nat.mul_comm, Nat.mul_left_comm]
def Lim (ds : List Nat) : Prop := ∀ d ∈ ds, d < 18446744073709551616
theorem lv_lt {ds : List Nat} (h : Lim ds) : lv ds < 18446744073709551616 ^ ds.length := by
  induction ds with
  | nil => simp [lv]
  | cons d ds ih =>
    have h1 := ih (fun x hx => h x (by simp [hx]))
    have h2 := h d (by simp)
    simp only [lv, List.length_cons, Nat.pow_succ]
    generalize 18446744073709551616 ^ ds.length = P at *
    omega
theorem getD_mid (P : List Nat) (x : Nat) (R : List Nat) : (P ++ x :: R).getD P.length 0 = x := by simp [List.getD_eq_getElem?_getD]
theorem set_mid (P : List Nat) (x y : Nat) (R : List Nat) : (P ++ x :: R).set P.length y = P ++ y :: R := by simp
end Go.HL
