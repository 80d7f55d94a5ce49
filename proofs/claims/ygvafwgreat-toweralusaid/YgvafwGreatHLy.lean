import Derived.Test.YgvafwGreatHLx
set_option linter.unusedVariables false
set_option linter.unusedSimpArgs false
namespace Go.HL
section
variable {C : Cfg} {e : Env} {S : St} {ty : TypeId}
theorem QuG.rowE {q : Value → Prop} (hC : C.Ok) {x : Ent} {o o' : Nat} {vs : List Value} (hr : Row x.c o vs) (hx : Rd S x) {t : TypeId} {a : Operand} {i : TI} {b : Nat} (hD : C.D t = some i) (hk : isAggK i = true) (ha : ev e a = ptr b o') (hb : x.b = b) (hoo : o' = o) (hl : vs.length = i.size) (ho : o + i.size ≤ x.sz) (h : q (.agg vs.toArray)) :
    QuG C.P (.load t a) ty e S q := by subst hoo; exact QuG.row hC hr hx hD hk ha hb hl ho h
theorem LdG.rowE {k : Value → Prop} (hC : C.Ok) {t : TypeId} {p : Value} {i : TI} {b o o' : Nat} {x : Ent} {vs : List Value} (hr : Row x.c o vs) (hx : Rd S x) (hD : C.D t = some i) (hk : isAggK i = true) (ha : p = ptr b o') (hb : x.b = b) (hoo : o' = o) (hl : vs.length = i.size) (ho : o + i.size ≤ x.sz) (h : k (.agg vs.toArray)) :
    LdG C.P t p S k := by subst hoo; exact LdG.row hC hr hx hD hk ha hb hl ho h
theorem OpG.rowE {K : Post} (hC : C.Ok) {t : TypeId} {a v : Operand} {i : TI} {b o : Nat} {x : Ent} (k o' : Nat) (vs : List Value) (hx : S.G[k]? = some x) (hD : C.D t = some i) (ha : ev e a = ptr b o) (hb : x.b = b) (hoo : o = o') (hv : ev e v = .agg vs.toArray) (hl : vs.length = i.size) (ho : o' + i.size ≤ x.sz) (h1 : ∀ u ∈ vs, one u = true)
    (h : K undef ⟨S.I, S.G.set k ⟨x.b, x.sz, x.T, HL.updN x.c o' vs⟩⟩) : OpG C.P (.store t a v) ty e S K := by subst hoo; exact OpG.row hC k vs hx hD ha hb hv hl ho h1 h
/-- One cell of a row. -/
theorem QuG.cell {q : Value → Prop} (hC : C.Ok) {x : Ent} {o o' n : Nat} {vs : List Value} (hr : Row x.c o vs) (hx : Rd S x) {t : TypeId} {a : Operand} {i : TI} {b : Nat} (hD : C.D t = some i) (hk : isAggK i = false) (ha : ev e a = ptr b o') (hb : x.b = b) (hoo : o' = o + n) (hn : n < vs.length) (ho : o + n < x.sz) (h : q (vs.getD n undef)) :
    QuG C.P (.load t a) ty e S q := QuG.ldo hC hx (o + n) _ hD hk ha hb hoo ho (hr.get n hn) h
end
section
variable {q : Value → Prop} {a b : Nat}
theorem or_shift {x n : Nat} (y : Nat) (h : x < 2 ^ n) : x ||| y * 2 ^ n = x + y * 2 ^ n := by
  have := Nat.two_pow_add_eq_or_of_lt h y
  rw [Nat.or_comm, Nat.mul_comm, ← this, Nat.add_comm]
theorem shift_or {x n : Nat} (y : Nat) (h : x < 2 ^ n) : y * 2 ^ n ||| x = y * 2 ^ n + x := by rw [Nat.or_comm, or_shift y h, Nat.add_comm]
theorem ValS.orShU64 {n : Nat} (ha : a < 2 ^ (OfNat.ofNat n : Nat)) (hb : a + b * 2 ^ (OfNat.ofNat n : Nat) < 18446744073709551616) (h : q (.int .u64 ((a + b * 2 ^ (OfNat.ofNat n : Nat) : Nat) : Int))) : ValS (.int .u64 (ior .u64 (a : Int) ((b * 2 ^ (OfNat.ofNat n : Nat) : Nat) : Int))) q :=
  ValS.orU64 (by omega) (by omega) (by rw [or_shift b ha]; exact h)
theorem ValS.shOrU64 {n : Nat} (hb : b < 2 ^ (OfNat.ofNat n : Nat)) (ha : a * 2 ^ (OfNat.ofNat n : Nat) + b < 18446744073709551616) (h : q (.int .u64 ((a * 2 ^ (OfNat.ofNat n : Nat) + b : Nat) : Int))) : ValS (.int .u64 (ior .u64 ((a * 2 ^ (OfNat.ofNat n : Nat) : Nat) : Int) (b : Int))) q :=
  ValS.orU64 (by omega) (by omega) (by rw [shift_or a hb]; exact h)
theorem ValS.orFU64 (ha : a < 18446744073709551616) (hb : b < 18446744073709551616) (h : a ||| b < 18446744073709551616 → q (.int .u64 ((a ||| b : Nat) : Int))) : ValS (.int .u64 (ior .u64 (a : Int) (b : Int))) q :=
  ValS.orU64 ha hb (h (Nat.or_lt_two_pow (n := 64) ha hb))
theorem ValS.xorFU64 (ha : a < 18446744073709551616) (hb : b < 18446744073709551616) (h : a ^^^ b < 18446744073709551616 → q (.int .u64 ((a ^^^ b : Nat) : Int))) : ValS (.int .u64 (ixor .u64 (a : Int) (b : Int))) q :=
  ValS.xorU64 ha hb (h (Nat.xor_lt_two_pow (n := 64) ha hb))
theorem ValS.andFU64 (ha : a < 18446744073709551616) (hb : b < 18446744073709551616) (h : a &&& b < 18446744073709551616 → q (.int .u64 ((a &&& b : Nat) : Int))) : ValS (.int .u64 (iand .u64 (a : Int) (b : Int))) q :=
  ValS.andU64 ha hb (h (Nat.lt_of_le_of_lt Nat.and_le_left ha))
theorem ValS.and1U64 (ha : a < 18446744073709551616) (h : q (.int .u64 ((a % 2 : Nat) : Int))) : ValS (.int .u64 (iand .u64 (a : Int) 1)) q :=
  ValS.andU64 (b := 1) ha (by omega) (by rw [Nat.and_one_is_mod]; exact h)
theorem ValS.and63U64 (ha : a < 18446744073709551616) (h : q (.int .u64 ((a % 64 : Nat) : Int))) : ValS (.int .u64 (iand .u64 (a : Int) 63)) q :=
  ValS.andU64 (b := 63) ha (by omega) (by rw [show a &&& 63 = a % 64 from Nat.and_two_pow_sub_one_eq_mod a 6]; exact h)
theorem ValS.and255U64 (ha : a < 18446744073709551616) (h : q (.int .u64 ((a % 256 : Nat) : Int))) : ValS (.int .u64 (iand .u64 (a : Int) 255)) q :=
  ValS.andU64 (b := 255) ha (by omega) (by rw [show a &&& 255 = a % 256 from Nat.and_two_pow_sub_one_eq_mod a 8]; exact h)
theorem ValS.andMU64 (ha : a < 18446744073709551616) (h : q (.int .u64 ((a % 4294967296 : Nat) : Int))) : ValS (.int .u64 (iand .u64 (a : Int) 4294967295)) q :=
  ValS.andU64 (b := 4294967295) ha (by omega) (by rw [show a &&& 4294967295 = a % 4294967296 from Nat.and_two_pow_sub_one_eq_mod a 32]; exact h)
end
theorem sl_eq {b o o' n n' c c' : Nat} (h1 : o = o') (h2 : n = n') (h3 : c = c') : sl b o n c = sl b o' n' c' := by rw [h1, h2, h3]
end Go.HL
