import Derived.Test.YgvafwGreatHLv
set_option linter.unusedVariables false
set_option linter.unusedSimpArgs false
namespace Go.HL
section
variable {v : Value} {p : Prop} {i : Decidable p} {a b : Int}
theorem GuardS.T {X Y : Value → Prop} (hv : v = .bool (@decide p i)) (ht : p → X (.bool true)) (hf : ¬ p → Y (.bool false)) : GuardS v true X Y := GuardS.split hv (fun h => ht (by simpa using h)) (fun h => hf (by simpa using h))
theorem GuardS.F {X Y : Value → Prop} (hv : v = .bool (@decide p i)) (ht : p → Y (.bool true)) (hf : ¬ p → X (.bool false)) : GuardS v false X Y := GuardS.split hv (fun h => hf (by simpa using h)) (fun h => ht (by simpa using h))
theorem GuardS.Te {X Y : Value → Prop} (hv : v = .bool (a == b)) (ht : a = b → X (.bool true)) (hf : ¬ a = b → Y (.bool false)) : GuardS v true X Y := GuardS.split hv (fun h => ht (by simpa using h)) (fun h => hf (by simpa using h))
theorem GuardS.Fe {X Y : Value → Prop} (hv : v = .bool (a == b)) (ht : a = b → Y (.bool true)) (hf : ¬ a = b → X (.bool false)) : GuardS v false X Y := GuardS.split hv (fun h => hf (by simpa using h)) (fun h => ht (by simpa using h))
theorem GuardS.Tn {X Y : Value → Prop} (hv : v = .bool (a != b)) (ht : ¬ a = b → X (.bool true)) (hf : a = b → Y (.bool false)) : GuardS v true X Y := GuardS.split hv (fun h => ht (by simpa using h)) (fun h => hf (by simpa using h))
theorem GuardS.Fn {X Y : Value → Prop} (hv : v = .bool (a != b)) (ht : ¬ a = b → Y (.bool true)) (hf : a = b → X (.bool false)) : GuardS v false X Y := GuardS.split hv (fun h => hf (by simpa using h)) (fun h => ht (by simpa using h))
theorem GuardS.Tb {X Y : Value → Prop} {t : Bool} (hv : v = .bool t) (ht : t = true → X (.bool true)) (hf : t = false → Y (.bool false)) : GuardS v true X Y := GuardS.split hv ht hf
theorem GuardS.Fb {X Y : Value → Prop} {t : Bool} (hv : v = .bool t) (ht : t = true → Y (.bool true)) (hf : t = false → X (.bool false)) : GuardS v false X Y := GuardS.split hv hf ht
theorem GuardS.Tnd {X Y : Value → Prop} (hv : v = .bool (!@decide p i)) (ht : ¬ p → X (.bool true)) (hf : p → Y (.bool false)) : GuardS v true X Y := GuardS.split hv (fun h => ht (by simpa using h)) (fun h => hf (by simpa using h))
theorem GuardS.Fnd {X Y : Value → Prop} (hv : v = .bool (!@decide p i)) (ht : ¬ p → Y (.bool true)) (hf : p → X (.bool false)) : GuardS v false X Y := GuardS.split hv (fun h => hf (by simpa using h)) (fun h => ht (by simpa using h))
theorem CondS.nd {X Y : Prop} (hv : v = .bool (!@decide p i)) (ht : ¬ p → X) (hf : p → Y) : CondS v X Y := CondS.split hv (fun h => ht (by simpa using h)) (fun h => hf (by simpa using h))
/-- What decides was itself passed over. -/
theorem GuardS.U {w : Bool} {X Y : Value → Prop} {vs : Array Value} (hv : v = .tuple vs) (h : Y (.tuple vs)) : GuardS v w X Y := by subst hv; exact ⟨h⟩
/-! decided -/
theorem GuardS.T1 {X Y : Value → Prop} (hv : v = .bool (@decide p i)) (h : p) (k : X (.bool true)) : GuardS v true X Y := GuardS.T hv (fun _ => k) (fun h' => (h' h).elim)
theorem GuardS.T0 {X Y : Value → Prop} (hv : v = .bool (@decide p i)) (h : ¬ p) (k : Y (.bool false)) : GuardS v true X Y := GuardS.T hv (fun h' => (h h').elim) (fun _ => k)
theorem GuardS.F1 {X Y : Value → Prop} (hv : v = .bool (@decide p i)) (h : p) (k : Y (.bool true)) : GuardS v false X Y := GuardS.F hv (fun _ => k) (fun h' => (h' h).elim)
theorem GuardS.F0 {X Y : Value → Prop} (hv : v = .bool (@decide p i)) (h : ¬ p) (k : X (.bool false)) : GuardS v false X Y := GuardS.F hv (fun h' => (h h').elim) (fun _ => k)
theorem GuardS.Te1 {X Y : Value → Prop} (hv : v = .bool (a == b)) (h : a = b) (k : X (.bool true)) : GuardS v true X Y := GuardS.Te hv (fun _ => k) (fun h' => (h' h).elim)
theorem GuardS.Te0 {X Y : Value → Prop} (hv : v = .bool (a == b)) (h : ¬ a = b) (k : Y (.bool false)) : GuardS v true X Y := GuardS.Te hv (fun h' => (h h').elim) (fun _ => k)
theorem GuardS.Fe1 {X Y : Value → Prop} (hv : v = .bool (a == b)) (h : a = b) (k : Y (.bool true)) : GuardS v false X Y := GuardS.Fe hv (fun _ => k) (fun h' => (h' h).elim)
theorem GuardS.Fe0 {X Y : Value → Prop} (hv : v = .bool (a == b)) (h : ¬ a = b) (k : X (.bool false)) : GuardS v false X Y := GuardS.Fe hv (fun h' => (h h').elim) (fun _ => k)
theorem GuardS.Tn1 {X Y : Value → Prop} (hv : v = .bool (a != b)) (h : ¬ a = b) (k : X (.bool true)) : GuardS v true X Y := GuardS.Tn hv (fun _ => k) (fun h' => (h h').elim)
theorem GuardS.Tn0 {X Y : Value → Prop} (hv : v = .bool (a != b)) (h : a = b) (k : Y (.bool false)) : GuardS v true X Y := GuardS.Tn hv (fun h' => (h' h).elim) (fun _ => k)
theorem GuardS.Fn1 {X Y : Value → Prop} (hv : v = .bool (a != b)) (h : ¬ a = b) (k : Y (.bool true)) : GuardS v false X Y := GuardS.Fn hv (fun _ => k) (fun h' => (h h').elim)
theorem GuardS.Fn0 {X Y : Value → Prop} (hv : v = .bool (a != b)) (h : a = b) (k : X (.bool false)) : GuardS v false X Y := GuardS.Fn hv (fun h' => (h' h).elim) (fun _ => k)
theorem CondS.d1 {X Y : Prop} (hv : v = .bool (@decide p i)) (h : p) (k : X) : CondS v X Y := CondS.dec hv (fun _ => k) (fun h' => (h' h).elim)
theorem CondS.d0 {X Y : Prop} (hv : v = .bool (@decide p i)) (h : ¬ p) (k : Y) : CondS v X Y := CondS.dec hv (fun h' => (h h').elim) (fun _ => k)
theorem CondS.nd1 {X Y : Prop} (hv : v = .bool (!@decide p i)) (h : ¬ p) (k : X) : CondS v X Y := CondS.nd hv (fun _ => k) (fun h' => (h h').elim)
theorem CondS.nd0 {X Y : Prop} (hv : v = .bool (!@decide p i)) (h : p) (k : Y) : CondS v X Y := CondS.nd hv (fun h' => (h' h).elim) (fun _ => k)
theorem CondS.e1 {X Y : Prop} (hv : v = .bool (a == b)) (h : a = b) (k : X) : CondS v X Y := CondS.eqz hv (fun _ => k) (fun h' => (h' h).elim)
theorem CondS.e0 {X Y : Prop} (hv : v = .bool (a == b)) (h : ¬ a = b) (k : Y) : CondS v X Y := CondS.eqz hv (fun h' => (h h').elim) (fun _ => k)
theorem CondS.n1 {X Y : Prop} (hv : v = .bool (a != b)) (h : ¬ a = b) (k : X) : CondS v X Y := CondS.nez hv (fun _ => k) (fun h' => (h h').elim)
theorem CondS.n0 {X Y : Prop} (hv : v = .bool (a != b)) (h : a = b) (k : Y) : CondS v X Y := CondS.nez hv (fun h' => (h' h).elim) (fun _ => k)
theorem GuardS.keep {w : Bool} {X Y : Value → Prop} (h : GuardS v w X Y) : GuardS v w X Y := h
theorem CondS.keep {X Y : Prop} (h : CondS v X Y) : CondS v X Y := h
end
theorem vI {k : IntKind} {a b : Nat} {v : Value} (h : v = .int k (a : Nat)) (e : a = b) : v = .int k (b : Nat) := by rw [h, e]
theorem vB {a b : Bool} {v : Value} (h : v = .bool a) (e : a = b) : v = .bool b := by rw [h, e]
section
variable {C : Cfg} {ty : TypeId} {e : Env} {S : St} {K : Post} {q : Value → Prop}
/-- A store of a value whose cells lie open. -/
theorem OpG.storeL (hC : C.Ok) {t : TypeId} {a v : Operand} {i : TI} {b o : Nat} {x : Ent} {vs : List Value} (k : Nat) (hx : S.G[k]? = some x) (hD : C.D t = some i) (ha : ev e a = ptr b o) (hb : x.b = b) (hv : ev e v = .agg vs.toArray) (hl : vs.length = i.size) (h1 : vs.all one = true) (ho : o + i.size ≤ x.sz)
    (h : K undef ⟨S.I, S.G.set k ⟨x.b, x.sz, x.T, HL.updN x.c o vs⟩⟩) : OpG C.P (.store t a v) ty e S K :=
  OpG.row hC k vs hx hD ha hb hv hl ho (List.all_eq_true.1 h1) h
/-- A byte of a string. -/
theorem QuG.ixE (hC : C.Ok) {t : TypeId} {x ix : Operand} {i : TI} {s : ByteArray} {k' : IntKind} {n : Nat} (hD : C.D t = some i) (hk : i.kind = 2)
    (hx : ev e x = .string s) (hix : ev e ix = .int k' (n : Nat)) (hb : ∃ b : UInt8, s[n]? = some b ∧ q (.int .u8 (b.toNat : Nat))) : QuG C.P (.index t x ix) ty e S q := by
  obtain ⟨b, h1, h2⟩ := hb
  exact QuG.ixS hC hD hk hx hix h1 h2
end
end Go.HL
