import Derived.Test.YgvafwGreatHLb
import Derived.Laws.Entries
set_option linter.unusedVariables false
namespace Go.HL
/-! ### Types, and the evaluator of what leaves memory alone -/
/-- What is used of a type: kind 0 bool, 1 int, 2 string, 3 pointer, 4 slice, 5 array, 6 struct. -/
structure TI where
  kind : Nat
  ik : IntKind := .u8
  elem : Nat := 0
  len : Nat := 0
  size : Nat
  bytes : Nat
  offs : List (Nat × Nat) := []
  zero : Nat → Value

def descOk (P : Program) (t : TypeId) (i : TI) : Prop := match i.kind with
  | 0 => P.underlying t = some .bool
  | 1 => P.underlying t = some (.int i.ik)
  | 2 => P.underlying t = some .string
  | 3 => P.underlying t = some (.pointer i.elem)
  | 4 => P.underlying t = some (.slice i.elem)
  | 5 => P.underlying t = some (.array i.len i.elem)
  | 6 => ∃ fs, P.underlying t = some (.struct fs) ∧ i.offs.length = fs.size ∧ ∀ (k o z : Nat), i.offs[k]? = some (o, z) → z ≠ 0 ∧ ∃ f : Field, fs[k]? = some f ∧ f.offset = o ∧ ∃ x : TypeInfo, P.info? f.type = some x ∧ x.size = z
  | _ => False

structure TIok (P : Program) (t : TypeId) (i : TI) : Prop where
  info : ∃ x : TypeInfo, P.info? t = some x ∧ x.size = i.size ∧ x.bytes = i.bytes ∧ ∃ z, x.zero = some z ∧ z.cells.size = i.size ∧ ∀ k, k < i.size → z.cells[k]? = some (i.zero k)
  desc : descOk P t i

structure Cfg where
  P : Program
  D : Nat → Option TI
  B : Nat → Bool

structure Cfg.Ok (C : Cfg) : Prop where
  tab : ∀ t i, C.D t = some i → TIok C.P t i
  body : ∀ f, C.B f = true → ∃ fn, C.P.funcs[f]? = some fn ∧ fn.body.isNone = false ∧ (fn.name == "runtime.NumGoroutine") = false
  mixed : C.P.follows .mixedOrders = true

theorem TIok.und {P : Program} {t : TypeId} {i : TI} (h : TIok P t i) : ∃ d, P.underlying t = some d := by
  have := h.desc
  unfold descOk at this
  split at this <;> first | exact ⟨_, this⟩ | (obtain ⟨fs, h1, _⟩ := this; exact ⟨_, h1⟩) | exact this.elim

def isAggK (i : TI) : Bool := i.kind == 5 || i.kind == 6

theorem TIok.isAgg {P : Program} {t : TypeId} {i : TI} (h : TIok P t i) (w : World) : (Go.isAgg t).run P w = .ok (isAggK i) w := by
  have := h.desc
  unfold descOk at this
  unfold Go.isAgg isAggK
  split at this <;> first
    | (simp [*, Sem.run_bind, run_underlying this, Result.andThen])
    | (obtain ⟨fs, h1, _⟩ := this; simp [*, Sem.run_bind, run_underlying h1, Result.andThen])
    | exact this.elim

theorem TIok.sizeOf {P : Program} {t : TypeId} {i : TI} (h : TIok P t i) (w : World) : (Go.sizeOf t).run P w = .ok i.size w := by
  obtain ⟨x, h1, h2, _⟩ := h.info
  simp [Go.sizeOf, typeInfo, program, Sem.run_bind, Sem.run, h1, Result.andThen, h2]

theorem TIok.typeInfo {P : Program} {t : TypeId} {i : TI} (h : TIok P t i) (w : World) : ∃ x : TypeInfo, (Go.typeInfo t).run P w = .ok x w ∧ x.size = i.size ∧ x.bytes = i.bytes := by
  obtain ⟨x, h1, h2, h3, _⟩ := h.info
  exact ⟨x, by simp [Go.typeInfo, program, Sem.run_bind, Sem.run, h1, Result.andThen], h2, h3⟩

theorem TIok.zeroValue {P : Program} {t : TypeId} {i : TI} (h : TIok P t i) (w : World) : ∃ z : Value, (Go.zeroValue t).run P w = .ok z w ∧ z.cells.size = i.size ∧ ∀ k, k < i.size → z.cells[k]? = some (i.zero k) := by
  obtain ⟨x, h1, h2, h3, z, h4, h5, h6⟩ := h.info
  exact ⟨z, by simp [Go.zeroValue, Go.typeInfo, program, Sem.run_bind, Sem.run, h1, Result.andThen, h4], h5, h6⟩

/-- So many elements of so many cells: at one cell each it is the number itself. -/
def mulS (n k : Nat) : Nat := bif Nat.beq k 1 then n else n * k
theorem mulS_eq (n k : Nat) : mulS n k = n * k := by
  unfold mulS
  cases h : Nat.beq k 1 with
  | false => rfl
  | true => have : k = 1 := Nat.eq_of_beq_eq_true h; subst this; simp

/-- So far on from a place: from the beginning it is the number itself. -/
def addS (o i : Nat) : Nat := bif Nat.beq o 0 then i else o + i
theorem addS_eq (o i : Nat) : addS o i = o + i := by
  unfold addS
  cases h : Nat.beq o 0 with
  | false => rfl
  | true => have : o = 0 := Nat.eq_of_beq_eq_true h; subst this; simp

def ptr (b o : Nat) : Value := .pointer (some ⟨b, o, none⟩)
def sl (b o len cap : Nat) : Value := .slice (some ⟨b, o, none⟩) len cap

theorem add_addr (b o n : Nat) : Addr.add ⟨b, o, none⟩ n = ⟨b, o + n, none⟩ := by
  unfold Addr.add; split
  · rename_i h; simp [h]
  · rfl

/-- An operation that leaves memory alone: its value. -/
structure QuG (P : Program) (op : Op) (ty : TypeId) (e : Env) (S : St) (k : Value → Prop) : Prop where
  out : ∃ v, (∀ (F : Fr) (w : World), Holds S F w → (execOp (ev e) ⟨none, op, ty, "", #[], none⟩).run P w = .ok (.value v) w) ∧ k v

def ibit (f : (n : Nat) → BitVec n → BitVec n → BitVec n) (k : IntKind) (x y : Int) : Int := k.wrap (f k.bits (BitVec.ofInt k.bits x) (BitVec.ofInt k.bits y)).toNat
def iand (k : IntKind) (x y : Int) : Int := k.wrap (BitVec.ofInt k.bits x &&& BitVec.ofInt k.bits y).toNat
def ior (k : IntKind) (x y : Int) : Int := k.wrap (BitVec.ofInt k.bits x ||| BitVec.ofInt k.bits y).toNat
def ixor (k : IntKind) (x y : Int) : Int := k.wrap (BitVec.ofInt k.bits x ^^^ BitVec.ofInt k.bits y).toNat
def ishl (k : IntKind) (x y : Int) : Int := k.wrap (x * 2 ^ (min y.toNat k.bits))
def ishr (k : IntKind) (x y : Int) : Int := x.fdiv (2 ^ (min y.toNat k.bits))

/-- A value that is still to be named. -/
structure ValS (v : Value) (q : Value → Prop) : Prop where
  out : q v
/-- An integer that stands for a natural number. -/
structure NatS (i : Int) (q : Nat → Prop) : Prop where
  out : 0 ≤ i ∧ q i.toNat
/-- Integers of one kind. -/
def binI (o : BinOp) (k : IntKind) (a b : Int) (q : Value → Prop) (stuck : Prop) : Prop := match o with
  | .add => ValS (.int k (k.wrap (a + b))) q
  | .sub => ValS (.int k (k.wrap (a - b))) q
  | .mul => ValS (.int k (k.wrap (a * b))) q
  | .quo => b ≠ 0 ∧ ValS (.int k (k.wrap (a.tdiv b))) q
  | .rem => b ≠ 0 ∧ ValS (.int k (a.tmod b)) q
  | .and => ValS (.int k (iand k a b)) q
  | .or => ValS (.int k (ior k a b)) q
  | .xor => ValS (.int k (ixor k a b)) q
  | .eql => q (.bool (a == b))
  | .neq => q (.bool (a != b))
  | .lss => q (.bool (decide (a < b)))
  | .leq => q (.bool (decide (a ≤ b)))
  | .gtr => q (.bool (decide (a > b)))
  | .geq => q (.bool (decide (a ≥ b)))
  | _ => stuck

def binE (o : BinOp) (x y : Value) (q : Value → Prop) (stuck : Prop) : Prop :=
  match x, y with
  | .int k a, .int k' b =>
    match o with
    | .shl => 0 ≤ b ∧ ValS (.int k (ishl k a b)) q
    | .shr => 0 ≤ b ∧ ValS (.int k (ishr k a b)) q
    | o => bif k == k' then binI o k a b q stuck else False
  | _, _ => stuck

def sliceNilE (o : BinOp) (v : Value) (q : Value → Prop) : Prop := match v with
  | .slice a _ _ => match o with
    | .eql => q (.bool a.isNone)
    | .neq => q (.bool (!a.isNone))
    | _ => False
  | .pointer a => match o with
    | .eql => q (.bool a.isNone)
    | .neq => q (.bool (!a.isNone))
    | _ => False
  | _ => False

def boundE (v : Option Value) (d : Nat) (y : Nat) (q : Nat → Prop) : Prop := match v with
  | none => q d
  | some (.int _ i) => NatS i fun n => n ≤ y ∧ q n
  | some _ => False

def fillC (c : Nat → Value) : List (Nat × Nat × Value) → (Nat → Value)
  | [] => c
  | (o, _, v) :: rest => fillC (updN c o v.cells.toList) rest
def fillOk (n : Nat) : List (Nat × Nat × Value) → Prop
  | [] => True
  | (o, z, v) :: rest => (v.cells.size = z ∧ o + z ≤ n) ∧ fillOk n rest

def quE (C : Cfg) (op : Op) (ty : TypeId) (e : Env) (S : St) (q : Value → Prop) : Prop :=
  match op with
  | .move x | .assign x => q (ev e x)
  | .pick c a b => match ev e c with
    | .bool t => q (bif t then ev e a else ev e b)
    | _ => False
  | .nilCheck x => match ev e x with
    | .pointer (some a) => q (.pointer (some a))
    | _ => False
  | .binOp o t x y u => match C.D t with
    | some i => match i.kind with
      | 1 => binE o (ev e x) (ev e y) q (QuG C.P op ty e S q)
      | 3 => match ev e y with
        | .pointer none => (match ev e x with | .pointer a => sliceNilE o (.pointer a) q | _ => False)
        | _ => QuG C.P op ty e S q
      | 4 => match ev e y with
        | .slice none _ _ => (match ev e x with | .slice a l c => sliceNilE o (.slice a l c) q | _ => False)
        | _ => QuG C.P op ty e S q
      | _ => QuG C.P op ty e S q
    | none => QuG C.P op ty e S q
  | .unOp o _ x => match o, ev e x with
    | .not, .bool b => q (.bool (!b))
    | .neg, .int k n => ValS (.int k (k.wrap (0 - n))) q
    | .xor, .int k n => ValS (.int k (ixor k (if k.signed then -1 else k.max) n)) q
    | _, _ => False
  | .convert s d x => match C.D s, C.D d, ev e x with
    | some _, some i, .int _ n => (match i.kind with | 1 => ValS (.int i.ik (i.ik.wrap n)) q | _ => QuG C.P op ty e S q)
    | _, _, _ => QuG C.P op ty e S q
  | .fieldAddr s x f => match C.D s, ev e x with
    | some i, .pointer (some ⟨b, o, none⟩) => (match i.kind, i.offs[f]? with | 6, some (off, _) => q (ptr b (o + off)) | _, _ => False)
    | _, _ => False
  | .indexAddr t x ix => match C.D t, ev e ix with
    | some i, .int _ k => (match C.D i.elem with
      | some j => (match i.kind, ev e x with
        | 5, .pointer (some ⟨b, o, none⟩) => NatS k fun n => n < i.len ∧ q (ptr b (addS o (mulS n j.size)))
        | 4, .slice (some ⟨b, o, none⟩) len _ => NatS k fun n => n < len ∧ q (ptr b (addS o (mulS n j.size)))
        | _, _ => False)
      | none => False)
    | _, _ => False
  | .slice t x lo hi mx => match C.D t with
    | some i => (match C.D i.elem with
      | some j => (match i.kind, ev e x with
        | 5, .pointer (some ⟨b, o, none⟩) => boundE (mx.map (ev e)) i.len i.len fun m => boundE (hi.map (ev e)) i.len m fun h => boundE (lo.map (ev e)) 0 h fun l =>
            (hi.isSome || mx.isNone) = true ∧ ValS (.slice (some ⟨b, if m = l then o else addS o (mulS l j.size), none⟩) (h - l) (m - l)) q
        | 4, .slice a len cap => boundE (mx.map (ev e)) cap cap fun m => boundE (hi.map (ev e)) len m fun h => boundE (lo.map (ev e)) 0 h fun l =>
            (hi.isSome || mx.isNone) = true ∧ (match a with
            | some ⟨b, o, none⟩ => ValS (.slice (some ⟨b, if m = l then o else addS o (mulS l j.size), none⟩) (h - l) (m - l)) q
            | some _ => False
            | none => q (.slice none (h - l) (m - l)))
        | _, _ => False)
      | none => False)
    | none => False
  | .extract x i => match ev e x with
    | .tuple vs => (match vs[i]? with | some v => q v | none => False)
    | _ => False
  | .sliceToArrayPointer d x => match C.D d, ev e x with
    | some i, .slice a len _ => (match i.kind with | 5 => i.len ≤ len ∧ q (.pointer a) | _ => False)
    | _, _ => False
  | .build t parts => match C.D t with
    | some i => (match i.kind with
      | 5 => match C.D i.elem with
        | some j => fillOk i.size ((parts.toList.map fun p => (p.1 * j.size, j.size, ev e p.2))) ∧
            q (.agg (cellsFrom (fillC i.zero (parts.toList.map fun p => (p.1 * j.size, j.size, ev e p.2))) 0 i.size).toArray)
        | none => False
      | 6 => parts.toList.all (fun p => (i.offs[p.1]?).isSome) = true ∧ fillOk i.size ((parts.toList.map fun p => ((i.offs.getD p.1 (0, 0)).1, (i.offs.getD p.1 (0, 0)).2, ev e p.2))) ∧
            q (.agg (cellsFrom (fillC i.zero (parts.toList.map fun p => ((i.offs.getD p.1 (0, 0)).1, (i.offs.getD p.1 (0, 0)).2, ev e p.2))) 0 i.size).toArray)
      | _ => False)
    | none => False
  | .call ⟨.builtin .len, args, tys⟩ => match args.toList, tys.toList with
    | [x], [t] => (match C.D t with
      | some i => (match i.kind, ev e x with
        | 4, .slice _ n _ => q (.int .i64 (n : Int))
        | 5, _ => q (.int .i64 (i.len : Int))
        | _, _ => QuG C.P op ty e S q)
      | none => False)
    | _, _ => False
  | .call ⟨.builtin .min, args, tys⟩ => match args.toList with
    | [x, y] => (match ev e x, ev e y with
      | .int k a, .int _ b => ValS (.int k (if b < a then b else a)) q
      | _, _ => False)
    | _ => False
  | .call ⟨.builtin .max, args, tys⟩ => match args.toList with
    | [x, y] => (match ev e x, ev e y with
      | .int k a, .int _ b => ValS (.int k (if b > a then b else a)) q
      | _, _ => False)
    | _ => False
  | op => QuG C.P op ty e S q
end Go.HL
