import Derived.Test.YgvafwGreatHLc
set_option linter.unusedVariables false
set_option linter.unusedSimpArgs false
namespace Go.HL
/-! ### The table of types, held against the program by a reckoning -/
def veq : Value → Value → Bool
  | .int k a, .int k' b => k == k' && a == b
  | .bool a, .bool b => a == b
  | .pointer none, .pointer none => true
  | .slice none 0 0, .slice none 0 0 => true
  | .string a, .string b => a.data == b.data
  | _, _ => false
theorem veq_eq {x y : Value} (h : veq x y = true) : x = y := by
  unfold veq at h
  split at h
  · simp at h; obtain ⟨rfl, rfl⟩ := h; rfl
  · simp at h; subst h; rfl
  · rfl
  · rfl
  · rename_i a b; simp at h; obtain ⟨a⟩ := a; obtain ⟨b⟩ := b; simp at h; subst h; rfl
  · cases h
def cellsB (f : Nat → Value) (l : List Value) : Bool := (l.zip (List.range l.length)).all fun p => veq p.1 (f p.2)
theorem cellsB_get {f : Nat → Value} (l : List Value) (i : Nat) (h : cellsB f l = true) (hi : i < l.length) : l[i]? = some (f i) := by
  have hm : (l[i], i) ∈ l.zip (List.range l.length) := by
    rw [List.mem_iff_getElem]
    exact ⟨i, by simpa using hi, by simp⟩
  have := List.all_eq_true.1 h _ hm
  rw [List.getElem?_eq_getElem hi]; exact congrArg some (veq_eq this)

def fieldsB (P : Program) : List Field → List (Nat × Nat) → Bool
  | [], [] => true
  | f :: fs, (o, z) :: os => f.offset == o && z != 0 && (match P.info? f.type with | some x => x.size == z | none => false) && fieldsB P fs os
  | _, _ => false
theorem fieldsB_spec {P : Program} : ∀ (fs : List Field) (os : List (Nat × Nat)), fieldsB P fs os = true → os.length = fs.length ∧
    ∀ k o z : Nat, os[k]? = some (o, z) → z ≠ 0 ∧ ∃ f : Field, fs[k]? = some f ∧ f.offset = o ∧ ∃ x : TypeInfo, P.info? f.type = some x ∧ x.size = z := by
  intro fs
  induction fs with
  | nil => intro os h; cases os <;> simp [fieldsB] at h ⊢
  | cons f fs ih =>
    intro os h
    cases os with
    | nil => simp [fieldsB] at h
    | cons oz os =>
      obtain ⟨o, z⟩ := oz
      simp only [fieldsB, Bool.and_eq_true, beq_iff_eq, bne_iff_ne] at h
      obtain ⟨⟨⟨h1, h2⟩, h3⟩, h4⟩ := h
      obtain ⟨g1, g2⟩ := ih os h4
      refine ⟨by simp [g1], fun k o' z' hk => ?_⟩
      cases k with
      | zero =>
        simp only [List.getElem?_cons_zero, Option.some.injEq, Prod.mk.injEq] at hk
        obtain ⟨rfl, rfl⟩ := hk
        refine ⟨h2, f, rfl, h1, ?_⟩
        split at h3
        · rename_i x hx; exact ⟨x, hx, by simpa using h3⟩
        · cases h3
      | succ k => simpa using g2 k o' z' (by simpa using hk)

def descB (P : Program) (t : TypeId) (i : TI) : Bool := match i.kind, P.underlying t with
  | 0, some .bool => true
  | 1, some (.int k) => k == i.ik
  | 2, some .string => true
  | 3, some (.pointer e) => e == i.elem
  | 4, some (.slice e) => e == i.elem
  | 5, some (.array n e) => n == i.len && e == i.elem
  | 6, some (.struct fs) => fieldsB P fs.toList i.offs
  | _, _ => false
def tiB (P : Program) (t : TypeId) (i : TI) : Bool := descB P t i && match P.info? t with
  | some x => x.size == i.size && x.bytes == i.bytes && (match x.zero with
    | some z => z.cells.toList.length == i.size && cellsB i.zero z.cells.toList
    | none => false)
  | none => false
theorem tiB_ok {P : Program} {t : TypeId} {i : TI} (h : tiB P t i = true) : TIok P t i := by
  simp only [tiB, Bool.and_eq_true] at h
  obtain ⟨h1, h2⟩ := h
  constructor
  · split at h2
    · rename_i x hx
      simp only [Bool.and_eq_true, beq_iff_eq] at h2
      obtain ⟨⟨h3, h4⟩, h5⟩ := h2
      split at h5
      · rename_i z hz
        simp only [Bool.and_eq_true, beq_iff_eq] at h5
        refine ⟨x, hx, h3, h4, z, hz, by simpa using h5.1, fun k hk => ?_⟩
        have := cellsB_get _ k h5.2 (by rw [h5.1]; exact hk)
        simpa using this
      · cases h5
    · cases h2
  · unfold descB at h1
    unfold descOk
    split at h1
    · rename_i hk hu; rw [hk]; exact hu
    · rename_i hk hu; rw [hk]; simp at h1; subst h1; exact hu
    · rename_i hk hu; rw [hk]; exact hu
    · rename_i hk hu; rw [hk]; simp at h1; subst h1; exact hu
    · rename_i hk hu; rw [hk]; simp at h1; subst h1; exact hu
    · rename_i hk hu; rw [hk]; simp at h1; obtain ⟨rfl, rfl⟩ := h1; exact hu
    · rename_i fs hk hu; rw [hk]
      obtain ⟨g1, g2⟩ := fieldsB_spec _ _ h1
      exact ⟨fs, hu, by simpa using g1, fun k o z hk => by simpa using g2 k o z hk⟩
    · cases h1

def tabB (P : Program) (D : Nat → Option TI) (n : Nat) : Bool := (List.range n).all fun t => match D t with
  | some i => tiB P t i
  | none => true
def funcB (fn : Option Func) : Bool := match fn with
  | some fn => !fn.body.isNone && !(fn.name == "runtime.NumGoroutine")
  | none => false
def bodyB (P : Program) (B : Nat → Bool) (n : Nat) : Bool := (List.range n).all fun f => !B f || funcB P.funcs[f]?

theorem Cfg.ok_of {P : Program} {D : Nat → Option TI} {B : Nat → Bool} {n m : Nat} (h1 : tabB P D n = true) (h2 : ∀ t, n ≤ t → D t = none) (h3 : bodyB P B m = true) (h4 : ∀ f, m ≤ f → B f = false)
    (h5 : P.follows .mixedOrders = true) : Cfg.Ok ⟨P, D, B⟩ := by
  refine ⟨fun t i hi => ?_, fun f hf => ?_, h5⟩
  · have hlt : t < n := Nat.lt_of_not_le fun h => by
      have hi' : D t = some i := hi
      rw [h2 t h] at hi'; cases hi'
    have := List.all_eq_true.1 h1 t (List.mem_range.2 hlt)
    have hi' : D t = some i := hi
    rw [hi'] at this
    exact tiB_ok this
  · have hf' : B f = true := hf
    have hlt : f < m := Nat.lt_of_not_le fun h => by rw [h4 f h] at hf'; cases hf'
    have := List.all_eq_true.1 h3 f (List.mem_range.2 hlt)
    simp only [hf', Bool.not_true, Bool.false_or] at this
    unfold funcB at this
    split at this
    · rename_i fn hfn
      simp only [Bool.and_eq_true, Bool.not_eq_true'] at this
      exact ⟨fn, hfn, this.1, this.2⟩
    · cases this
end Go.HL
