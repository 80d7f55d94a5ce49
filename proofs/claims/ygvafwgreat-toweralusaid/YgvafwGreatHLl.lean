import Derived.Test.YgvafwGreatHLj
set_option linter.unusedVariables false
set_option linter.unusedSimpArgs false
namespace Go.HL
/-! ### Regions that draw their order: one canonical order serves them all -/
def St0 : St := ⟨fun _ => False, []⟩
theorem St0.holds (h : World) : Holds St0 ⟨[], h, 0⟩ h := ⟨fun _ h => h.elim, fun _ h => by simp [St0] at h, by simp [St0], fun _ h => h.elim, Nat.zero_le _, ⟨⟨rfl, rfl, rfl⟩, Nat.le_refl _, fun _ h => absurd h (Nat.not_lt_zero _)⟩, fun _ h => by simp [St0] at h⟩

structure QuV (P : Program) (op : Op) (ty : TypeId) (e : Env) (S : St) (v : Value) : Prop where
  out : ∀ (F : Fr) (w : World), Holds S F w → (execOp (ev e) ⟨none, op, ty, "", #[], none⟩).run P w = .ok (.value v) w

def dstOf (ops : Array Oper) (i : Nat) : Option Nat := (ops[i]?).bind (·.dst)
def direct (o : Oper) : List Nat := (o.after.toList.filter (Region.binds .any)).map (·.on)
def masks : List Oper → List Nat → List Nat
  | [], acc => acc
  | o :: l, acc => masks l (acc ++ [(direct o).foldl (fun m k => m ||| (2 ^ k ||| acc.getD k 0)) 0])
/-- 0: quiet, 1: makes a variable, 2: all else. -/
def opClass : Op → Nat
  | .move _ | .assign _ | .pick .. | .nilCheck _ | .binOp .. | .unOp .. | .convert .. | .fieldAddr .. | .indexAddr .. | .slice .. | .extract .. | .sliceToArrayPointer .. | .build .. | .load .. | .field .. | .index .. => 0
  | .call ⟨.builtin .len, _, _⟩ | .call ⟨.builtin .min, _, _⟩ | .call ⟨.builtin .max, _, _⟩ => 0
  | .alloc _ => 1
  | _ => 2
def guardW (ops : Array Oper) (e : Env) (o : Oper) (X Y : Env → Prop) : Prop := match o.guard with
  | none => X e
  | some (j, want) => match dstOf ops j with
    | none => False
    | some d => GuardS (e d) want (fun b => X (upd e d b)) (fun b => Y (upd e d b))
def stillE (P : Program) (ops : Array Oper) (S : St) : List (Nat × Env × Value) → Prop → Prop
  | [], X => X
  | (i, e, v) :: l, X => (match ops[i]? with | some o => QuV P o.op o.type e S v | none => False) ∧ stillE P ops S l X

def drawE (C : Cfg) (ops : Array Oper) (msk rd : List Nat) (K : Env → St → Prop) : List Nat → List (Nat × Env × Value) → Env → St → Prop
  | [], _, e, S => K e S
  | i :: rest, pend, e, S => match ops[i]? with
    | none => False
    | some o => match rd.contains i, opClass o.op with
      | true, 0 => guardW ops e o (fun e => quE C o.op o.type e S fun v => drawE C ops msk rd K rest ((i, e, v) :: pend) (put e o.dst v) S) (fun e => drawE C ops msk rd K rest pend (put e o.dst undef) S)
      | false, 0 => guardW ops e o (fun e => quE C o.op o.type e St0 fun v => drawE C ops msk rd K rest pend (put e o.dst v) S) (fun e => drawE C ops msk rd K rest pend (put e o.dst undef) S)
      | _, 1 => (match o.op with
        | .alloc t => (match C.D t with
          | some ti => ∀ b, drawE C ops msk rd K rest pend (put e o.dst (ptr b 0)) ⟨S.I, ⟨b, ti.size, t, ti.zero⟩ :: S.G⟩
          | none => False)
        | _ => False)
      | _, _ => guardW ops e o (fun e => opE C o.op o.type e S fun v S' => stillE C.P ops S' (pend.filter fun p => !(msk.getD i 0).testBit p.1) (drawE C ops msk rd K rest pend (put e o.dst v) S')) (fun e => drawE C ops msk rd K rest pend (put e o.dst undef) S)

/-- What the order must be. -/
def tmpsOf (ops : Array Oper) (o : Oper) : List Nat := o.looksAt ops
def suffB (ops : Array Oper) (msk : List Nat) : List Nat → Bool
  | [] => true
  | i :: rest => (match ops[i]? with
      | none => false
      | some o => (opClass o.op == 0 || rest.all fun k => (match ops[k]? with | some ok => opClass ok.op == 1 | none => false) || (msk.getD k 0).testBit i) &&
          (opClass o.op != 1 || (o.guard.isNone && match o.dst with | some _ => true | none => false))) &&
      (i :: rest).all (fun k => !(msk.getD i 0).testBit k) && !rest.contains i && suffB ops msk rest
def slotB (ops : Array Oper) (msk : List Nat) : Bool := (List.range ops.size).all fun i => match dstOf ops i with
  | none => true
  | some d => (List.range ops.size).all fun k => match ops[k]? with
    | none => true
    | some o => (k == i || dstOf ops k != some d) && (!(tmpsOf ops o).contains d || (k != i && ((msk.getD k 0).testBit i || (msk.getD i 0).testBit k)))
def edgeB (ops : Array Oper) : Bool := (List.range ops.size).all fun i => match ops[i]? with
  | none => true
  | some o => (direct o).all fun k => Nat.blt k i
def drawOk (n : Nat) (ops : Array Oper) (msk ord : List Nat) : Bool :=
  opsOk n ops && Region.noSelect ops && msk == masks ops.toList [] && (List.range ops.size).all (ord.contains ·) && ord.length == ops.size && suffB ops msk ord && slotB ops msk && edgeB ops

section
variable {C : Cfg} {n : Nat} {ops : Array Oper} {msk rd : List Nat}

theorem masks_len : ∀ (l : List Oper) (acc : List Nat), (masks l acc).length = acc.length + l.length := by
  intro l; induction l with
  | nil => intro acc; simp [masks]
  | cons o l ih => intro acc; rw [masks, ih]; simp; omega
theorem masks_keep : ∀ (l : List Oper) (acc : List Nat) (i : Nat), i < acc.length → (masks l acc).getD i 0 = acc.getD i 0 := by
  intro l; induction l with
  | nil => intro acc i _; rfl
  | cons o l ih =>
    intro acc i hi
    rw [masks, ih _ i (by simp; omega)]
    simp [List.getElem?_append_left hi]
theorem fold_bit (acc : List Nat) (j : Nat) : ∀ (ks : List Nat) (m : Nat), (ks.foldl (fun m k => m ||| (2 ^ k ||| acc.getD k 0)) m).testBit j = true → m.testBit j = true ∨ ∃ k ∈ ks, k = j ∨ (acc.getD k 0).testBit j = true := by
  intro ks; induction ks with
  | nil => intro m h; exact .inl h
  | cons k ks ih =>
    intro m h
    rcases ih _ h with h | ⟨k', hk', h⟩
    · rw [Nat.testBit_or, Nat.testBit_or, Nat.testBit_two_pow] at h
      simp only [Bool.or_eq_true, decide_eq_true_eq] at h
      rcases h with h | h | h
      · exact .inl h
      · exact .inr ⟨k, by simp, .inl h⟩
      · exact .inr ⟨k, by simp, .inr h⟩
    · exact .inr ⟨k', by simp [hk'], h⟩
theorem masks_at : ∀ (l : List Oper) (acc : List Nat) (i j : Nat) (o : Oper), l[i]? = some o → ((masks l acc).getD (acc.length + i) 0).testBit j = true →
    ∃ k ∈ direct o, k = j ∨ (k < acc.length + i ∧ ((masks l acc).getD k 0).testBit j = true) := by
  intro l; induction l with
  | nil => intro acc i j o h; simp at h
  | cons o' l ih =>
    intro acc i j o hi hb
    cases i with
    | zero =>
      simp only [List.getElem?_cons_zero, Option.some.injEq] at hi
      subst hi
      rw [masks, masks_keep _ _ _ (by simp)] at hb
      simp only [Nat.add_zero] at hb
      rw [show ∀ x : Nat, (acc ++ [x]).getD acc.length 0 = x from fun x => by simp] at hb
      rcases fold_bit acc j _ _ hb with h | ⟨k, hk, h⟩
      · simp at h
      · refine ⟨k, hk, ?_⟩
        rcases h with h | h
        · exact .inl h
        · by_cases hlt : k < acc.length
          · refine .inr ⟨by omega, ?_⟩
            rw [masks, masks_keep _ _ _ (by simp; omega)]
            simpa [List.getElem?_append_left hlt] using h
          · simp [List.getElem?_eq_none (Nat.le_of_not_lt hlt)] at h
    | succ i =>
      rw [masks] at hb ⊢
      have := ih (acc ++ [(direct o').foldl (fun m k => m ||| (2 ^ k ||| acc.getD k 0)) 0]) i j o (by simpa using hi) (by rw [show (acc ++ [(direct o').foldl (fun m k => m ||| (2 ^ k ||| acc.getD k 0)) 0]).length + i = acc.length + (i + 1) by simp; omega]; exact hb)
      obtain ⟨k, hk, h⟩ := this
      refine ⟨k, hk, h.imp id fun ⟨h1, h2⟩ => ⟨by simp at h1; omega, h2⟩⟩

/-- An ancestor of a listed operation is listed. -/
theorem anc_listed {L : Nat → Prop} (hm : msk = masks ops.toList []) (hL : ∀ i o, ops[i]? = some o → L i → ∀ k ∈ direct o, L k) :
    ∀ (i : Nat) (o : Oper) (j : Nat), ops[i]? = some o → (∀ k ∈ direct o, L k) → (msk.getD i 0).testBit j = true → L j := by
  intro i
  induction i using Nat.strongRecOn with
  | _ i ih =>
    intro o j ho hd hb
    subst hm
    obtain ⟨k, hk, h⟩ := masks_at ops.toList [] i j o (by simpa using ho) (by simpa using hb)
    rcases h with rfl | ⟨hlt, h⟩
    · exact hd _ hk
    · simp only [List.length_nil, Nat.zero_add] at hlt
      have hlt' : k < ops.size := by have := (Array.getElem?_eq_some_iff.1 ho).1; omega
      exact ih k hlt ops[k] j (Array.getElem?_eq_getElem hlt') (fun k' hk' => hL k ops[k] (Array.getElem?_eq_getElem hlt') (hd k hk) k' hk') h
end
end Go.HL
