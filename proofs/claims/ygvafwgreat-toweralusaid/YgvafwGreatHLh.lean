import Derived.Test.YgvafwGreatHLg
set_option linter.unusedVariables false
set_option linter.unusedSimpArgs false
namespace Go.HL

def vc (v : Value) : Nat → Value := fun k => v.cells.toList.getD k undef
def zc (j : TI) : Nat → Value := fun i => bif Nat.beq j.size 1 then j.zero 0 else j.zero (i % j.size)
theorem zc_eq (j : TI) (i : Nat) : zc j i = j.zero (i % j.size) := by
  unfold zc
  cases h : Nat.beq j.size 1 with
  | false => rfl
  | true => have : j.size = 1 := Nat.eq_of_beq_eq_true h; rw [this, Nat.mod_one]; rfl

def callE (C : Cfg) (f : FuncId) (args : Array Value) (S : St) (K : Post) (stuck : Prop) : Prop := bif C.B f then CallG C.P f args S K else stuck

def opE (C : Cfg) (op : Op) (ty : TypeId) (e : Env) (S : St) (K : Post) : Prop :=
  match op with
  | .alloc t => match C.D t with
    | some i => ∀ b, K (ptr b 0) ⟨S.I, ⟨b, i.size, t, i.zero⟩ :: S.G⟩
    | none => False
  | .box t x => ∀ b, K (ptr b 0) ⟨S.I, ⟨b, (ev e x).cells.size, t, vc (ev e x)⟩ :: S.G⟩
  | .makeSlice t l c => match C.D t with
    | some i => (match C.D i.elem, i.kind, ev e l, ev e c with
      | some j, 4, .int _ n, .int _ m => NatS n fun n => NatS m fun m => (n ≤ m ∧ m < 2 ^ 63 ∧ j.bytes * m ≤ 2 ^ 48) ∧ ∀ b, K (sl b 0 n m) ⟨S.I, ⟨b, mulS m j.size, i.elem, zc j⟩ :: S.G⟩
      | _, _, _, _ => False)
    | none => False
  | .buildSlice t len parts => match C.D t with
    | some i => (match C.D i.elem, i.kind with
      | some j, 4 => (0 < len * j.size ∧ len * j.size ≤ 2 ^ 24) ∧ fillOk (len * j.size) (parts.toList.map fun p => (p.1 * j.size, j.size, ev e p.2)) ∧
          ∀ b, K (sl b 0 len len) ⟨S.I, ⟨b, len * j.size, i.elem, fillC (zc j) (parts.toList.map fun p => (p.1 * j.size, j.size, ev e p.2))⟩ :: S.G⟩
      | _, _ => False)
    | none => False
  | .store .. => OpG C.P op ty e S K
  | .call ⟨.value (.func f), args, tys⟩ => callE C f (args.toList.map (ev e)).toArray S K (OpG C.P op ty e S K)
  | .call ⟨.builtin .append, _, _⟩ => OpG C.P op ty e S K
  | .call ⟨.builtin .copy, _, _⟩ => OpG C.P op ty e S K
  | .call ⟨.builtin .clear, _, _⟩ => OpG C.P op ty e S K
  | op => quE C op ty e S fun v => K v S

section
variable {C : Cfg} {ty : TypeId} {e : Env} {S : St} {K : Post}

theorem QuG.op {P : Program} {op : Op} (h : QuG P op ty e S fun v => K v S) : OpG P op ty e S K := by
  obtain ⟨v, h1, h2⟩ := h.out
  refine ⟨fun F w hw => ?_⟩
  rw [h1 F w hw]
  exact ⟨S, hw, .refl _, h2⟩

theorem vc_get (v : Value) (i : Nat) (h : i < v.cells.size) : v.cells[i]? = some (vc v i) := by
  simp [vc, Array.getElem?_eq_getElem h]

theorem range_map_get (n : Nat) (z : Array Value) (c : Nat → Value) (hz : ∀ k, k < z.size → z[k]? = some (c k)) (h0 : n ≠ 0 → 0 < z.size) (i : Nat) (hi : i < ((Array.range n).map (z[· % z.size]!)).size) :
    ((Array.range n).map (z[· % z.size]!))[i]? = some (c (i % z.size)) := by
  simp only [Array.size_map, Array.size_range] at hi
  have hpos := h0 (by omega)
  have hlt : i % z.size < z.size := Nat.mod_lt _ hpos
  have := hz _ hlt
  rw [Array.getElem?_map]
  simp only [Array.getElem?_range, hi, if_true, Option.map_some]
  rw [getElem!_pos z _ hlt]
  rw [Array.getElem?_eq_getElem hlt] at this
  simpa using this

theorem wrap_i64 (n : Int) (h0 : 0 ≤ n) (h1 : n < 2 ^ 63) : IntKind.wrap .i64 n = n := by
  have e : IntKind.bits .i64 = 64 := rfl
  have e2 : IntKind.signed .i64 = true := rfl
  unfold IntKind.wrap
  simp only [e, e2, Bool.true_and]
  have : n % (2 ^ 64 : Int) = n := Int.emod_eq_of_lt h0 (by omega)
  rw [this]
  simp only [ge_iff_le, decide_eq_true_eq]
  rw [if_neg (by omega)]

theorem call_run {P : Program} {f : FuncId} {fn : Func} {args : Array Operand} {tys : Array TypeId} {w : World} (h1 : P.funcs[f]? = some fn) (h2 : fn.body.isNone = false) (h3 : (fn.name == "runtime.NumGoroutine") = false) :
    (execOp (ev e) ⟨none, .call ⟨.value (.func f), args, tys⟩, ty, "", #[], none⟩).run P w = .ok (.enter f (args.toList.map (ev e)).toArray) w := by
  have ha : args.map (ev e) = (args.toList.map (ev e)).toArray := by rw [← Array.toList_map]
  simp only [execOp, resolve, ev, Deferred.ofValue, Sem.run_bind, Sem.run_pure, Result.andThen, invoke, callFunc, program, Sem.run, h1, h2, h3, Bool.false_eq_true, if_false, ha, Array.append_empty, Array.empty_append]

theorem opE_sound (hC : C.Ok) {op : Op} (h : opE C op ty e S K) : OpG C.P op ty e S K := by
  unfold opE at h
  split at h
  · rename_i t
    split at h
    · rename_i i hi
      refine ⟨fun F w hw => ?_⟩
      obtain ⟨z, z1, z2, z3⟩ := (hC.tab t i hi).zeroValue w
      have hp := hw.push (arr := z.cells) (T := t) (c := i.zero) (by rw [z2]; exact z3)
      rw [z2] at hp
      simp only [execOp, Instr.alloc, Sem.run_bind, z1, Result.andThen, newVar, newRow, newObj, Sem.run, Sem.run_pure, OpUpon]
      exact ⟨_, hp, .refl _, h _⟩
    · exact h.elim
  · rename_i t x
    refine ⟨fun F w hw => ?_⟩
    have hp := hw.push (arr := (ev e x).cells) (T := t) (c := vc (ev e x)) (fun i hi => vc_get _ i hi)
    simp only [execOp, Instr.box, Sem.run_bind, Result.andThen, newVar, newRow, newObj, Sem.run, Sem.run_pure, OpUpon]
    exact ⟨_, hp, .refl _, h _⟩
  · rename_i t l c
    split at h
    · rename_i i hi
      split at h
      · rename_i j k1 n k2 m hj hk hl hcp
        obtain ⟨h1, hm⟩ := h.out
        obtain ⟨hm0, ⟨h2, h3, h4⟩, h5⟩ := hm.out
        simp only [mulS_eq] at h5
        have h4 : (j.bytes : Int) * m ≤ 2 ^ 48 := by
          have e0 : ((j.bytes * m.toNat : Nat) : Int) = (j.bytes : Int) * m := by rw [Int.natCast_mul, Int.toNat_of_nonneg hm0]
          rw [← e0]; exact_mod_cast h4
        have h2 : n ≤ m := by omega
        have h3 : m < 2 ^ 63 := by omega
        have hok := (hC.tab t i hi).desc
        unfold descOk at hok; rw [hk] at hok; simp only at hok
        refine ⟨fun F w hw => ?_⟩
        obtain ⟨x, x1, x2, x3⟩ := (hC.tab i.elem j hj).typeInfo w
        obtain ⟨z, z1, z2, z3⟩ := (hC.tab i.elem j hj).zeroValue w
        have e1 : IntKind.wrap .i64 n = n := wrap_i64 n h1 (by omega)
        have e2 : IntKind.wrap .i64 m = m := wrap_i64 m (by omega) h3
        have c1 : (decide (m < 0) || decide ((x.bytes : Int) * m > 2 ^ 48)) = false := by
          rw [x3]; simp; omega
        have hroom : ∀ (b : Nat) (w : World), (askRoom b).run C.P w = .ok () w := by
          intro b w; unfold askRoom; split <;> simp [mark, Sem.run]
        have hsz := (hC.tab i.elem j hj).sizeOf w
        simp only [execOp, Instr.makeSlice, run_underlying hok, hl, hcp, asInt, asIntOf, Sem.run_bind, Sem.run_pure, Result.andThen, x1, e1, e2, c1, Bool.false_or]
        have c2 : (decide (n < 0) || decide (n > m)) = false := by simp; omega
        have c3 : ¬ (n < 0 ∨ n > m) := by omega
        have c4 : ¬ (n < 0) := by omega
        have c5 : ¬ (n > m) := by omega
        simp only [c1, c2, c4, c5, decide_false, Bool.or_false, Bool.false_or, Bool.false_eq_true, if_false, Sem.run_bind, hroom, Result.andThen, Sem.run_pure, hsz, newRow, newObj, Sem.run]
        by_cases hz : m.toNat * j.size = 0
        · simp only [hz, if_true, Sem.run_pure, Result.andThen, Sem.run_bind, newObj, Sem.run, OpUpon]
          have hp := hw.push (arr := (Array.range 0).map ((#[] : Array Value)[· % (#[] : Array Value).size]!)) (T := i.elem) (c := zc j) (fun k hk => by simp at hk)
          simp only [Array.size_map, Array.size_range] at hp
          have h6 := h5 w.heap.size
          rw [hz] at h6
          exact ⟨_, hp, .refl _, h6⟩
        · simp only [hz, if_false, z1, Sem.run_bind, Sem.run_pure, Result.andThen, newObj, Sem.run, OpUpon]
          have hpos : 0 < j.size := Nat.pos_of_ne_zero fun h0 => hz (by simp [h0])
          have hp := hw.push (arr := (Array.range (m.toNat * j.size)).map (z.cells[· % z.cells.size]!)) (T := i.elem) (c := zc j) (fun k hk => by
            rw [range_map_get _ z.cells j.zero (by rw [z2]; exact z3) (fun _ => by rw [z2]; exact hpos) k hk, z2, zc_eq])
          simp only [Array.size_map, Array.size_range] at hp
          exact ⟨_, hp, .refl _, h5 _⟩
      · exact h.elim
    · exact h.elim
  · rename_i t len parts
    split at h
    · rename_i i hi
      split at h
      · rename_i j hj hk
        obtain ⟨⟨h1, h2⟩, h3, h4⟩ := h
        have hok := (hC.tab t i hi).desc
        unfold descOk at hok; rw [hk] at hok; simp only at hok
        refine ⟨fun F w hw => ?_⟩
        obtain ⟨z, z1, z2, z3⟩ := (hC.tab i.elem j hj).zeroValue w
        have hsz := (hC.tab i.elem j hj).sizeOf w
        have hpos : 0 < j.size := Nat.pos_of_ne_zero fun h0 => by simp [h0] at h1
        have hc0 : ∀ k, k < ((Array.range (len * j.size)).map (z.cells[· % z.cells.size]!)).size → ((Array.range (len * j.size)).map (z.cells[· % z.cells.size]!))[k]? = some (zc j k) := fun k hk => by
            rw [range_map_get _ z.cells j.zero (by rw [z2]; exact z3) (fun _ => by rw [z2]; exact hpos) k hk, z2, zc_eq]
        obtain ⟨r, r1, r2, r3⟩ := fill_run (place := fun i => some (i * j.size, j.size)) (parts.map fun p => (p.1, ev e p.2)).toList (parts.toList.map fun p => (p.1 * j.size, j.size, ev e p.2)) _ _ hc0
          (by simpa using h3) (by simp) (by
            intro a b v hv
            simp only [Array.toList_map, List.getElem?_map, Option.map_eq_some_iff] at hv
            obtain ⟨p, hp, he⟩ := hv
            simp only [Prod.mk.injEq] at he
            obtain ⟨rfl, rfl⟩ := he
            exact ⟨_, _, by simp [hp], rfl⟩)
        have g1 : ¬ len * j.size > 2 ^ 24 := by omega
        have g2 : ¬ len * j.size = 0 := by omega
        simp only [execOp, Instr.buildSlice, run_underlying hok, Sem.run_bind, Sem.run_pure, Result.andThen, hsz, g1, g2, if_false, z1]
        simp only [Array.toList_map] at r1 ⊢
        rw [r1]
        simp only [Sem.run_bind, newRow, newObj, Sem.run, Sem.run_pure, Result.andThen, OpUpon]
        have hp := hw.push (arr := r) (T := i.elem) (c := _) (fun k hk => r3 k (by rw [← r2]; exact hk))
        rw [r2] at hp
        simp only [Array.size_map, Array.size_range] at hp
        exact ⟨_, hp, .refl _, h4 _⟩
      · exact h.elim
    · exact h.elim
  · exact h
  · rename_i f args tys
    unfold callE at h
    cases hB : C.B f with
    | false => rw [hB] at h; exact h
    | true =>
      rw [hB] at h
      obtain ⟨fn, h1, h2, h3⟩ := hC.body f hB
      refine ⟨fun F w hw => ?_⟩
      rw [call_run h1 h2 h3]
      exact h.run F w hw
  · exact h
  · exact h
  · exact h
  · exact (quE_sound hC h).op
end
end Go.HL
