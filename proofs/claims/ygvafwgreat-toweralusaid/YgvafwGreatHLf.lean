import Derived.Test.YgvafwGreatHLe
set_option linter.unusedVariables false
set_option linter.unusedSimpArgs false
namespace Go.HL
section
variable {C : Cfg} {ty : TypeId} {e : Env} {S : St} {q : Value → Prop}

theorem NatS.bnd {i : Int} {y : Nat} {r : Nat → Prop} (h : NatS i fun n => n ≤ y ∧ r n) : (0 ≤ i ∧ i ≤ (y : Int)) ∧ r i.toNat := by
  obtain ⟨h0, h1, h2⟩ := h.out
  exact ⟨⟨h0, Int.toNat_le.1 h1⟩, h2⟩
theorem sliceBound_run {P : Program} {w : World} {k : IntKind} {i : Int} {y : Nat} {cd : BoundsCode} (h : 0 ≤ i ∧ i ≤ (y : Int)) : (Instr.sliceBound (.int k i) y cd).run P w = .ok i.toNat w := by
  simp [Instr.sliceBound, asIntOf, Sem.run_bind, Result.andThen, h.1, h.2]

/-- The three bounds, whatever they are. -/
theorem bounds_run {P : Program} {lo hi mx : Option Value} {len cap : Nat} {isS : Bool} {R : Nat → Nat → Nat → Prop}
    (h : boundE mx cap cap fun m => boundE hi len m fun hh => boundE lo 0 hh fun l => (hi.isSome || mx.isNone) = true ∧ R l hh m) :
    ∃ l hh m, R l hh m ∧ ∀ w : World, (Instr.sliceBounds isS len cap lo hi mx).run P w = .ok (l, hh, m) w := by
  cases mx with
  | none =>
    simp only [boundE] at h
    cases hi with
    | none =>
      (try simp only at h)
      cases lo with
      | none => exact ⟨0, len, cap, h.2, fun w => by simp [Instr.sliceBounds, Sem.run_bind, Result.andThen]⟩
      | some lo =>
        (try simp only at h)
        split at h
        · rename_i hl; cases hl
        · rename_i kl il hl
          simp only [Option.some.injEq] at hl; subst hl; replace h := NatS.bnd h
          exact ⟨_, len, cap, h.2.2, fun w => by simp [Instr.sliceBounds, Sem.run_bind, Result.andThen, sliceBound_run h.1]⟩
        · exact h.elim
    | some hi =>
      (try simp only at h)
      split at h
      · rename_i hl; cases hl
      · rename_i kh ih hl
        simp only [Option.some.injEq] at hl; subst hl; replace h := NatS.bnd h
        obtain ⟨h1, h⟩ := h
        cases lo with
        | none => exact ⟨0, _, cap, h.2, fun w => by simp [Instr.sliceBounds, Sem.run_bind, Result.andThen, sliceBound_run h1]⟩
        | some lo =>
          (try simp only at h)
          split at h
          · rename_i hl; cases hl
          · rename_i kl il hl
            simp only [Option.some.injEq] at hl; subst hl; replace h := NatS.bnd h
            exact ⟨_, _, cap, h.2.2, fun w => by simp [Instr.sliceBounds, Sem.run_bind, Result.andThen, sliceBound_run h1, sliceBound_run h.1]⟩
          · exact h.elim
      · exact h.elim
  | some mx =>
    simp only [boundE] at h
    split at h
    · rename_i hl; cases hl
    · rename_i km im hm
      simp only [Option.some.injEq] at hm; subst hm; replace h := NatS.bnd h
      obtain ⟨h0, h⟩ := h
      cases hi with
      | none =>
        (try simp only at h)
        cases lo with
        | none => simp at h
        | some lo =>
          (try simp only at h)
          split at h
          · rename_i hl; cases hl
          · have := h.out; simp at this
          · exact h.elim
      | some hi =>
        (try simp only at h)
        split at h
        · rename_i hl; cases hl
        · rename_i kh ih hl
          simp only [Option.some.injEq] at hl; subst hl; replace h := NatS.bnd h
          obtain ⟨h1, h⟩ := h
          cases lo with
          | none => exact ⟨0, _, _, h.2, fun w => by simp [Instr.sliceBounds, Sem.run_bind, Result.andThen, sliceBound_run h0, sliceBound_run h1]⟩
          | some lo =>
            (try simp only at h)
            split at h
            · rename_i hl; cases hl
            · rename_i kl il hl
              simp only [Option.some.injEq] at hl; subst hl; replace h := NatS.bnd h
              exact ⟨_, _, _, h.2.2, fun w => by simp [Instr.sliceBounds, Sem.run_bind, Result.andThen, sliceBound_run h0, sliceBound_run h1, sliceBound_run h.1]⟩
            · exact h.elim
        · exact h.elim
    · exact h.elim

theorem slice_sound (hC : C.Ok) {t : TypeId} {x : Operand} {lo hi mx : Option Operand} (h : match C.D t with
    | some i => (match C.D i.elem with
      | some j => (match i.kind, ev e x with
        | 5, .pointer (some ⟨b, o, none⟩) => boundE (mx.map (ev e)) i.len i.len fun m => boundE (hi.map (ev e)) i.len m fun h => boundE (lo.map (ev e)) 0 h fun l =>
            (hi.isSome || mx.isNone) = true ∧ ValS (.slice (some ⟨b, if m = l then o else addS o (mulS l j.size), none⟩) (h - l) (m - l)) q
        | 4, .slice a len cap => boundE (mx.map (ev e)) cap cap fun m => boundE (hi.map (ev e)) len m fun h => boundE (lo.map (ev e)) 0 h fun l =>
            (hi.isSome || mx.isNone) = true ∧ (match a with
            | some ⟨b, o, none⟩ => ValS (.slice (some ⟨b, if m = l then o else addS o (mulS l j.size), none⟩) (h - l) (m - l)) q
            | some _ => False
            | none => q (.slice none (h - l) (m - l)))
        | _, _ => False)
      | none => False)
    | none => False) : QuG C.P (.slice t x lo hi mx) ty e S q := by
  split at h
  · rename_i i ht
    split at h
    · rename_i j hj
      have hok := (hC.tab t i ht).desc
      have hm1 : (hi.map (ev e)).isSome = hi.isSome := by cases hi <;> rfl
      have hm2 : (mx.map (ev e)).isNone = mx.isNone := by cases mx <;> rfl
      rw [← hm1, ← hm2] at h
      split at h
      · rename_i b o hk hx
        unfold descOk at hok; rw [hk] at hok; simp only at hok
        obtain ⟨l, hh, m, hR, hrun⟩ := bounds_run (P := C.P) (isS := false) h
        refine .mk' (fun F w _ => ?_) hR.out
        simp only [execOp, hx, Instr.sliceAt, run_underlying hok, Instr.sureAddr, Sem.run_bind, Sem.run_pure, Result.andThen, hrun w, (hC.tab i.elem j hj).sizeOf w]
        rw [add_addr, ← mulS_eq, ← addS_eq]
        split <;> rfl
      · rename_i a len cap hk hx
        unfold descOk at hok; rw [hk] at hok; simp only at hok
        obtain ⟨l, hh, m, hR, hrun⟩ := bounds_run (P := C.P) (isS := true) h
        split at hR
        · rename_i b o
          refine .mk' (fun F w _ => ?_) hR.out
          simp only [execOp, hx, Instr.sliceAt, Instr.slice, run_underlying hok, Sem.run_bind, Sem.run_pure, Result.andThen, hrun w, (hC.tab i.elem j hj).sizeOf w, Option.map_some]
          rw [add_addr, ← mulS_eq, ← addS_eq]
          split <;> rfl
        · exact hR.elim
        · refine .mk' (fun F w _ => ?_) hR
          simp only [execOp, hx, Instr.sliceAt, Instr.slice, run_underlying hok, Sem.run_bind, Sem.run_pure, Result.andThen, hrun w, (hC.tab i.elem j hj).sizeOf w, Option.map_none, ite_self]
      · exact h.elim
    · exact h.elim
  · exact h.elim

theorem len_sound (hC : C.Ok) {args : Array Operand} {tys : Array TypeId} (h : match args.toList, tys.toList with
    | [x], [t] => (match C.D t with
      | some i => (match i.kind, ev e x with
        | 4, .slice _ n _ => q (.int .i64 (n : Int))
        | 5, _ => q (.int .i64 (i.len : Int))
        | _, _ => QuG C.P (.call ⟨.builtin .len, args, tys⟩) ty e S q)
      | none => False)
    | _, _ => False) : QuG C.P (.call ⟨.builtin .len, args, tys⟩) ty e S q := by
  split at h
  · rename_i x t ha ht
    obtain ⟨args⟩ := args; obtain ⟨tys⟩ := tys
    simp only at ha ht; subst ha; subst ht
    split at h
    · rename_i i hi
      have hok := (hC.tab t i hi).desc
      split at h
      · rename_i a n c hk hx
        unfold descOk at hok; rw [hk] at hok; simp only at hok
        refine .mk' (fun F w _ => ?_) h
        simp [execOp, hx, resolve, invoke, builtin, Builtin.len_, run_underlying hok, Sem.run_bind, Result.andThen, goInt]
      · rename_i v hk
        unfold descOk at hok; rw [hk] at hok; simp only at hok
        refine .mk' (fun F w _ => ?_) h
        simp [execOp, resolve, invoke, builtin, Builtin.len_, run_underlying hok, Sem.run_bind, Result.andThen, goInt]
      · exact h
    · exact h.elim
  · exact h.elim

theorem min_sound {P : Program} {args : Array Operand} {tys : Array TypeId} (h : match args.toList with
    | [x, y] => (match ev e x, ev e y with
      | .int k a, .int _ b => ValS (.int k (if b < a then b else a)) q
      | _, _ => False)
    | _ => False) : QuG P (.call ⟨.builtin .min, args, tys⟩) ty e S q := by
  split at h
  · rename_i x y ha
    obtain ⟨args⟩ := args
    simp only at ha; subst ha
    split at h
    · rename_i k a k' b hx hy
      refine .mk' (fun F w _ => ?_) h.out
      simp [execOp, hx, hy, resolve, invoke, builtin, Builtin.min_, Builtin.min2, Sem.run_bind, Result.andThen]
    · exact h.elim
  · exact h.elim
theorem max_sound {P : Program} {args : Array Operand} {tys : Array TypeId} (h : match args.toList with
    | [x, y] => (match ev e x, ev e y with
      | .int k a, .int _ b => ValS (.int k (if b > a then b else a)) q
      | _, _ => False)
    | _ => False) : QuG P (.call ⟨.builtin .max, args, tys⟩) ty e S q := by
  split at h
  · rename_i x y ha
    obtain ⟨args⟩ := args
    simp only at ha; subst ha
    split at h
    · rename_i k a k' b hx hy
      refine .mk' (fun F w _ => ?_) h.out
      simp [execOp, hx, hy, resolve, invoke, builtin, Builtin.max_, Builtin.max2, Sem.run_bind, Result.andThen]
    · exact h.elim
  · exact h.elim
end
end Go.HL
