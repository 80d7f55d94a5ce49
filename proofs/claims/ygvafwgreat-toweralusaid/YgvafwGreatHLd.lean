import Derived.Test.YgvafwGreatHLc
set_option linter.unusedVariables false
set_option linter.unusedSimpArgs false
namespace Go.HL
section
variable {C : Cfg} {ty : TypeId} {e : Env} {S : St} {q : Value → Prop}

theorem QuG.mk' {P : Program} {op : Op} {v : Value} (h : ∀ (F : Fr) (w : World), Holds S F w → (execOp (ev e) ⟨none, op, ty, "", #[], none⟩).run P w = .ok (.value v) w) (hq : q v) : QuG P op ty e S q := ⟨v, h, hq⟩

theorem binE_sound {P : Program} {o : BinOp} {t u : TypeId} {x y : Operand} (h : binE o (ev e x) (ev e y) q (QuG P (.binOp o t x y u) ty e S q)) : QuG P (.binOp o t x y u) ty e S q := by
  unfold binE at h
  split at h
  · rename_i k a k' b hx hy
    split at h
    · obtain ⟨h1, h2⟩ := h
      refine .mk' (fun F w _ => ?_) h2.out
      have : ¬ b < 0 := by omega
      simp [execOp, hx, hy, eqGuard, binOp, Op.shift, this, Sem.run_bind, Result.andThen, ishl]
    · obtain ⟨h1, h2⟩ := h
      refine .mk' (fun F w _ => ?_) h2.out
      have : ¬ b < 0 := by omega
      simp [execOp, hx, hy, eqGuard, binOp, Op.shift, this, Sem.run_bind, Result.andThen, ishr]
    · rename_i hn1 hn2
      cases hk : (k == k') with
      | false => rw [hk] at h; exact h.elim
      | true =>
        rw [hk] at h
        have hk : k = k' := by simpa using hk
        subst hk
        simp only [cond_true] at h
        unfold binI at h
        split at h
        case h_1 => exact .mk' (fun F w _ => by simp [execOp, hx, hy, eqGuard, binOp, Op.intArith, Sem.run_bind, Result.andThen]) h.out
        case h_2 => exact .mk' (fun F w _ => by simp [execOp, hx, hy, eqGuard, binOp, Op.intArith, Sem.run_bind, Result.andThen]) h.out
        case h_3 => exact .mk' (fun F w _ => by simp [execOp, hx, hy, eqGuard, binOp, Op.intArith, Sem.run_bind, Result.andThen]) h.out
        case h_4 => exact .mk' (fun F w _ => by simp [execOp, hx, hy, eqGuard, binOp, Op.intDiv, h.1, Sem.run_bind, Result.andThen]) h.2.out
        case h_5 => exact .mk' (fun F w _ => by simp [execOp, hx, hy, eqGuard, binOp, Op.intDiv, h.1, Sem.run_bind, Result.andThen]) h.2.out
        case h_6 => exact .mk' (fun F w _ => by simp [execOp, hx, hy, eqGuard, binOp, Op.intBits, iand, Sem.run_bind, Result.andThen]) h.out
        case h_7 => exact .mk' (fun F w _ => by simp [execOp, hx, hy, eqGuard, binOp, Op.intBits, ior, Sem.run_bind, Result.andThen]) h.out
        case h_8 => exact .mk' (fun F w _ => by simp [execOp, hx, hy, eqGuard, binOp, Op.intBits, ixor, Sem.run_bind, Result.andThen]) h.out
        case h_9 => exact .mk' (fun F w _ => by simp [execOp, hx, hy, eqGuard, binOp, Op.intCmp, Sem.run_bind, Result.andThen]) h
        case h_10 => exact .mk' (fun F w _ => by simp [execOp, hx, hy, eqGuard, binOp, Op.intCmp, Sem.run_bind, Result.andThen]) h
        case h_11 => exact .mk' (fun F w _ => by simp [execOp, hx, hy, eqGuard, binOp, Op.intCmp, Sem.run_bind, Result.andThen]) h
        case h_12 => exact .mk' (fun F w _ => by simp [execOp, hx, hy, eqGuard, binOp, Op.intCmp, Sem.run_bind, Result.andThen]) h
        case h_13 => exact .mk' (fun F w _ => by simp [execOp, hx, hy, eqGuard, binOp, Op.intCmp, Sem.run_bind, Result.andThen]) h
        case h_14 => exact .mk' (fun F w _ => by simp [execOp, hx, hy, eqGuard, binOp, Op.intCmp, Sem.run_bind, Result.andThen]) h
        case h_15 => exact h
  · exact h

theorem equalIn_ptr_nil {P : Program} {t el : TypeId} (h : P.underlying t = some (.pointer el)) (d : Nat) (a : Option Addr) (w : World) :
    (Op.equalIn (d + 1) t (.pointer a) (.pointer none)).run P w = .ok a.isNone w := by
  cases a <;> simp [Op.equalIn, run_underlying h, Sem.run_bind, Result.andThen]
theorem equalIn_slice_nil {P : Program} {t el : TypeId} (h : P.underlying t = some (.slice el)) (d : Nat) (a : Option Addr) (l c l' c' : Nat) (w : World) :
    (Op.equalIn (d + 1) t (.slice a l c) (.slice none l' c')).run P w = .ok a.isNone w := by
  cases a <;> simp [Op.equalIn, run_underlying h, Sem.run_bind, Result.andThen]
theorem equal_ptr_nil {P : Program} {t el : TypeId} (h : P.underlying t = some (.pointer el)) (a : Option Addr) (w : World) :
    (Op.equal t (.pointer a) (.pointer none)).run P w = .ok a.isNone w := equalIn_ptr_nil h 9999 a w
theorem equal_slice_nil {P : Program} {t el : TypeId} (h : P.underlying t = some (.slice el)) (a : Option Addr) (l c l' c' : Nat) (w : World) :
    (Op.equal t (.slice a l c) (.slice none l' c')).run P w = .ok a.isNone w := equalIn_slice_nil h 9999 a l c l' c' w

theorem nil_sound_ptr (hC : C.Ok) {o : BinOp} {t u : TypeId} {x y : Operand} {i : TI} (hD : C.D t = some i) (hk : i.kind = 3) (hy : ev e y = .pointer none)
    (h : match ev e x with | .pointer a => sliceNilE o (.pointer a) q | _ => False) : QuG C.P (.binOp o t x y u) ty e S q := by
  have hok := (hC.tab t i hD).desc
  unfold descOk at hok; rw [hk] at hok; simp only at hok
  split at h
  · rename_i a hx
    cases o <;> simp only [sliceNilE] at h <;> first | skip
    · refine .mk' (fun F w _ => ?_) h
      simp only [execOp, hx, hy, eqGuard, binOp, equal_ptr_nil hok, Sem.run_bind, Sem.run_pure, Result.andThen]; rfl
    · refine .mk' (fun F w _ => ?_) h
      simp only [execOp, hx, hy, eqGuard, binOp, equal_ptr_nil hok, Sem.run_bind, Sem.run_pure, Result.andThen]; rfl
  · exact h.elim
theorem nil_sound_slice (hC : C.Ok) {o : BinOp} {t u : TypeId} {x y : Operand} {i : TI} {l' c' : Nat} (hD : C.D t = some i) (hk : i.kind = 4) (hy : ev e y = .slice none l' c')
    (h : match ev e x with | .slice a l c => sliceNilE o (.slice a l c) q | _ => False) : QuG C.P (.binOp o t x y u) ty e S q := by
  have hok := (hC.tab t i hD).desc
  unfold descOk at hok; rw [hk] at hok; simp only at hok
  split at h
  · rename_i a l c hx
    cases o <;> simp only [sliceNilE] at h <;> first | skip
    · refine .mk' (fun F w _ => ?_) h
      simp only [execOp, hx, hy, eqGuard, binOp, equal_slice_nil hok, Sem.run_bind, Sem.run_pure, Result.andThen]; rfl
    · refine .mk' (fun F w _ => ?_) h
      simp only [execOp, hx, hy, eqGuard, binOp, equal_slice_nil hok, Sem.run_bind, Sem.run_pure, Result.andThen]; rfl
  · exact h.elim
end
end Go.HL
