import Derived.Test.YgvafwGreatHLd
set_option linter.unusedVariables false
set_option linter.unusedSimpArgs false
namespace Go.HL
section
variable {C : Cfg} {ty : TypeId} {e : Env} {S : St} {q : Value → Prop}

theorem un_sound {P : Program} {o : UnOp} {t : TypeId} {x : Operand} (h : match o, ev e x with
    | .not, .bool b => q (.bool (!b))
    | .neg, .int k n => ValS (.int k (k.wrap (0 - n))) q
    | .xor, .int k n => ValS (.int k (ixor k (if k.signed then -1 else k.max) n)) q
    | _, _ => False) : QuG P (.unOp o t x) ty e S q := by
  split at h
  · rename_i b hx; exact .mk' (fun F w _ => by simp [execOp, hx, Op.unary, Sem.run_bind, Result.andThen]) h
  · rename_i k n hx; exact .mk' (fun F w _ => by simp [execOp, hx, Op.unary, Op.intArith, Sem.run_bind, Result.andThen]) h.out
  · rename_i k n hx; exact .mk' (fun F w _ => by simp [execOp, hx, Op.unary, Op.intBits, ixor, Sem.run_bind, Result.andThen]) h.out
  · exact h.elim

theorem conv_sound (hC : C.Ok) {s d : TypeId} {x : Operand} (h : match C.D s, C.D d, ev e x with
    | some _, some i, .int _ n => (match i.kind with | 1 => ValS (.int i.ik (i.ik.wrap n)) q | _ => QuG C.P (.convert s d x) ty e S q)
    | _, _, _ => QuG C.P (.convert s d x) ty e S q) : QuG C.P (.convert s d x) ty e S q := by
  split at h
  · rename_i i0 i k n hs hd hx
    split at h
    · rename_i hk
      have hok := (hC.tab d i hd).desc
      unfold descOk at hok; rw [hk] at hok; simp only at hok
      obtain ⟨ds, hs'⟩ := (hC.tab s i0 hs).und
      refine .mk' (fun F w _ => ?_) h.out
      simp [execOp, hx, convert, run_underlying hok, run_underlying hs', Conv.intToInt, Sem.run_bind, Result.andThen]
    · exact h
  · exact h

theorem field_sound (hC : C.Ok) {s : TypeId} {x : Operand} {f : Nat} (h : match C.D s, ev e x with
    | some i, .pointer (some ⟨b, o, none⟩) => (match i.kind, i.offs[f]? with | 6, some (off, _) => q (ptr b (o + off)) | _, _ => False)
    | _, _ => False) : QuG C.P (.fieldAddr s x f) ty e S q := by
  split at h
  · rename_i i b o hs hx
    split at h
    · rename_i off z hk hoff
      have hok := (hC.tab s i hs).desc
      unfold descOk at hok; rw [hk] at hok; simp only at hok
      obtain ⟨fs, hu, _, hf⟩ := hok
      obtain ⟨hz, fld, h1, h2, inf, h3, h4⟩ := hf f off z hoff
      refine .mk' (fun F w _ => ?_) h
      have hsz : (Go.sizeOf fld.type).run C.P w = .ok z w := by simp [Go.sizeOf, typeInfo, program, Sem.run_bind, Sem.run, h3, Result.andThen, h4]
      simp only [execOp, hx, Instr.fieldAt, run_underlying hu, h1, Instr.sureAddr, fieldPlace, Sem.run_bind, Sem.run_pure, Result.andThen, hsz, hz, if_false]
      rw [add_addr, h2]; rfl
    · exact h.elim
  · exact h.elim

theorem index_sound (hC : C.Ok) {t : TypeId} {x ix : Operand} (h : match C.D t, ev e ix with
    | some i, .int _ k => (match C.D i.elem with
      | some j => (match i.kind, ev e x with
        | 5, .pointer (some ⟨b, o, none⟩) => NatS k fun n => n < i.len ∧ q (ptr b (addS o (mulS n j.size)))
        | 4, .slice (some ⟨b, o, none⟩) len _ => NatS k fun n => n < len ∧ q (ptr b (addS o (mulS n j.size)))
        | _, _ => False)
      | none => False)
    | _, _ => False) : QuG C.P (.indexAddr t x ix) ty e S q := by
  split at h
  · rename_i i kk k ht hix
    split at h
    · rename_i j hj
      have hok := (hC.tab t i ht).desc
      split at h
      · rename_i b o hk hx
        unfold descOk at hok; rw [hk] at hok; simp only at hok
        obtain ⟨h0, h1, h2⟩ := h.out
        have h := And.intro (And.intro h0 ((Int.toNat_lt h0).1 h1)) h2
        refine .mk' (fun F w _ => ?_) h.2
        simp only [execOp, hx, hix, Instr.indexAt, asIntOf, run_underlying hok, Instr.sureAddr, Sem.run_bind, Sem.run_pure, Result.andThen, h.1.1, h.1.2, and_self, if_true, (hC.tab i.elem j hj).sizeOf w]
        rw [add_addr, ← mulS_eq, ← addS_eq]; rfl
      · rename_i b o len cap hk hx
        unfold descOk at hok; rw [hk] at hok; simp only at hok
        obtain ⟨h0, h1, h2⟩ := h.out
        have h := And.intro (And.intro h0 ((Int.toNat_lt h0).1 h1)) h2
        refine .mk' (fun F w _ => ?_) h.2
        simp only [execOp, hx, hix, Instr.indexAt, asIntOf, run_underlying hok, Instr.sureAddr, Sem.run_bind, Sem.run_pure, Result.andThen, h.1.1, h.1.2, and_self, if_true, (hC.tab i.elem j hj).sizeOf w]
        rw [add_addr, ← mulS_eq, ← addS_eq]; rfl
      · exact h.elim
    · exact h.elim
  · exact h.elim

theorem extract_sound {P : Program} {x : Operand} {i : Nat} (h : match ev e x with
    | .tuple vs => (match vs[i]? with | some v => q v | none => False)
    | _ => False) : QuG P (.extract x i) ty e S q := by
  split at h
  · rename_i vs hx
    split at h
    · rename_i v hv
      exact .mk' (fun F w _ => by simp [execOp, hx, Instr.extract, hv, Sem.run_bind, Result.andThen]) h
    · exact h.elim
  · exact h.elim

theorem sap_sound (hC : C.Ok) {d : TypeId} {x : Operand} (h : match C.D d, ev e x with
    | some i, .slice a len _ => (match i.kind with | 5 => i.len ≤ len ∧ q (.pointer a) | _ => False)
    | _, _ => False) : QuG C.P (.sliceToArrayPointer d x) ty e S q := by
  split at h
  · rename_i i a len cap hd hx
    split at h
    · rename_i hk
      have hok := (hC.tab d i hd).desc
      unfold descOk at hok; rw [hk] at hok; simp only at hok
      have hn : ¬ len < i.len := by omega
      exact .mk' (fun F w _ => by simp [execOp, hx, Instr.arrayAt, run_underlying hok, hn, Sem.run_bind, Result.andThen]) h.2
    · exact h.elim
  · exact h.elim

end
end Go.HL
