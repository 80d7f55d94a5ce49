import Derived.Test.YgvafwGreatY33
import Derived.Test.YgvafwGreatY32
import Derived.Test.YgvafwGreatY7
set_option maxRecDepth 100000
set_option maxHeartbeats 4000000
set_option linter.unusedVariables false
set_option linter.unusedSimpArgs false
-- v2
-- v4
-- v5
-- v6
-- v7
namespace Go.Proofs.YgvafwGreat
open Go.HL Go.Proofs

/-- A log: address, topics, data. -/
abbrev LG := List Nat × List Nat × List Nat
abbrev dL : LG := ([], [], [])
structure LgC (I : Ent → Prop) (l : List Value) (t : LG) : Prop where
  ok : AdOk t.1
  out : ∃ tv dv, l = bvs t.1 ++ [tv, dv] ∧ RowI I 32 tv (t.2.1.map fun n => bvs (be32 n)) ∧ Byt ⟨I, []⟩ dv t.2.2
theorem LgC.up {I J : Ent → Prop} {l : List Value} {t : LG} (h : LgC I l t) (hs : Sub I J) : LgC J l t := by
  obtain ⟨tv, dv, a, b, c⟩ := h.out; exact ⟨h.ok, tv, dv, a, b.up hs, c.mono hs (by simp)⟩
structure LogsI (I : Ent → Prop) (v : Value) (ml : List LG) : Prop where
  out : ∃ vss, RowI I 22 v vss ∧ L2 (LgC I) dL vss ml
theorem LogsI.up {I J : Ent → Prop} {v : Value} {ml : List LG} (h : LogsI I v ml) (hs : Sub I J) : LogsI J v ml := by
  obtain ⟨vss, a, b⟩ := h.out; exact ⟨vss, a.up hs, b.mono fun _ _ h => h.up hs⟩
/-- The logs with their block: they are appended to in place. -/
structure LogO (I : Ent → Prop) (v : Value) (ml : List LG) (M : List Ent) : Prop where
  out : ∃ vss, OwnL 141 22 v vss M ∧ L2 (LgC I) dL vss ml
theorem LogO.up {I J : Ent → Prop} {v : Value} {ml : List LG} {M : List Ent} (h : LogO I v ml M) (hs : Sub I J) : LogO J v ml M := by
  obtain ⟨vss, a, b⟩ := h.out; exact ⟨vss, a, b.mono fun _ _ h => h.up hs⟩
/-- The world of the specification. -/
structure YW where
  al : List YA
  wa : List (List Nat)
  ms : List TM
  rf : Nat
  lg : List LG
  tp : List TM
  md : List (List Nat)
/-- A world laid in eight cells. -/
structure YWI (I : Ent → Prop) (c : Nat → Value) (w : YW) : Prop where
  acc : AcctsI I (c 0) w.al
  wrm : RowI I 20 (c 1) (w.wa.map bvs)
  wok : ∀ x ∈ w.wa, AdOk x
  mks : MarksI I (c 2) w.ms
  rfd : NatI I (c 3) w.rf
  tmp : TempsI I (c 5) w.tp
  mde : RowI I 20 (c 6) (w.md.map bvs)
  mok : ∀ x ∈ w.md, AdOk x
  gne : c 7 = .slice none 0 0
theorem YWI.up {I J : Ent → Prop} {c : Nat → Value} {w : YW} (h : YWI I c w) (hs : Sub I J) : YWI J c w :=
  ⟨h.acc.up hs, h.wrm.up hs, h.wok, h.mks.up hs, h.rfd.up hs, h.tmp.up hs, h.mde.up hs, h.mok, h.gne⟩
/-- What no step changes: code, data, the accounts of a frame, the slots at the start. -/
structure YK where
  code : List Nat
  data : List Nat
  self : List Nat
  caller : List Nat
  st : List TM
  w0 : YW
/-- The lists are short. -/
structure YB (w : YW) (sf : List Nat) : Prop where
  al : w.al.length < 2 ^ 17
  wa : w.wa.length < 2 ^ 17
  ms : w.ms.length < 2 ^ 17
  lg : w.lg.length < 2 ^ 17
  tp : w.tp.length < 2 ^ 17
  sl : (getA w.al sf).slots.length < 2 ^ 17
structure KB (K : YK) : Prop where
  code : K.code.length < 2 ^ 20
  data : K.data.length < 2 ^ 20
  kself : AdOk K.self
  kcaller : AdOk K.caller
  st : K.st.length < 2 ^ 17
/-- A frame's cells. -/
structure YF (I : Ent → Prop) (c : Nat → Value) (K : YK) (pc gas : Nat) (stk : List Nat) : Prop where
  fk : c 0 = .int .u8 0
  fn : c 1 = .int .u8 0
  fs : c 2 = .bool false
  fpc : NatI I (c 3) pc
  fgas : NatI I (c 4) gas
  fval : NatI I (c 5) 0
  fstk : StkI I (c 8) stk
  fb : ∀ x ∈ stk, x < 2 ^ 256
  fl : stk.length ≤ 64
  fcode : Byt ⟨I, []⟩ (c 10) K.code
  finp : Byt ⟨I, []⟩ (c 11) K.data
  fself : Row c 12 (bvs K.self)
  fcall : Row c 32 (bvs K.caller)
  fsave : YWI I (fun k => c (52 + k)) K.w0
  fsl : c 56 = .slice none 0 0
theorem YF.up {I J : Ent → Prop} {c : Nat → Value} {K : YK} {pc gas : Nat} {stk : List Nat} (h : YF I c K pc gas stk) (hs : Sub I J) : YF J c K pc gas stk :=
  ⟨h.fk, h.fn, h.fs, h.fpc.up hs, h.fgas.up hs, h.fval.up hs, h.fstk.up hs, h.fb, h.fl, h.fcode.mono hs (by simp), h.finp.mono hs (by simp), h.fself, h.fcall, h.fsave.up hs, h.fsl⟩
theorem argN_lt {ns : List Nat} {i : Nat} (h : ∀ x ∈ ns, x < 2 ^ 256) : argN ns i < 2 ^ 256 := by
  unfold argN
  split
  · rename_i hi
    rw [List.getD_eq_getElem?_getD, List.getElem?_eq_getElem (by omega)]
    exact h _ (List.getElem_mem _)
  · exact Nat.two_pow_pos 256
/-- yp.Frame.arg, once more -/
theorem yArgF {I : Ent → Prop} {G : List Ent} {fb fsz pc gas i : Nat} {T : TypeId} {c : Nat → Value} {K : YK} {stk : List Nat} (hfz : 60 ≤ fsz) (hF : YF I c K pc gas stk) (hi : i < 8) :
    CallG Hvaf.prog 73 #[ptr fb 0, .int .i64 (i : Nat)] ⟨I, ⟨fb, fsz, T, c⟩ :: G⟩ fun r S' => ⟨I, ⟨fb, fsz, T, c⟩ :: G⟩ = S' ∧ NatI I r (argN stk i) :=
  yArg hfz hF.fstk (by have := hF.fl; omega) (by omega)
def endN (a n : Nat) : Nat := if n = 0 then 0 else a + n
end Go.Proofs.YgvafwGreat
