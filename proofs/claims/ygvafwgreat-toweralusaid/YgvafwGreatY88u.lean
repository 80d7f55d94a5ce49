import Derived.Test.YgvafwGreatY87
import Derived.Test.YgvafwGreatY81
import Derived.Test.YgvafwGreatY32
import Derived.Test.YgvafwGreatY70
import Derived.Test.YgvafwGreatL9
set_option exponentiation.threshold 1000
set_option maxRecDepth 100000
set_option maxHeartbeats 4000000
set_option linter.unusedVariables false
set_option linter.unusedSimpArgs false
-- v2
-- v4
-- v5
-- v6
-- v7
namespace Go.Proofs.YgvafwGreat
open Go.HL Go.Proofs

/-- The state's cells where a transaction has ended. -/
structure FinY (J : Ent → Prop) (cs : Nat → Value) (al : List YA) (rf lim g tot st : Nat) (out : List Nat) (ml : List LG) : Prop where
  acc : AcctsI J (cs 0) al
  aln : al.length < 2 ^ 17
  rfd : NatI J (cs 3) rf
  lg : LogsI J (cs 4) ml
  gone : cs 7 = .slice none 0 0
  rt : Byt ⟨J, []⟩ (cs 10) out
  ph : cs 11 = .int .u8 2
  st : cs 12 = .int .u8 (st : Nat)
  ap : cs 13 = .int .u8 1
  lm : NatI J (cs 14) lim
  lf : NatI J (cs 16) g
  pr : NatI J (cs 17) 0
  tt : NatI J (cs 18) tot
  og : Row cs 19 (bvs (adNo 240))
  md : Row cs 39 (bvs (List.replicate 20 0))
  env : Row cs 59 envL
  on : ∀ k, k < 179 → one (cs k) = true
  mln : ml.length < 2 ^ 20
  mtn : ∀ t ∈ ml, t.2.1.length < 2 ^ 20
theorem FinY.up {J J' : Ent → Prop} {rf lim g tot st : Nat} {cs : Nat → Value} {al : List YA} {out : List Nat} {ml : List LG} (h : FinY J cs al rf lim g tot st out ml) (hs : HL.Sub J J') : FinY J' cs al rf lim g tot st out ml :=
  ⟨h.acc.up hs, h.aln, h.rfd.up hs, h.lg.up hs, h.gone, h.rt.mono hs (by simp), h.ph, h.st, h.ap, h.lm.up hs, h.lf.up hs, h.pr.up hs, h.tt.up hs, h.og, h.md, h.env, h.on, h.mln, h.mtn⟩
/-- Gas used. -/
def usedN (lim g rf : Nat) : Nat := lim - g - min rf ((lim - g) / 5)
theorem cells_one' {c : Nat → Value} {n : Nat} (h : ∀ k, k < n → one (c k) = true) : ∀ u ∈ cellsFrom c 0 n, one u = true := by
  intro u hu
  obtain ⟨i, hi, rfl⟩ := List.getElem_of_mem hu
  have hi2 : i < n := by simpa using hi
  have := cellsFrom_get c 0 n i hi2
  rw [List.getElem?_eq_getElem hi] at this
  rw [Option.some.inj this, Nat.zero_add]
  exact h i hi2
theorem cells_getD {c : Nat → Value} {n k : Nat} (h : k < n) : (cellsFrom c 0 n).getD k undef = c k := by
  rw [List.getD_eq_getElem?_getD, cellsFrom_get c 0 n k h, Nat.zero_add]; rfl
theorem cells_row {c : Nat → Value} {n o m : Nat} {vs : List Value} (h : Row c o vs) (hm : vs.length = m) (hn : o + m ≤ n := by decide) : ((cellsFrom c 0 n).drop o).take m = vs := by
  subst hm
  apply List.ext_getElem?
  intro i
  by_cases hi : i < vs.length
  · rw [List.getElem?_take_of_lt hi, List.getElem?_drop, cellsFrom_get c 0 n (o + i) (by omega), Nat.zero_add, h.get i hi, List.getD_eq_getElem?_getD, List.getElem?_eq_getElem hi]; rfl
  · rw [List.getElem?_eq_none (by simp; omega), List.getElem?_eq_none (by omega)]
theorem rowE_up {cs c9 : Nat → Value} (h : Row cs 59 envL) : Row (HL.updN c9 0 (cellsFrom cs 0 179)) 59 envL := by
  refine ⟨fun i hi => ?_⟩
  have hi2 : i < 120 := hi
  simp only [HL.updN, cellsFrom_length]
  rw [if_pos (by omega), Nat.sub_zero, cells_getD (by omega)]
  exact h.get i hi
/-- The state at rest. -/
def finC (wa : Option Addr) (wn wc : Nat) (ta : Option Addr) (tn tc : Nat) : Nat → Value := fillC z116 [(0, 8, .agg (cellsFrom (fillC z112 [(0, 1, .slice wa wn wc)]) 0 8).toArray), (13, 1, .int .u8 1), (18, 1, .slice ta tn tc), (59, 120, envV)]
theorem fin_ones {wa : Option Addr} {wn wc : Nat} {ta : Option Addr} {tn tc : Nat} : ∀ u ∈ cellsFrom (finC wa wn wc ta tn tc) 0 179, one u = true := by
  refine cells_one' fun k hk => ?_
  have h : (List.range 179).all (fun k => one (finC wa wn wc ta tn tc k)) = true := by kernel_rfl
  exact List.all_eq_true.1 h k (List.mem_range.2 hk)
theorem callLS {P : Program} {f : FuncId} {args : Array Value} {I : Ent → Prop} {G : List Ent} {ml : List LG} {K : Post} (h : CallG P f args ⟨I, G⟩ fun r S' => S'.G = G ∧ LogsI S'.I r ml)
    (kk : ∀ a n c J, HL.Sub I J → LogsI J (.slice a n c) ml → K (.slice a n c) ⟨J, G⟩) : CallG P f args ⟨I, G⟩ K := by
  refine h.mono ?_
  rintro r ⟨J, _⟩ hs ⟨rfl, hb⟩
  obtain ⟨vss, hR, hL⟩ := hb.out
  obtain ⟨a, c, rfl⟩ := hR.form
  exact kk a _ c J hs ⟨vss, hR, hL⟩
theorem natI_form {I : Ent → Prop} {v : Value} {n : Nat} (h : NatI I v n) : ∃ a m c, v = .slice a m c := by
  obtain ⟨ds, hb, _⟩ := h
  obtain ⟨a, c, rfl, _⟩ := hb.form
  exact ⟨a, _, c, rfl⟩
/-- yp.World.setBalance at the end of a transaction. -/
theorem ySetBalF {J : Ent → Prop} {G : List Ent} {sb rf lim g tot st n : Nat} {cs : Nat → Value} {al : List YA} {out a : List Nat} {ml : List LG} {v : Value} (h : FinY J cs al rf lim g tot st out ml) (hA : AdOk a) (hN : NatI J v n) {al' : List YA} (hal : putA { getA al a with bal := n } al = al') (hl : al'.length < 2 ^ 17) :
    CallG Hvaf.prog 59 #[ptr sb 0, bytesV a, v] ⟨J, ⟨sb, 179, 118, cs⟩ :: G⟩ fun r S' => ∃ J' cs' wa wn wc ta tn tc, S' = ⟨J', ⟨sb, 179, 118, cs'⟩ :: G⟩ ∧ FinY J' cs' al' rf lim g tot st out ml ∧ cs' 0 = .slice wa wn wc ∧ cs' 18 = .slice ta tn tc := by
  subst hal
  refine (ySetBalance (by decide) h.acc hA hN (by have := h.aln; omega)).mono ?_
  rintro r ⟨J', _⟩ hs ⟨J2, w, e, hw⟩
  cases e
  replace hs : HL.Sub J J' := hs
  obtain ⟨vss, hR, _⟩ := hw.out
  obtain ⟨wa, wc, ew⟩ := hR.form
  obtain ⟨ta, tn, tc, et⟩ := natI_form h.tt
  refine ⟨J', _, wa, _, wc, ta, tn, tc, rfl, ⟨hw, hl, h.rfd.up hs, h.lg.up hs, h.gone, h.rt.mono hs (by simp), h.ph, h.st, h.ap, h.lm.up hs, h.lf.up hs, h.pr.up hs, h.tt.up hs, Row.keep h.og fun k hk => upd_ne (by omega), Row.keep h.md fun k hk => upd_ne (by omega), Row.keep h.env fun k hk => upd_ne (by omega), fun k hk => ?_, h.mln, h.mtn⟩, ew, et⟩
  by_cases h0 : k = 0
  · subst h0
    rw [show upd cs 0 w 0 = w from rfl, ew]; rfl
  · rw [upd_ne h0]; exact h.on k hk
theorem FinY.total {J J' : Ent → Prop} {sb rf lim g tot st n : Nat} {cs : Nat → Value} {al : List YA} {out a : List Nat} {ml : List LG} {va : Option Addr} {vn vc : Nat} (h : FinY J cs al rf lim g tot st out ml) (hs : HL.Sub J J') (hN : NatI J' (.slice va vn vc) n) : FinY J' (upd cs 18 (.slice va vn vc)) al rf lim g n st out ml := by
  refine ⟨h.acc.up hs, h.aln, h.rfd.up hs, h.lg.up hs, h.gone, h.rt.mono hs (by simp), h.ph, h.st, h.ap, h.lm.up hs, h.lf.up hs, h.pr.up hs, hN, Row.keep h.og fun k hk => upd_ne ?_, Row.keep h.md fun k hk => upd_ne ?_, Row.keep h.env fun k hk => upd_ne (by omega), fun k hk => ?_, h.mln, h.mtn⟩
  · omega
  · omega
  · by_cases h0 : k = 18
    · subst h0; rfl
    · rw [upd_ne h0]; exact h.on k hk
end Go.Proofs.YgvafwGreat
