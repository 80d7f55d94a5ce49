import Derived.Test.YgvafwGreatY102
set_option exponentiation.threshold 1000
set_option maxRecDepth 100000
set_option maxHeartbeats 4000000
set_option linter.unusedVariables false
set_option linter.unusedSimpArgs false
-- v2
-- v4
-- v5
-- v6
-- v7
namespace Go.Proofs.YgvafwGreat
open Go.HL Go.Proofs

theorem _root_.Go.HL.CallG.skip1 {P : Program} {f : FuncId} {args : Array Value} {I : Ent → Prop} {x : Ent} {G : List Ent} {K : Post} (h : CallG P f args ⟨I, G⟩ K) : CallG P f args ⟨I, x :: G⟩ K :=
  ⟨fun F w hw => h.run F w (Holds.drop (S := ⟨I, G⟩) (G1 := [x]) hw)⟩
section
variable {I : Ent → Prop} {sb ssz fb fsz : Nat} {Ts Tf : TypeId} {cs cf : Nat → Value} {K : YK} {σ : NS} {M ML : List Ent}
/-- yp.State.enterCreate with a value that the account does not have -/
theorem yEnterCrV (h : YI I fb cs cf K σ M ML) (hsz : 179 ≤ ssz) (hfz : 60 ≤ fsz) (h3 : σ.s.length = 3) (hv : 0 < argN σ.s 0) (hbal : (getA σ.w.al K.self).bal = 0) (hpc : σ.pc < 2 ^ 20) :
    CallG Hvaf.prog 159 #[ptr sb 0, ptr fb 0, .int .u8 ((240 : Nat) : Int)] ⟨I, ⟨sb, ssz, Ts, cs⟩ :: ⟨fb, fsz, Tf, cf⟩ :: (M ++ ML)⟩ fun r S' => ∃ J sv pv, S' = ⟨J, ⟨sb, ssz, Ts, cs⟩ :: ⟨fb, fsz, Tf, upd (upd cf 8 sv) 3 pv⟩ :: (M ++ ML)⟩ ∧ HL.Sub I J ∧ StkI J sv [0] ∧ NatI J pv (σ.pc + 1) ∧ one sv = true ∧ one pv = true := by
  have har : ∀ S, CallG Hvaf.prog 147 #[.int .u8 ((240 : Nat) : Int)] S fun r S' => S = S' ∧ r = .tuple #[.int .i64 (3 : Nat), .int .i64 (1 : Nat), .bool true] := fun S => yArity (S := S) (o := 240) (by decide)
  have hA := h.c.KB.kself
  have hb20 := hA.bv
  have hl20 := hA.len
  have hrow := h.c.F.fself
  obtain ⟨fc, hfr⟩ := h.fr
  refine CallG.start (C := mkC Hvaf.prog) cok (args := [ptr sb 0, ptr fb 0, .int .u8 ((240 : Nat) : Int)]) Hvaf.func159 rfl Hvaf.ntmps159 (by simp) (by kernel_rfl) ?_
  skip
  refine (har _).mono ?_
  rintro r _ - ⟨rfl, rfl⟩
  repeat (first | refine SeqS.go cok ?_)
  refine CallG.focus 1 rfl ?_
  refine (yArgF (i := 0) hfz h.c.F (by decide)).mono ?_
  rintro u _ - ⟨rfl, hu⟩
  repeat (first | (refine QuG.keep ?_; first | refine QuG.rowA cok 0 rfl rfl rfl rfl rfl (by assumption) (by assumption) (by first | exact Nat.le_of_ble_eq_true rfl | omega | (dsimp only; omega) | (simp only [addS_eq, mulS_eq]; omega)) ?_) | refine SeqS.go cok ?_ | refine W.drawI 2 cok [0, 1, 3, 0, 8, 24, 56, 127, 0, 511] [0, 1, 2, 3, 4, 5, 6, 7, 8, 9] [6] (by kernel_rfl) (by kernel_rfl) ?_)
  refine CallG.focus 1 rfl ?_
  refine (yAccount (by omega) h.c.W.acc hA (by have := h.c.B.al; omega)).mono ?_
  rintro r _ - ⟨rfl, l, rfl, hac⟩
  have h24 := hac.len
  have hone := hac.one
  obtain ⟨nv, bv, cv, sv, g0, g1, g2, g3, n1, n2, n3, n4⟩ := hac.get
  rw [hbal] at n2
  have e0 : HL.updN z121 0 l 20 = nv := by rw [← g0]; exact updN_get (o := 0) (i := 20) (by omega)
  have e1 : HL.updN z121 0 l 21 = bv := by rw [← g1]; exact updN_get (o := 0) (i := 21) (by omega)
  repeat (first | (refine still_in ?_; first | refine still_nil ?_ | refine still_drop (by decide) ?_))
  intro x1
  repeat (first | (refine QuG.keep ?_; first | refine QuG.l1E cok 0 rfl rfl rfl rfl rfl (by first | exact Nat.le_of_ble_eq_true rfl | omega | (dsimp only; omega) | (simp only [addS_eq, mulS_eq]; omega)) (by assumption) ?_ | refine QuG.l1E cok 1 rfl rfl rfl rfl rfl (by first | exact Nat.le_of_ble_eq_true rfl | omega | (dsimp only; omega) | (simp only [addS_eq, mulS_eq]; omega)) (by assumption) ?_) | (refine OpG.keep ?_; first | refine OpG.upS cok 0 rfl rfl rfl rfl rfl (by assumption) (by first | assumption | exact one_bvs _) (by first | exact Nat.le_of_ble_eq_true rfl | omega) ?_) | refine SeqS.go cok ?_ | refine GuardS.yes rfl ?_ | (refine ValS.keep ?_; first | (with_reducible refine ValS.kI64 ?_; first | (with_reducible refine ValS.subI64_L ?_ ?_ ?_ ; omega; omega))) | (refine still_in ?_; first | refine still_drop (by decide) ?_) | refine W.drawI 3 cok [0, 1, 3, 7, 15, 31, 63, 127, 255, 511, 255, 2047, 4095, 8191, 16383, 32767, 65535, 32767, 262143, 524287, 1048575] [0, 1, 2, 3, 4, 5, 6, 7, 8, 9, 10, 11, 12, 13, 14, 15, 16, 17, 18, 19, 20] [3, 9, 16] (by kernel_rfl) (by kernel_rfl) ?_)
  refine (nCmpL n2 hu hv).mono ?_
  rintro r _ - ⟨rfl, rfl⟩
  repeat (first | refine SeqS.go cok ?_ | refine GuardS.yes rfl ?_ | refine GuardS.no rfl ?_ | refine CondS.t rfl ?_ | (refine still_in ?_; first | refine still_drop (by decide) ?_))
  refine CallG.skip1 ?_
  refine CallG.focus 1 rfl ?_
  refine (yAnswer (t := 3) hfz h.c.F.fpc h.c.F.fstk (by omega) (by omega) (Nat.lt_trans hpc (by decide)) (NatI.zero I)).mono ?_
  rintro r _ hs ⟨J, sv2, pv2, rfl, q1, q2, q3, q4⟩
  replace hs : HL.Sub I J := hs
  rw [h3] at q1
  repeat (first | refine SeqS.go cok ?_)
  exact Fin.focus 1 rfl (Fin.same ⟨J, sv2, pv2, rfl, hs, q1, q2, q3, q4⟩)
end
end Go.Proofs.YgvafwGreat
