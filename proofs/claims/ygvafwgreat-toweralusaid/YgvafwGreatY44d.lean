import Derived.Test.YgvafwGreatY43
set_option exponentiation.threshold 1000
set_option maxRecDepth 100000
set_option maxHeartbeats 4000000
set_option linter.unusedVariables false
set_option linter.unusedSimpArgs false
-- v2
-- v4
-- v5
-- v6
-- v7
namespace Go.Proofs.YgvafwGreat
open Go.HL Go.Proofs

theorem yVal84 {I : Ent → Prop} {G : List Ent} {sb ssz fb fsz pc gas : Nat} {Ts Tf : TypeId} {cs cf : Nat → Value} {K : YK} {w : YW} {s mem : List Nat} {M : List Ent} {av : Value} {as' : List Nat} (hsz : 179 ≤ ssz) (hfz : 60 ≤ fsz) (hC : CsI I cs cf K w pc gas s) (hE : EnvI I cs K) (hM : MemO (cf 9) mem M) (hMG : ∀ x ∈ M, x ∈ G) (hA : StkI I av as') (hlen : as'.length < 100) :
    CallG Hvaf.prog 162 #[ptr sb 0, ptr fb 0, .int .u8 (84 : Nat), av] ⟨I, ⟨sb, ssz, Ts, cs⟩ :: ⟨fb, fsz, Tf, cf⟩ :: G⟩ fun r S' => ∃ J w1, S' = ⟨J, ⟨sb, ssz, Ts, upd cs 2 w1⟩ :: ⟨fb, fsz, Tf, cf⟩ :: G⟩ ∧ MarksI J w1 (warmM (K.self, as'.getD 0 0, 0) w.ms) ∧ NatI J r (loadS (getA w.al K.self).slots (as'.getD 0 0)) := by
  have hf : ∀ S, CallG Hvaf.prog 75 #[.int .u8 (84 : Nat)] S fun r S' => S = S' ∧ r = .int .u8 (8 : Nat) := fun S => Family_spec (S := S) (o := 84) (by decide)
  have hb20 := hC.KB.kself.bv
  have hl20 := hC.KB.kself.len
  have hrow := hC.F.fself
  refine CallG.start (C := mkC Hvaf.prog) cok (args := [ptr sb 0, ptr fb 0, .int .u8 ((84 : Nat) : Int), av]) Hvaf.func162 rfl Hvaf.ntmps162 (by simp) (by kernel_rfl) ?_
  repeat (first | refine SeqS.go cok ?_)
  refine (yOperand (i := 0) hA (by omega) (by decide)).mono ?_
  rintro v _ - ⟨rfl, hv⟩
  repeat (first | refine SeqS.go cok ?_)
  refine (yOperand (i := 1) hA (by omega) (by decide)).mono ?_
  rintro u _ - ⟨rfl, hu⟩
  repeat (first | refine SeqS.go cok ?_ | refine CondS.f rfl ?_)
  refine (hf _).mono ?_
  rintro r _ - ⟨rfl, rfl⟩
  repeat (first | (refine QuG.keep ?_; first | refine QuG.rowA cok 1 rfl rfl rfl rfl rfl (by assumption) (by assumption) (by first | exact Nat.le_of_ble_eq_true rfl | omega | (dsimp only; omega) | (simp only [addS_eq, mulS_eq]; omega)) ?_) | refine SeqS.go cok ?_ | refine GuardS.yes rfl ?_ | refine GuardS.no rfl ?_ | refine CondS.t rfl ?_ | refine CondS.f rfl ?_ | refine W.drawI 42 cok [0, 1, 3, 0, 8, 24, 56, 0, 255] [0, 1, 2, 3, 4, 5, 6, 7, 8] [6] (by kernel_rfl) (by kernel_rfl) ?_)
  refine (yWarmSlot (wb := sb) (T := Ts) (G := ⟨fb, fsz, Tf, cf⟩ :: G) (sz := ssz) (by omega) hC.W.mks hC.KB.kself hv (by have := hC.B.ms; omega)).mono ?_
  rintro x _ hs1 ⟨J1, w1, rfl, hw1⟩
  replace hs1 : HL.Sub I J1 := hs1
  repeat (first | (refine QuG.keep ?_; first | refine QuG.rowA cok 1 rfl rfl rfl rfl rfl (by assumption) (by assumption) (by first | exact Nat.le_of_ble_eq_true rfl | omega | (dsimp only; omega) | (simp only [addS_eq, mulS_eq]; omega)) ?_) | refine SeqS.go cok ?_ | (refine still_in ?_; first | refine still_drop (by decide) ?_) | refine W.drawI 43 cok [0, 1, 3, 0, 8, 24, 56, 0, 255, 511] [0, 1, 2, 3, 4, 5, 6, 7, 8, 9] [6] (by kernel_rfl) (by kernel_rfl) ?_)
  refine (yLoad (wb := sb) (T := Ts) (G := ⟨fb, fsz, Tf, cf⟩ :: G) (sz := ssz) (c := upd cs 2 w1) (by omega) (hC.W.acc.up hs1) hC.KB.kself (hv.up hs1) (by have := hC.B.al; omega) (by have := hC.B.sl; omega)).mono ?_
  rintro x _ - ⟨rfl, hx⟩
  repeat (first | refine SeqS.go cok ?_ | (refine still_in ?_; first | refine still_drop (by decide) ?_))
  exact Fin.same ⟨J1, w1, rfl, hw1, hx⟩
end Go.Proofs.YgvafwGreat
