import Derived.Test.YgvafwGreatY59
set_option exponentiation.threshold 1000
set_option maxRecDepth 100000
set_option maxHeartbeats 4000000
set_option linter.unusedVariables false
set_option linter.unusedSimpArgs false
-- v2
-- v4
-- v5
-- v6
-- v7
namespace Go.Proofs.YgvafwGreat
open Go.HL Go.Proofs

theorem yEff55 {I : Ent → Prop} {G : List Ent} {sb ssz fb fsz mb pc gas : Nat} {Ts Tf Tm : TypeId} {cs cf cm : Nat → Value} {K : YK} {w : YW} {s mem : List Nat} {av : Value} {as' : List Nat} (hsz : 179 ≤ ssz) (hfz : 60 ≤ fsz) (hC : CsI I cs cf K w pc gas s) (hc9 : cf 9 = sl mb 0 mem.length mem.length) (hml : mem.length < 2 ^ 30) (hA : StkI I av as') (hlen : as'.length < 100) (hn : as'.getD 2 0 < 2 ^ 30) :
    CallG Hvaf.prog 163 #[ptr sb 0, ptr fb 0, .int .u8 (55 : Nat), av] ⟨I, ⟨sb, ssz, Ts, cs⟩ :: ⟨fb, fsz, Tf, cf⟩ :: ⟨mb, mem.length, Tm, updN cm 0 (bvs mem)⟩ :: G⟩ fun r S' => r = .bool true ∧ ∃ J, S' = ⟨J, ⟨sb, ssz, Ts, cs⟩ :: ⟨fb, fsz, Tf, cf⟩ :: ⟨mb, mem.length, Tm, updN cm 0 (bvs (if as'.getD 2 0 = 0 then mem else writeL mem (as'.getD 0 0) (cutL (K.data) (as'.getD 1 0) (as'.getD 2 0))))⟩ :: G⟩ := by
  have hk := hC.KB.data
  refine CallG.start (C := mkC Hvaf.prog) cok (args := [ptr sb 0, ptr fb 0, .int .u8 ((55 : Nat) : Int), av]) Hvaf.func163 rfl Hvaf.ntmps163 (by simp) (by kernel_rfl) ?_
  repeat (first | refine SeqS.go cok ?_)
  refine (yOperand (i := 0) hA (by omega) (by decide)).mono ?_
  rintro v _ - ⟨rfl, hv⟩
  repeat (first | refine SeqS.go cok ?_)
  refine (yOperand (i := 1) hA (by omega) (by decide)).mono ?_
  rintro u _ - ⟨rfl, hu⟩
  repeat (first | refine SeqS.go cok ?_)
  refine (yOperand (i := 2) hA (by omega) (by decide)).mono ?_
  rintro x _ - ⟨rfl, hx⟩
  repeat (first | refine SeqS.go cok ?_ | refine CondS.t rfl ?_ | (refine QuG.keep ?_; first | refine QuG.l1 cok 1 rfl rfl rfl rfl rfl (by first | exact Nat.le_of_ble_eq_true rfl | omega | (dsimp only; omega) | (simp only [addS_eq, mulS_eq]; omega)) ?_))
  refine CallG.focus 2 rfl ?_
  refine CallG.focus 2 rfl ?_
  refine (yCopied hfz hc9 hv hC.F.finp hu hx (by omega) (by omega) (by omega)).mono ?_
  rintro r _ - ⟨J, rfl⟩
  repeat (first | refine SeqS.go cok ?_)
  exact Fin.focus 2 rfl (Fin.same ⟨rfl, J, rfl⟩)
theorem yEff57 {I : Ent → Prop} {G : List Ent} {sb ssz fb fsz mb pc gas : Nat} {Ts Tf Tm : TypeId} {cs cf cm : Nat → Value} {K : YK} {w : YW} {s mem : List Nat} {av : Value} {as' : List Nat} (hsz : 179 ≤ ssz) (hfz : 60 ≤ fsz) (hC : CsI I cs cf K w pc gas s) (hc9 : cf 9 = sl mb 0 mem.length mem.length) (hml : mem.length < 2 ^ 30) (hA : StkI I av as') (hlen : as'.length < 100) (hn : as'.getD 2 0 < 2 ^ 30) :
    CallG Hvaf.prog 163 #[ptr sb 0, ptr fb 0, .int .u8 (57 : Nat), av] ⟨I, ⟨sb, ssz, Ts, cs⟩ :: ⟨fb, fsz, Tf, cf⟩ :: ⟨mb, mem.length, Tm, updN cm 0 (bvs mem)⟩ :: G⟩ fun r S' => r = .bool true ∧ ∃ J, S' = ⟨J, ⟨sb, ssz, Ts, cs⟩ :: ⟨fb, fsz, Tf, cf⟩ :: ⟨mb, mem.length, Tm, updN cm 0 (bvs (if as'.getD 2 0 = 0 then mem else writeL mem (as'.getD 0 0) (cutL (K.code) (as'.getD 1 0) (as'.getD 2 0))))⟩ :: G⟩ := by
  have hk := hC.KB.code
  refine CallG.start (C := mkC Hvaf.prog) cok (args := [ptr sb 0, ptr fb 0, .int .u8 ((57 : Nat) : Int), av]) Hvaf.func163 rfl Hvaf.ntmps163 (by simp) (by kernel_rfl) ?_
  repeat (first | refine SeqS.go cok ?_)
  refine (yOperand (i := 0) hA (by omega) (by decide)).mono ?_
  rintro v _ - ⟨rfl, hv⟩
  repeat (first | refine SeqS.go cok ?_)
  refine (yOperand (i := 1) hA (by omega) (by decide)).mono ?_
  rintro u _ - ⟨rfl, hu⟩
  repeat (first | refine SeqS.go cok ?_)
  refine (yOperand (i := 2) hA (by omega) (by decide)).mono ?_
  rintro x _ - ⟨rfl, hx⟩
  repeat (first | refine SeqS.go cok ?_ | refine CondS.t rfl ?_ | refine CondS.f rfl ?_ | (refine QuG.keep ?_; first | refine QuG.l1 cok 1 rfl rfl rfl rfl rfl (by first | exact Nat.le_of_ble_eq_true rfl | omega | (dsimp only; omega) | (simp only [addS_eq, mulS_eq]; omega)) ?_))
  refine CallG.focus 2 rfl ?_
  refine CallG.focus 2 rfl ?_
  refine (yCopied hfz hc9 hv hC.F.fcode hu hx (by omega) (by omega) (by omega)).mono ?_
  rintro r _ - ⟨J, rfl⟩
  repeat (first | refine SeqS.go cok ?_)
  exact Fin.focus 2 rfl (Fin.same ⟨rfl, J, rfl⟩)
theorem yEff94 {I : Ent → Prop} {G : List Ent} {sb ssz fb fsz mb pc gas : Nat} {Ts Tf Tm : TypeId} {cs cf cm : Nat → Value} {K : YK} {w : YW} {s mem : List Nat} {av : Value} {as' : List Nat} (hsz : 179 ≤ ssz) (hfz : 60 ≤ fsz) (hC : CsI I cs cf K w pc gas s) (hc9 : cf 9 = sl mb 0 mem.length mem.length) (hml : mem.length < 2 ^ 30) (hA : StkI I av as') (hlen : as'.length < 100) (hn : as'.getD 2 0 < 2 ^ 30) (hb8 : ∀ d ∈ mem, d < 256) :
    CallG Hvaf.prog 163 #[ptr sb 0, ptr fb 0, .int .u8 (94 : Nat), av] ⟨I, ⟨sb, ssz, Ts, cs⟩ :: ⟨fb, fsz, Tf, cf⟩ :: ⟨mb, mem.length, Tm, updN cm 0 (bvs mem)⟩ :: G⟩ fun r S' => r = .bool true ∧ ∃ J, S' = ⟨J, ⟨sb, ssz, Ts, cs⟩ :: ⟨fb, fsz, Tf, cf⟩ :: ⟨mb, mem.length, Tm, updN cm 0 (bvs (if as'.getD 2 0 = 0 then mem else writeL mem (as'.getD 0 0) (cutL (mem) (as'.getD 1 0) (as'.getD 2 0))))⟩ :: G⟩ := by
  have hbm : Byt ⟨I, ⟨sb, ssz, Ts, cs⟩ :: ⟨fb, fsz, Tf, cf⟩ :: ⟨mb, mem.length, Tm, updN cm 0 (bvs mem)⟩ :: G⟩ (sl mb 0 mem.length mem.length) mem := row_byt (x := ⟨mb, mem.length, Tm, updN cm 0 (bvs mem)⟩) (Row.updN2 _ _ _) (.inr (by simp)) hb8 rfl (by omega) (by show 0 + mem.length ≤ mem.length; omega)
  refine CallG.start (C := mkC Hvaf.prog) cok (args := [ptr sb 0, ptr fb 0, .int .u8 ((94 : Nat) : Int), av]) Hvaf.func163 rfl Hvaf.ntmps163 (by simp) (by kernel_rfl) ?_
  repeat (first | refine SeqS.go cok ?_)
  refine (yOperand (i := 0) hA (by omega) (by decide)).mono ?_
  rintro v _ - ⟨rfl, hv⟩
  repeat (first | refine SeqS.go cok ?_)
  refine (yOperand (i := 1) hA (by omega) (by decide)).mono ?_
  rintro u _ - ⟨rfl, hu⟩
  repeat (first | refine SeqS.go cok ?_)
  refine (yOperand (i := 2) hA (by omega) (by decide)).mono ?_
  rintro x _ - ⟨rfl, hx⟩
  repeat (first | (refine QuG.keep ?_; first | refine QuG.l1E cok 1 rfl rfl rfl rfl rfl (by first | exact Nat.le_of_ble_eq_true rfl | omega | (dsimp only; omega) | (simp only [addS_eq, mulS_eq]; omega)) (by assumption) ?_) | refine SeqS.go cok ?_ | refine CondS.t rfl ?_ | refine CondS.f rfl ?_)
  refine (yBytesOf hbm).mono ?_
  rintro r ⟨J1, G1⟩ hs1 ⟨h11, h12⟩
  dsimp only at h11 h12
  subst h11
  replace hs1 : HL.Sub I J1 := hs1
  skip
  refine CallG.focus 2 rfl ?_
  refine CallG.focus 2 rfl ?_
  refine (yCopied hfz hc9 (hv.up hs1) h12 (hu.up hs1) (hx.up hs1) (by omega) (by omega) (by omega)).mono ?_
  rintro r _ - ⟨J, rfl⟩
  repeat (first | refine SeqS.go cok ?_)
  exact Fin.focus 2 rfl (Fin.same ⟨rfl, J, rfl⟩)
end Go.Proofs.YgvafwGreat
