import Derived.Test.YgvafwGreatY47
set_option exponentiation.threshold 1000
set_option maxRecDepth 100000
set_option maxHeartbeats 4000000
set_option linter.unusedVariables false
set_option linter.unusedSimpArgs false
-- v2
-- v4
-- v5
-- v6
-- v7
namespace Go.Proofs.YgvafwGreat
open Go.HL Go.Proofs

theorem yEff80 {I : Ent → Prop} {G : List Ent} {sb ssz fb fsz pc gas : Nat} {Ts Tf : TypeId} {cs cf : Nat → Value} {K : YK} {w : YW} {s : List Nat} {av : Value} {as' : List Nat} (hsz : 179 ≤ ssz) (hfz : 60 ≤ fsz) (hC : CsI I cs cf K w pc gas s) (hA : StkI I av as') (hlen : as'.length < 100) :
    CallG Hvaf.prog 163 #[ptr sb 0, ptr fb 0, .int .u8 (80 : Nat), av] ⟨I, ⟨sb, ssz, Ts, cs⟩ :: ⟨fb, fsz, Tf, cf⟩ :: G⟩ fun r S' => r = .bool true ∧ ⟨I, ⟨sb, ssz, Ts, cs⟩ :: ⟨fb, fsz, Tf, cf⟩ :: G⟩ = S' := by
  refine CallG.start (C := mkC Hvaf.prog) cok (args := [ptr sb 0, ptr fb 0, .int .u8 ((80 : Nat) : Int), av]) Hvaf.func163 rfl Hvaf.ntmps163 (by simp) (by kernel_rfl) ?_
  repeat (first | refine SeqS.go cok ?_)
  refine (yOperand (i := 0) hA (by omega) (by decide)).mono ?_
  rintro v _ - ⟨rfl, hv⟩
  repeat (first | refine SeqS.go cok ?_)
  refine (yOperand (i := 1) hA (by omega) (by decide)).mono ?_
  rintro u _ - ⟨rfl, hu⟩
  repeat (first | refine SeqS.go cok ?_)
  refine (yOperand (i := 2) hA (by omega) (by decide)).mono ?_
  rintro x _ - ⟨rfl, hx⟩
  repeat (first | refine SeqS.go cok ?_ | refine GuardS.no rfl ?_ | refine CondS.f rfl ?_)
  exact Fin.same ⟨rfl, rfl⟩
theorem yEff87 {I : Ent → Prop} {G : List Ent} {sb ssz fb fsz pc gas : Nat} {Ts Tf : TypeId} {cs cf : Nat → Value} {K : YK} {w : YW} {s : List Nat} {av : Value} {as' : List Nat} (hsz : 179 ≤ ssz) (hfz : 60 ≤ fsz) (hC : CsI I cs cf K w pc gas s) (hA : StkI I av as') (hlen : as'.length < 100) :
    CallG Hvaf.prog 163 #[ptr sb 0, ptr fb 0, .int .u8 (87 : Nat), av] ⟨I, ⟨sb, ssz, Ts, cs⟩ :: ⟨fb, fsz, Tf, cf⟩ :: G⟩ fun r S' => r = .bool true ∧ ⟨I, ⟨sb, ssz, Ts, cs⟩ :: ⟨fb, fsz, Tf, cf⟩ :: G⟩ = S' := by
  refine CallG.start (C := mkC Hvaf.prog) cok (args := [ptr sb 0, ptr fb 0, .int .u8 ((87 : Nat) : Int), av]) Hvaf.func163 rfl Hvaf.ntmps163 (by simp) (by kernel_rfl) ?_
  repeat (first | refine SeqS.go cok ?_)
  refine (yOperand (i := 0) hA (by omega) (by decide)).mono ?_
  rintro v _ - ⟨rfl, hv⟩
  repeat (first | refine SeqS.go cok ?_)
  refine (yOperand (i := 1) hA (by omega) (by decide)).mono ?_
  rintro u _ - ⟨rfl, hu⟩
  repeat (first | refine SeqS.go cok ?_)
  refine (yOperand (i := 2) hA (by omega) (by decide)).mono ?_
  rintro x _ - ⟨rfl, hx⟩
  repeat (first | refine SeqS.go cok ?_ | refine GuardS.no rfl ?_ | refine CondS.f rfl ?_)
  exact Fin.same ⟨rfl, rfl⟩
theorem yEff91 {I : Ent → Prop} {G : List Ent} {sb ssz fb fsz pc gas : Nat} {Ts Tf : TypeId} {cs cf : Nat → Value} {K : YK} {w : YW} {s : List Nat} {av : Value} {as' : List Nat} (hsz : 179 ≤ ssz) (hfz : 60 ≤ fsz) (hC : CsI I cs cf K w pc gas s) (hA : StkI I av as') (hlen : as'.length < 100) :
    CallG Hvaf.prog 163 #[ptr sb 0, ptr fb 0, .int .u8 (91 : Nat), av] ⟨I, ⟨sb, ssz, Ts, cs⟩ :: ⟨fb, fsz, Tf, cf⟩ :: G⟩ fun r S' => r = .bool true ∧ ⟨I, ⟨sb, ssz, Ts, cs⟩ :: ⟨fb, fsz, Tf, cf⟩ :: G⟩ = S' := by
  refine CallG.start (C := mkC Hvaf.prog) cok (args := [ptr sb 0, ptr fb 0, .int .u8 ((91 : Nat) : Int), av]) Hvaf.func163 rfl Hvaf.ntmps163 (by simp) (by kernel_rfl) ?_
  repeat (first | refine SeqS.go cok ?_)
  refine (yOperand (i := 0) hA (by omega) (by decide)).mono ?_
  rintro v _ - ⟨rfl, hv⟩
  repeat (first | refine SeqS.go cok ?_)
  refine (yOperand (i := 1) hA (by omega) (by decide)).mono ?_
  rintro u _ - ⟨rfl, hu⟩
  repeat (first | refine SeqS.go cok ?_)
  refine (yOperand (i := 2) hA (by omega) (by decide)).mono ?_
  rintro x _ - ⟨rfl, hx⟩
  repeat (first | refine SeqS.go cok ?_ | refine GuardS.no rfl ?_ | refine CondS.f rfl ?_)
  exact Fin.same ⟨rfl, rfl⟩
theorem yEff93 {I : Ent → Prop} {G : List Ent} {sb ssz fb fsz pc gas : Nat} {Ts Tf : TypeId} {cs cf : Nat → Value} {K : YK} {w : YW} {s : List Nat} {av : Value} {as' : List Nat} (hsz : 179 ≤ ssz) (hfz : 60 ≤ fsz) (hC : CsI I cs cf K w pc gas s) (hA : StkI I av as') (hlen : as'.length < 100) :
    CallG Hvaf.prog 163 #[ptr sb 0, ptr fb 0, .int .u8 (93 : Nat), av] ⟨I, ⟨sb, ssz, Ts, cs⟩ :: ⟨fb, fsz, Tf, cf⟩ :: G⟩ fun r S' => r = .bool true ∧ ∃ J w1, S' = ⟨J, ⟨sb, ssz, Ts, upd cs 5 w1⟩ :: ⟨fb, fsz, Tf, cf⟩ :: G⟩ ∧ TempsI J w1 (tstT (K.self, as'.getD 0 0, as'.getD 1 0) (decide (as'.getD 1 0 = 0)) w.tp) := by
  have hb20 := hC.KB.kself.bv
  have hl20 := hC.KB.kself.len
  have hrow := hC.F.fself
  refine CallG.start (C := mkC Hvaf.prog) cok (args := [ptr sb 0, ptr fb 0, .int .u8 ((93 : Nat) : Int), av]) Hvaf.func163 rfl Hvaf.ntmps163 (by simp) (by kernel_rfl) ?_
  repeat (first | refine SeqS.go cok ?_)
  refine (yOperand (i := 0) hA (by omega) (by decide)).mono ?_
  rintro v _ - ⟨rfl, hv⟩
  repeat (first | refine SeqS.go cok ?_)
  refine (yOperand (i := 1) hA (by omega) (by decide)).mono ?_
  rintro u _ - ⟨rfl, hu⟩
  repeat (first | refine SeqS.go cok ?_)
  refine (yOperand (i := 2) hA (by omega) (by decide)).mono ?_
  rintro x _ - ⟨rfl, hx⟩
  repeat (first | refine SeqS.go cok ?_ | refine CondS.t rfl ?_ | refine CondS.f rfl ?_)
  repeat (first | (refine QuG.keep ?_; first | refine QuG.rowA cok 1 rfl rfl rfl rfl rfl (by assumption) (by assumption) (by first | exact Nat.le_of_ble_eq_true rfl | omega | (dsimp only; omega) | (simp only [addS_eq, mulS_eq]; omega)) ?_) | refine W.drawI 24 cok [0, 1, 3, 0, 8, 24, 56, 0, 0, 511] [0, 1, 2, 3, 4, 5, 6, 7, 8, 9] [6] (by kernel_rfl) (by kernel_rfl) ?_)
  refine (yTStore (wb := sb) (T := Ts) (G := ⟨fb, fsz, Tf, cf⟩ :: G) (sz := ssz) (by omega) hC.W.tmp hC.KB.kself hv hu (by have := hC.B.tp; omega)).mono ?_
  rintro r _ hs1 ⟨J1, w1, rfl, hw1⟩
  repeat (first | refine SeqS.go cok ?_ | (refine still_in ?_; first | refine still_drop (by decide) ?_))
  exact Fin.same ⟨rfl, J1, w1, rfl, hw1⟩
theorem yEff85 {I : Ent → Prop} {G : List Ent} {sb ssz fb fsz pc gas : Nat} {Ts Tf : TypeId} {cs cf : Nat → Value} {K : YK} {w : YW} {s : List Nat} {av : Value} {as' : List Nat} (hsz : 179 ≤ ssz) (hfz : 60 ≤ fsz) (hC : CsI I cs cf K w pc gas s) (hA : StkI I av as') (hlen : as'.length < 100) (hm : (sstoreN K w s).2.2 ≤ w.rf) (hrb : w.rf + (sstoreN K w s).2.1 < NB) :
    CallG Hvaf.prog 163 #[ptr sb 0, ptr fb 0, .int .u8 (85 : Nat), av] ⟨I, ⟨sb, ssz, Ts, cs⟩ :: ⟨fb, fsz, Tf, cf⟩ :: G⟩ fun r S' => r = .bool true ∧ ∃ J w1 w2 w3, S' = ⟨J, ⟨sb, ssz, Ts, upd (upd (upd cs 3 w1) 2 w2) 0 w3⟩ :: ⟨fb, fsz, Tf, cf⟩ :: G⟩ ∧ NatI J w1 (w.rf - (sstoreN K w s).2.2 + (sstoreN K w s).2.1) ∧ MarksI J w2 (warmM (K.self, as'.getD 0 0, 0) w.ms) ∧ AcctsI J w3 (putA { getA w.al K.self with slots := storeS (as'.getD 0 0) (as'.getD 1 0) (decide (as'.getD 1 0 = 0)) (getA w.al K.self).slots } w.al) := by
  refine CallG.start (C := mkC Hvaf.prog) cok (args := [ptr sb 0, ptr fb 0, .int .u8 ((85 : Nat) : Int), av]) Hvaf.func163 rfl Hvaf.ntmps163 (by simp) (by kernel_rfl) ?_
  repeat (first | refine SeqS.go cok ?_)
  refine (yOperand (i := 0) hA (by omega) (by decide)).mono ?_
  rintro v _ - ⟨rfl, hv⟩
  repeat (first | refine SeqS.go cok ?_)
  refine (yOperand (i := 1) hA (by omega) (by decide)).mono ?_
  rintro u _ - ⟨rfl, hu⟩
  repeat (first | refine SeqS.go cok ?_)
  refine (yOperand (i := 2) hA (by omega) (by decide)).mono ?_
  rintro x _ - ⟨rfl, hx⟩
  repeat (first | refine SeqS.go cok ?_ | refine CondS.t rfl ?_ | refine CondS.f rfl ?_)
  refine (yStores (t := sstoreN K w s) (by omega) hfz hC.W.acc hC.W.mks hC.W.rfd hC.S hC.F.fstk hC.F.fself hC.KB.kself (by have := hC.B.al; omega) (by have := hC.B.ms; omega) (by have := hC.KB.st; omega) (by have := hC.F.fl; omega) (by have := hC.B.sl; omega) hv hu rfl hm hrb).mono ?_
  rintro r _ hs1 ⟨J1, w1, w2, w3, rfl, rfl, q1, q2, q3⟩
  repeat (first | refine SeqS.go cok ?_)
  exact Fin.same ⟨rfl, J1, w1, w2, w3, rfl, q1, q2, q3⟩
end Go.Proofs.YgvafwGreat
