import Derived.Test.YgvafwGreatY59
set_option exponentiation.threshold 1000
set_option maxRecDepth 100000
set_option maxHeartbeats 4000000
set_option linter.unusedVariables false
set_option linter.unusedSimpArgs false
-- v2
-- v4
-- v5
-- v6
-- v7
namespace Go.Proofs.YgvafwGreat
open Go.HL Go.Proofs

/-- Nothing to copy. -/
theorem yCopied0 {fb : Nat} {v s u w : Value} {I : Ent → Prop} {G : List Ent} (hN : NatI I w 0) :
    CallG Hvaf.prog 244 #[ptr fb 0, v, s, u, w] ⟨I, G⟩ fun r S' => ⟨I, G⟩ = S' := by
  refine CallG.start (C := mkC Hvaf.prog) cok (args := [ptr fb 0, v, s, u, w]) Hvaf.func244 rfl Hvaf.ntmps244 (by simp) (by kernel_rfl) ?_
  skip
  refine (zT hN rfl).mono ?_
  rintro r _ - ⟨rfl, rfl⟩
  repeat (first | refine SeqS.go cok ?_ | refine CondS.f rfl ?_)
  exact Fin.same rfl
theorem yEff55z {I : Ent → Prop} {G : List Ent} {sb ssz fb fsz pc gas : Nat} {Ts Tf : TypeId} {cs cf : Nat → Value} {K : YK} {w : YW} {s mem : List Nat} {M : List Ent} {av : Value} {as' : List Nat} (hsz : 179 ≤ ssz) (hfz : 60 ≤ fsz) (hC : CsI I cs cf K w pc gas s) (hE : EnvI I cs K) (hM : MemO (cf 9) mem M) (hMG : ∀ x ∈ M, x ∈ G) (hA : StkI I av as') (hlen : as'.length < 100) (hz : as'.getD 2 0 = 0) :
    CallG Hvaf.prog 163 #[ptr sb 0, ptr fb 0, .int .u8 (55 : Nat), av] ⟨I, ⟨sb, ssz, Ts, cs⟩ :: ⟨fb, fsz, Tf, cf⟩ :: G⟩ fun r S' => r = .bool true ∧ ⟨I, ⟨sb, ssz, Ts, cs⟩ :: ⟨fb, fsz, Tf, cf⟩ :: G⟩ = S' := by
  refine CallG.start (C := mkC Hvaf.prog) cok (args := [ptr sb 0, ptr fb 0, .int .u8 ((55 : Nat) : Int), av]) Hvaf.func163 rfl Hvaf.ntmps163 (by simp) (by kernel_rfl) ?_
  repeat (first | refine SeqS.go cok ?_)
  refine (yOperand (i := 0) hA (by omega) (by decide)).mono ?_
  rintro v _ - ⟨rfl, hv⟩
  repeat (first | refine SeqS.go cok ?_)
  refine (yOperand (i := 1) hA (by omega) (by decide)).mono ?_
  rintro u _ - ⟨rfl, hu⟩
  repeat (first | refine SeqS.go cok ?_)
  refine (yOperand (i := 2) hA (by omega) (by decide)).mono ?_
  rintro x _ - ⟨rfl, hx⟩
  rw [hz] at hx
  repeat (first | refine SeqS.go cok ?_ | refine CondS.t rfl ?_ | (refine QuG.keep ?_; first | refine QuG.l1 cok 1 rfl rfl rfl rfl rfl (by first | exact Nat.le_of_ble_eq_true rfl | omega | (dsimp only; omega) | (simp only [addS_eq, mulS_eq]; omega)) ?_))
  refine (yCopied0 hx).mono ?_
  rintro r _ - rfl
  repeat (first | refine SeqS.go cok ?_)
  exact Fin.same ⟨rfl, rfl⟩
theorem yEff57z {I : Ent → Prop} {G : List Ent} {sb ssz fb fsz pc gas : Nat} {Ts Tf : TypeId} {cs cf : Nat → Value} {K : YK} {w : YW} {s mem : List Nat} {M : List Ent} {av : Value} {as' : List Nat} (hsz : 179 ≤ ssz) (hfz : 60 ≤ fsz) (hC : CsI I cs cf K w pc gas s) (hE : EnvI I cs K) (hM : MemO (cf 9) mem M) (hMG : ∀ x ∈ M, x ∈ G) (hA : StkI I av as') (hlen : as'.length < 100) (hz : as'.getD 2 0 = 0) :
    CallG Hvaf.prog 163 #[ptr sb 0, ptr fb 0, .int .u8 (57 : Nat), av] ⟨I, ⟨sb, ssz, Ts, cs⟩ :: ⟨fb, fsz, Tf, cf⟩ :: G⟩ fun r S' => r = .bool true ∧ ⟨I, ⟨sb, ssz, Ts, cs⟩ :: ⟨fb, fsz, Tf, cf⟩ :: G⟩ = S' := by
  refine CallG.start (C := mkC Hvaf.prog) cok (args := [ptr sb 0, ptr fb 0, .int .u8 ((57 : Nat) : Int), av]) Hvaf.func163 rfl Hvaf.ntmps163 (by simp) (by kernel_rfl) ?_
  repeat (first | refine SeqS.go cok ?_)
  refine (yOperand (i := 0) hA (by omega) (by decide)).mono ?_
  rintro v _ - ⟨rfl, hv⟩
  repeat (first | refine SeqS.go cok ?_)
  refine (yOperand (i := 1) hA (by omega) (by decide)).mono ?_
  rintro u _ - ⟨rfl, hu⟩
  repeat (first | refine SeqS.go cok ?_)
  refine (yOperand (i := 2) hA (by omega) (by decide)).mono ?_
  rintro x _ - ⟨rfl, hx⟩
  rw [hz] at hx
  repeat (first | refine SeqS.go cok ?_ | refine CondS.t rfl ?_ | refine CondS.f rfl ?_ | (refine QuG.keep ?_; first | refine QuG.l1 cok 1 rfl rfl rfl rfl rfl (by first | exact Nat.le_of_ble_eq_true rfl | omega | (dsimp only; omega) | (simp only [addS_eq, mulS_eq]; omega)) ?_))
  refine (yCopied0 hx).mono ?_
  rintro r _ - rfl
  repeat (first | refine SeqS.go cok ?_)
  exact Fin.same ⟨rfl, rfl⟩
theorem yEff62z {I : Ent → Prop} {G : List Ent} {sb ssz fb fsz pc gas : Nat} {Ts Tf : TypeId} {cs cf : Nat → Value} {K : YK} {w : YW} {s mem : List Nat} {M : List Ent} {av : Value} {as' : List Nat} (hsz : 179 ≤ ssz) (hfz : 60 ≤ fsz) (hC : CsI I cs cf K w pc gas s) (hE : EnvI I cs K) (hM : MemO (cf 9) mem M) (hMG : ∀ x ∈ M, x ∈ G) (hA : StkI I av as') (hlen : as'.length < 100) (hz : as'.getD 2 0 = 0) :
    CallG Hvaf.prog 163 #[ptr sb 0, ptr fb 0, .int .u8 (62 : Nat), av] ⟨I, ⟨sb, ssz, Ts, cs⟩ :: ⟨fb, fsz, Tf, cf⟩ :: G⟩ fun r S' => r = .bool true ∧ ⟨I, ⟨sb, ssz, Ts, cs⟩ :: ⟨fb, fsz, Tf, cf⟩ :: G⟩ = S' := by
  refine CallG.start (C := mkC Hvaf.prog) cok (args := [ptr sb 0, ptr fb 0, .int .u8 ((62 : Nat) : Int), av]) Hvaf.func163 rfl Hvaf.ntmps163 (by simp) (by kernel_rfl) ?_
  repeat (first | refine SeqS.go cok ?_)
  refine (yOperand (i := 0) hA (by omega) (by decide)).mono ?_
  rintro v _ - ⟨rfl, hv⟩
  repeat (first | refine SeqS.go cok ?_)
  refine (yOperand (i := 1) hA (by omega) (by decide)).mono ?_
  rintro u _ - ⟨rfl, hu⟩
  repeat (first | refine SeqS.go cok ?_)
  refine (yOperand (i := 2) hA (by omega) (by decide)).mono ?_
  rintro x _ - ⟨rfl, hx⟩
  rw [hz] at hx
  repeat (first | refine SeqS.go cok ?_ | refine CondS.t rfl ?_ | refine CondS.f rfl ?_ | (refine QuG.keep ?_; first | refine QuG.l1 cok 0 rfl rfl rfl rfl rfl (by first | exact Nat.le_of_ble_eq_true rfl | omega | (dsimp only; omega) | (simp only [addS_eq, mulS_eq]; omega)) ?_))
  refine (yCopied0 hx).mono ?_
  rintro r _ - rfl
  repeat (first | refine SeqS.go cok ?_)
  exact Fin.same ⟨rfl, rfl⟩
theorem yEff94z {I : Ent → Prop} {G : List Ent} {sb ssz fb fsz pc gas : Nat} {Ts Tf : TypeId} {cs cf : Nat → Value} {K : YK} {w : YW} {s mem : List Nat} {M : List Ent} {av : Value} {as' : List Nat} (hsz : 179 ≤ ssz) (hfz : 60 ≤ fsz) (hC : CsI I cs cf K w pc gas s) (hE : EnvI I cs K) (hM : MemO (cf 9) mem M) (hMG : ∀ x ∈ M, x ∈ G) (hA : StkI I av as') (hlen : as'.length < 100) (hz : as'.getD 2 0 = 0) :
    CallG Hvaf.prog 163 #[ptr sb 0, ptr fb 0, .int .u8 (94 : Nat), av] ⟨I, ⟨sb, ssz, Ts, cs⟩ :: ⟨fb, fsz, Tf, cf⟩ :: G⟩ fun r S' => r = .bool true ∧ ∃ J, S' = ⟨J, ⟨sb, ssz, Ts, cs⟩ :: ⟨fb, fsz, Tf, cf⟩ :: G⟩ := by
  have hbm : Byt ⟨I, ⟨sb, ssz, Ts, cs⟩ :: ⟨fb, fsz, Tf, cf⟩ :: G⟩ (cf 9) mem := hM.byt (fun x hx => by simp [hMG x hx])
  refine CallG.start (C := mkC Hvaf.prog) cok (args := [ptr sb 0, ptr fb 0, .int .u8 ((94 : Nat) : Int), av]) Hvaf.func163 rfl Hvaf.ntmps163 (by simp) (by kernel_rfl) ?_
  repeat (first | refine SeqS.go cok ?_)
  refine (yOperand (i := 0) hA (by omega) (by decide)).mono ?_
  rintro v _ - ⟨rfl, hv⟩
  repeat (first | refine SeqS.go cok ?_)
  refine (yOperand (i := 1) hA (by omega) (by decide)).mono ?_
  rintro u _ - ⟨rfl, hu⟩
  repeat (first | refine SeqS.go cok ?_)
  refine (yOperand (i := 2) hA (by omega) (by decide)).mono ?_
  rintro x _ - ⟨rfl, hx⟩
  rw [hz] at hx
  repeat (first | refine SeqS.go cok ?_ | refine CondS.t rfl ?_ | refine CondS.f rfl ?_ | (refine QuG.keep ?_; first | refine QuG.l1 cok 1 rfl rfl rfl rfl rfl (by first | exact Nat.le_of_ble_eq_true rfl | omega | (dsimp only; omega) | (simp only [addS_eq, mulS_eq]; omega)) ?_))
  refine (yBytesOf hbm).mono ?_
  rintro r ⟨J1, G1⟩ hs1 ⟨h11, h12⟩
  dsimp only at h11 h12
  subst h11
  replace hs1 : HL.Sub I J1 := hs1
  skip
  refine (yCopied0 (hx.up hs1)).mono ?_
  rintro r _ - rfl
  repeat (first | refine SeqS.go cok ?_)
  exact Fin.same ⟨rfl, J1, rfl⟩
end Go.Proofs.YgvafwGreat
