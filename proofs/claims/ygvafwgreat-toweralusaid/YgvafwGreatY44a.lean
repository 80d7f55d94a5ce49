import Derived.Test.YgvafwGreatY43
set_option exponentiation.threshold 1000
set_option maxRecDepth 100000
set_option maxHeartbeats 4000000
set_option linter.unusedVariables false
set_option linter.unusedSimpArgs false
-- v2
-- v4
-- v5
-- v6
-- v7
namespace Go.Proofs.YgvafwGreat
open Go.HL Go.Proofs

theorem yVal48 {I : Ent → Prop} {G : List Ent} {sb ssz fb fsz pc gas : Nat} {Ts Tf : TypeId} {cs cf : Nat → Value} {K : YK} {w : YW} {s mem : List Nat} {M : List Ent} {av : Value} {as' : List Nat} (hsz : 179 ≤ ssz) (hfz : 60 ≤ fsz) (hC : CsI I cs cf K w pc gas s) (hE : EnvI I cs K) (hM : MemO (cf 9) mem M) (hMG : ∀ x ∈ M, x ∈ G) (hA : StkI I av as') (hlen : as'.length < 100) :
    CallG Hvaf.prog 162 #[ptr sb 0, ptr fb 0, .int .u8 (48 : Nat), av] ⟨I, ⟨sb, ssz, Ts, cs⟩ :: ⟨fb, fsz, Tf, cf⟩ :: G⟩ fun r S' => S'.G = ⟨sb, ssz, Ts, cs⟩ :: ⟨fb, fsz, Tf, cf⟩ :: G ∧ NatI S'.I r (bev K.self) := by
  have hf : ∀ S, CallG Hvaf.prog 75 #[.int .u8 (48 : Nat)] S fun r S' => S = S' ∧ r = .int .u8 (2 : Nat) := fun S => Family_spec (S := S) (o := 48) (by decide)
  have hl20 := hC.KB.kself.len
  have hby : Byt ⟨I, ⟨sb, ssz, Ts, cs⟩ :: ⟨fb, fsz, Tf, cf⟩ :: G⟩ (.slice (some ⟨fb, 12, none⟩) 20 20) K.self := row_byt (x := ⟨fb, fsz, Tf, cf⟩) hC.F.fself (.inr (by simp)) hC.KB.kself.b8 hl20 (by decide) (by show 12 + 20 ≤ fsz; omega)
  refine CallG.start (C := mkC Hvaf.prog) cok (args := [ptr sb 0, ptr fb 0, .int .u8 ((48 : Nat) : Int), av]) Hvaf.func162 rfl Hvaf.ntmps162 (by simp) (by kernel_rfl) ?_
  repeat (first | refine SeqS.go cok ?_)
  refine (yOperand (i := 0) hA (by omega) (by decide)).mono ?_
  rintro v _ - ⟨rfl, hv⟩
  repeat (first | refine SeqS.go cok ?_)
  refine (yOperand (i := 1) hA (by omega) (by decide)).mono ?_
  rintro u _ - ⟨rfl, hu⟩
  repeat (first | refine SeqS.go cok ?_ | refine CondS.f rfl ?_)
  refine (hf _).mono ?_
  rintro r _ - ⟨rfl, rfl⟩
  repeat (first | refine SeqS.go cok ?_ | refine GuardS.no rfl ?_ | refine CondS.t rfl ?_ | refine CondS.f rfl ?_ | refine And.intro (Eq.refl true) ?_ | (refine ValS.keep ?_; first | with_reducible refine ValS.sl0 ?_))
  refine callN (FromBE_byt hby (bev_NB hC.KB.kself.b8 (by omega))) fun x J hs hx => ?_
  repeat (first | refine SeqS.go cok ?_)
  exact Fin.same ⟨rfl, hx⟩
theorem yVal50 {I : Ent → Prop} {G : List Ent} {sb ssz fb fsz pc gas : Nat} {Ts Tf : TypeId} {cs cf : Nat → Value} {K : YK} {w : YW} {s mem : List Nat} {M : List Ent} {av : Value} {as' : List Nat} (hsz : 179 ≤ ssz) (hfz : 60 ≤ fsz) (hC : CsI I cs cf K w pc gas s) (hE : EnvI I cs K) (hM : MemO (cf 9) mem M) (hMG : ∀ x ∈ M, x ∈ G) (hA : StkI I av as') (hlen : as'.length < 100) :
    CallG Hvaf.prog 162 #[ptr sb 0, ptr fb 0, .int .u8 (50 : Nat), av] ⟨I, ⟨sb, ssz, Ts, cs⟩ :: ⟨fb, fsz, Tf, cf⟩ :: G⟩ fun r S' => S'.G = ⟨sb, ssz, Ts, cs⟩ :: ⟨fb, fsz, Tf, cf⟩ :: G ∧ NatI S'.I r (bev K.caller) := by
  have hf : ∀ S, CallG Hvaf.prog 75 #[.int .u8 (50 : Nat)] S fun r S' => S = S' ∧ r = .int .u8 (2 : Nat) := fun S => Family_spec (S := S) (o := 50) (by decide)
  have hl20 := hC.KB.kcaller.len
  have hby : Byt ⟨I, ⟨sb, ssz, Ts, cs⟩ :: ⟨fb, fsz, Tf, cf⟩ :: G⟩ (.slice (some ⟨sb, 19, none⟩) 20 20) K.caller := row_byt (x := ⟨sb, ssz, Ts, cs⟩) hE.orig (.inr (by simp)) hC.KB.kcaller.b8 hl20 (by decide) (by show 19 + 20 ≤ ssz; omega)
  refine CallG.start (C := mkC Hvaf.prog) cok (args := [ptr sb 0, ptr fb 0, .int .u8 ((50 : Nat) : Int), av]) Hvaf.func162 rfl Hvaf.ntmps162 (by simp) (by kernel_rfl) ?_
  repeat (first | refine SeqS.go cok ?_)
  refine (yOperand (i := 0) hA (by omega) (by decide)).mono ?_
  rintro v _ - ⟨rfl, hv⟩
  repeat (first | refine SeqS.go cok ?_)
  refine (yOperand (i := 1) hA (by omega) (by decide)).mono ?_
  rintro u _ - ⟨rfl, hu⟩
  repeat (first | refine SeqS.go cok ?_ | refine CondS.f rfl ?_)
  refine (hf _).mono ?_
  rintro r _ - ⟨rfl, rfl⟩
  repeat (first | refine SeqS.go cok ?_ | refine GuardS.no rfl ?_ | refine CondS.t rfl ?_ | refine CondS.f rfl ?_ | refine And.intro (Eq.refl true) ?_ | (refine ValS.keep ?_; first | with_reducible refine ValS.sl0 ?_))
  refine callN (FromBE_byt hby (bev_NB hC.KB.kcaller.b8 (by omega))) fun x J hs hx => ?_
  repeat (first | refine SeqS.go cok ?_)
  exact Fin.same ⟨rfl, hx⟩
theorem yVal51 {I : Ent → Prop} {G : List Ent} {sb ssz fb fsz pc gas : Nat} {Ts Tf : TypeId} {cs cf : Nat → Value} {K : YK} {w : YW} {s mem : List Nat} {M : List Ent} {av : Value} {as' : List Nat} (hsz : 179 ≤ ssz) (hfz : 60 ≤ fsz) (hC : CsI I cs cf K w pc gas s) (hE : EnvI I cs K) (hM : MemO (cf 9) mem M) (hMG : ∀ x ∈ M, x ∈ G) (hA : StkI I av as') (hlen : as'.length < 100) :
    CallG Hvaf.prog 162 #[ptr sb 0, ptr fb 0, .int .u8 (51 : Nat), av] ⟨I, ⟨sb, ssz, Ts, cs⟩ :: ⟨fb, fsz, Tf, cf⟩ :: G⟩ fun r S' => S'.G = ⟨sb, ssz, Ts, cs⟩ :: ⟨fb, fsz, Tf, cf⟩ :: G ∧ NatI S'.I r (bev K.caller) := by
  have hf : ∀ S, CallG Hvaf.prog 75 #[.int .u8 (51 : Nat)] S fun r S' => S = S' ∧ r = .int .u8 (2 : Nat) := fun S => Family_spec (S := S) (o := 51) (by decide)
  have hl20 := hC.KB.kcaller.len
  have hby : Byt ⟨I, ⟨sb, ssz, Ts, cs⟩ :: ⟨fb, fsz, Tf, cf⟩ :: G⟩ (.slice (some ⟨fb, 32, none⟩) 20 20) K.caller := row_byt (x := ⟨fb, fsz, Tf, cf⟩) hC.F.fcall (.inr (by simp)) hC.KB.kcaller.b8 hl20 (by decide) (by show 32 + 20 ≤ fsz; omega)
  refine CallG.start (C := mkC Hvaf.prog) cok (args := [ptr sb 0, ptr fb 0, .int .u8 ((51 : Nat) : Int), av]) Hvaf.func162 rfl Hvaf.ntmps162 (by simp) (by kernel_rfl) ?_
  repeat (first | refine SeqS.go cok ?_)
  refine (yOperand (i := 0) hA (by omega) (by decide)).mono ?_
  rintro v _ - ⟨rfl, hv⟩
  repeat (first | refine SeqS.go cok ?_)
  refine (yOperand (i := 1) hA (by omega) (by decide)).mono ?_
  rintro u _ - ⟨rfl, hu⟩
  repeat (first | refine SeqS.go cok ?_ | refine CondS.f rfl ?_)
  refine (hf _).mono ?_
  rintro r _ - ⟨rfl, rfl⟩
  repeat (first | refine SeqS.go cok ?_ | refine GuardS.no rfl ?_ | refine CondS.t rfl ?_ | refine CondS.f rfl ?_ | refine And.intro (Eq.refl true) ?_ | (refine ValS.keep ?_; first | with_reducible refine ValS.sl0 ?_))
  refine callN (FromBE_byt hby (bev_NB hC.KB.kcaller.b8 (by omega))) fun x J hs hx => ?_
  repeat (first | refine SeqS.go cok ?_)
  exact Fin.same ⟨rfl, hx⟩
theorem yVal52 {I : Ent → Prop} {G : List Ent} {sb ssz fb fsz pc gas : Nat} {Ts Tf : TypeId} {cs cf : Nat → Value} {K : YK} {w : YW} {s mem : List Nat} {M : List Ent} {av : Value} {as' : List Nat} (hsz : 179 ≤ ssz) (hfz : 60 ≤ fsz) (hC : CsI I cs cf K w pc gas s) (hE : EnvI I cs K) (hM : MemO (cf 9) mem M) (hMG : ∀ x ∈ M, x ∈ G) (hA : StkI I av as') (hlen : as'.length < 100) :
    CallG Hvaf.prog 162 #[ptr sb 0, ptr fb 0, .int .u8 (52 : Nat), av] ⟨I, ⟨sb, ssz, Ts, cs⟩ :: ⟨fb, fsz, Tf, cf⟩ :: G⟩ fun r S' => S'.G = ⟨sb, ssz, Ts, cs⟩ :: ⟨fb, fsz, Tf, cf⟩ :: G ∧ NatI S'.I r (0) := by
  have hf : ∀ S, CallG Hvaf.prog 75 #[.int .u8 (52 : Nat)] S fun r S' => S = S' ∧ r = .int .u8 (2 : Nat) := fun S => Family_spec (S := S) (o := 52) (by decide)
  have hg := hC.F.fval
  refine CallG.start (C := mkC Hvaf.prog) cok (args := [ptr sb 0, ptr fb 0, .int .u8 ((52 : Nat) : Int), av]) Hvaf.func162 rfl Hvaf.ntmps162 (by simp) (by kernel_rfl) ?_
  repeat (first | refine SeqS.go cok ?_)
  refine (yOperand (i := 0) hA (by omega) (by decide)).mono ?_
  rintro v _ - ⟨rfl, hv⟩
  repeat (first | refine SeqS.go cok ?_)
  refine (yOperand (i := 1) hA (by omega) (by decide)).mono ?_
  rintro u _ - ⟨rfl, hu⟩
  repeat (first | refine SeqS.go cok ?_ | refine CondS.f rfl ?_)
  refine (hf _).mono ?_
  rintro r _ - ⟨rfl, rfl⟩
  repeat (first | refine SeqS.go cok ?_ | refine GuardS.no rfl ?_ | refine CondS.t rfl ?_ | refine CondS.f rfl ?_ | (refine QuG.keep ?_; first | refine QuG.l1 cok 1 rfl rfl rfl rfl rfl (by first | exact Nat.le_of_ble_eq_true rfl | omega | (dsimp only; omega) | (simp only [addS_eq, mulS_eq]; omega)) ?_))
  refine callN (nNorm hg) fun x J hs hx => ?_
  repeat (first | refine SeqS.go cok ?_)
  exact Fin.same ⟨rfl, hx⟩
theorem yVal58 {I : Ent → Prop} {G : List Ent} {sb ssz fb fsz pc gas : Nat} {Ts Tf : TypeId} {cs cf : Nat → Value} {K : YK} {w : YW} {s mem : List Nat} {M : List Ent} {av : Value} {as' : List Nat} (hsz : 179 ≤ ssz) (hfz : 60 ≤ fsz) (hC : CsI I cs cf K w pc gas s) (hE : EnvI I cs K) (hM : MemO (cf 9) mem M) (hMG : ∀ x ∈ M, x ∈ G) (hA : StkI I av as') (hlen : as'.length < 100) :
    CallG Hvaf.prog 162 #[ptr sb 0, ptr fb 0, .int .u8 (58 : Nat), av] ⟨I, ⟨sb, ssz, Ts, cs⟩ :: ⟨fb, fsz, Tf, cf⟩ :: G⟩ fun r S' => S'.G = ⟨sb, ssz, Ts, cs⟩ :: ⟨fb, fsz, Tf, cf⟩ :: G ∧ NatI S'.I r (0) := by
  have hf : ∀ S, CallG Hvaf.prog 75 #[.int .u8 (58 : Nat)] S fun r S' => S = S' ∧ r = .int .u8 (2 : Nat) := fun S => Family_spec (S := S) (o := 58) (by decide)
  have hg := hE.price
  refine CallG.start (C := mkC Hvaf.prog) cok (args := [ptr sb 0, ptr fb 0, .int .u8 ((58 : Nat) : Int), av]) Hvaf.func162 rfl Hvaf.ntmps162 (by simp) (by kernel_rfl) ?_
  repeat (first | refine SeqS.go cok ?_)
  refine (yOperand (i := 0) hA (by omega) (by decide)).mono ?_
  rintro v _ - ⟨rfl, hv⟩
  repeat (first | refine SeqS.go cok ?_)
  refine (yOperand (i := 1) hA (by omega) (by decide)).mono ?_
  rintro u _ - ⟨rfl, hu⟩
  repeat (first | refine SeqS.go cok ?_ | refine CondS.f rfl ?_)
  refine (hf _).mono ?_
  rintro r _ - ⟨rfl, rfl⟩
  repeat (first | refine SeqS.go cok ?_ | refine GuardS.no rfl ?_ | refine CondS.t rfl ?_ | refine CondS.f rfl ?_ | (refine QuG.keep ?_; first | refine QuG.l1 cok 0 rfl rfl rfl rfl rfl (by first | exact Nat.le_of_ble_eq_true rfl | omega | (dsimp only; omega) | (simp only [addS_eq, mulS_eq]; omega)) ?_))
  refine callN (nNorm hg) fun x J hs hx => ?_
  repeat (first | refine SeqS.go cok ?_)
  exact Fin.same ⟨rfl, hx⟩
end Go.Proofs.YgvafwGreat
