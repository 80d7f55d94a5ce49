import Derived.Test.YgvafwGreatY47
set_option exponentiation.threshold 1000
set_option maxRecDepth 100000
set_option maxHeartbeats 4000000
set_option linter.unusedVariables false
set_option linter.unusedSimpArgs false
-- v2
-- v4
-- v5
-- v6
-- v7
namespace Go.Proofs.YgvafwGreat
open Go.HL Go.Proofs

theorem yVal64 {I : Ent → Prop} {G : List Ent} {sb ssz fb fsz pc gas : Nat} {Ts Tf : TypeId} {cs cf : Nat → Value} {K : YK} {w : YW} {s mem : List Nat} {M : List Ent} {av : Value} {as' : List Nat} (hsz : 179 ≤ ssz) (hfz : 60 ≤ fsz) (hC : CsI I cs cf K w pc gas s) (hE : EnvI I cs K) (hM : MemO (cf 9) mem M) (hMG : ∀ x ∈ M, x ∈ G) (hA : StkI I av as') (hlen : as'.length < 100) (hva : as'.getD 0 0 + 1 < NB) :
    CallG Hvaf.prog 162 #[ptr sb 0, ptr fb 0, .int .u8 (64 : Nat), av] ⟨I, ⟨sb, ssz, Ts, cs⟩ :: ⟨fb, fsz, Tf, cf⟩ :: G⟩ fun r S' => S'.G = ⟨sb, ssz, Ts, cs⟩ :: ⟨fb, fsz, Tf, cf⟩ :: G ∧ NatI S'.I r (0) := by
  have hf : ∀ S, CallG Hvaf.prog 75 #[.int .u8 (64 : Nat)] S fun r S' => S = S' ∧ r = .int .u8 (2 : Nat) := fun S => Family_spec (S := S) (o := 64) (by decide)
  refine CallG.start (C := mkC Hvaf.prog) cok (args := [ptr sb 0, ptr fb 0, .int .u8 ((64 : Nat) : Int), av]) Hvaf.func162 rfl Hvaf.ntmps162 (by simp) (by kernel_rfl) ?_
  repeat (first | refine SeqS.go cok ?_)
  refine (yOperand (i := 0) hA (by omega) (by decide)).mono ?_
  rintro v _ - ⟨rfl, hv⟩
  repeat (first | refine SeqS.go cok ?_)
  refine (yOperand (i := 1) hA (by omega) (by decide)).mono ?_
  rintro u _ - ⟨rfl, hu⟩
  repeat (first | refine SeqS.go cok ?_ | refine CondS.f rfl ?_)
  refine (hf _).mono ?_
  rintro r _ - ⟨rfl, rfl⟩
  repeat (first | refine SeqS.go cok ?_ | refine GuardS.yes rfl ?_ | refine GuardS.no rfl ?_ | refine CondS.t rfl ?_ | refine CondS.f rfl ?_)
  refine callN (yBlk64 hsz hE hv hva) fun x J hs hx => ?_
  repeat (first | refine SeqS.go cok ?_)
  exact Fin.same ⟨rfl, hx⟩
theorem yVal65 {I : Ent → Prop} {G : List Ent} {sb ssz fb fsz pc gas : Nat} {Ts Tf : TypeId} {cs cf : Nat → Value} {K : YK} {w : YW} {s mem : List Nat} {M : List Ent} {av : Value} {as' : List Nat} (hsz : 179 ≤ ssz) (hfz : 60 ≤ fsz) (hC : CsI I cs cf K w pc gas s) (hE : EnvI I cs K) (hM : MemO (cf 9) mem M) (hMG : ∀ x ∈ M, x ∈ G) (hA : StkI I av as') (hlen : as'.length < 100) :
    CallG Hvaf.prog 162 #[ptr sb 0, ptr fb 0, .int .u8 (65 : Nat), av] ⟨I, ⟨sb, ssz, Ts, cs⟩ :: ⟨fb, fsz, Tf, cf⟩ :: G⟩ fun r S' => S'.G = ⟨sb, ssz, Ts, cs⟩ :: ⟨fb, fsz, Tf, cf⟩ :: G ∧ NatI S'.I r (bev (adNo 192)) := by
  have hf : ∀ S, CallG Hvaf.prog 75 #[.int .u8 (65 : Nat)] S fun r S' => S = S' ∧ r = .int .u8 (2 : Nat) := fun S => Family_spec (S := S) (o := 65) (by decide)
  refine CallG.start (C := mkC Hvaf.prog) cok (args := [ptr sb 0, ptr fb 0, .int .u8 ((65 : Nat) : Int), av]) Hvaf.func162 rfl Hvaf.ntmps162 (by simp) (by kernel_rfl) ?_
  repeat (first | refine SeqS.go cok ?_)
  refine (yOperand (i := 0) hA (by omega) (by decide)).mono ?_
  rintro v _ - ⟨rfl, hv⟩
  repeat (first | refine SeqS.go cok ?_)
  refine (yOperand (i := 1) hA (by omega) (by decide)).mono ?_
  rintro u _ - ⟨rfl, hu⟩
  repeat (first | refine SeqS.go cok ?_ | refine CondS.f rfl ?_)
  refine (hf _).mono ?_
  rintro r _ - ⟨rfl, rfl⟩
  repeat (first | refine SeqS.go cok ?_ | refine GuardS.yes rfl ?_ | refine GuardS.no rfl ?_ | refine CondS.t rfl ?_ | refine CondS.f rfl ?_)
  refine callN (yBlk65 (a := 0) hsz hE) fun x J hs hx => ?_
  repeat (first | refine SeqS.go cok ?_)
  exact Fin.same ⟨rfl, hx⟩
theorem yVal66 {I : Ent → Prop} {G : List Ent} {sb ssz fb fsz pc gas : Nat} {Ts Tf : TypeId} {cs cf : Nat → Value} {K : YK} {w : YW} {s mem : List Nat} {M : List Ent} {av : Value} {as' : List Nat} (hsz : 179 ≤ ssz) (hfz : 60 ≤ fsz) (hC : CsI I cs cf K w pc gas s) (hE : EnvI I cs K) (hM : MemO (cf 9) mem M) (hMG : ∀ x ∈ M, x ∈ G) (hA : StkI I av as') (hlen : as'.length < 100) :
    CallG Hvaf.prog 162 #[ptr sb 0, ptr fb 0, .int .u8 (66 : Nat), av] ⟨I, ⟨sb, ssz, Ts, cs⟩ :: ⟨fb, fsz, Tf, cf⟩ :: G⟩ fun r S' => S'.G = ⟨sb, ssz, Ts, cs⟩ :: ⟨fb, fsz, Tf, cf⟩ :: G ∧ NatI S'.I r (0) := by
  have hf : ∀ S, CallG Hvaf.prog 75 #[.int .u8 (66 : Nat)] S fun r S' => S = S' ∧ r = .int .u8 (2 : Nat) := fun S => Family_spec (S := S) (o := 66) (by decide)
  refine CallG.start (C := mkC Hvaf.prog) cok (args := [ptr sb 0, ptr fb 0, .int .u8 ((66 : Nat) : Int), av]) Hvaf.func162 rfl Hvaf.ntmps162 (by simp) (by kernel_rfl) ?_
  repeat (first | refine SeqS.go cok ?_)
  refine (yOperand (i := 0) hA (by omega) (by decide)).mono ?_
  rintro v _ - ⟨rfl, hv⟩
  repeat (first | refine SeqS.go cok ?_)
  refine (yOperand (i := 1) hA (by omega) (by decide)).mono ?_
  rintro u _ - ⟨rfl, hu⟩
  repeat (first | refine SeqS.go cok ?_ | refine CondS.f rfl ?_)
  refine (hf _).mono ?_
  rintro r _ - ⟨rfl, rfl⟩
  repeat (first | refine SeqS.go cok ?_ | refine GuardS.yes rfl ?_ | refine GuardS.no rfl ?_ | refine CondS.t rfl ?_ | refine CondS.f rfl ?_)
  refine callN (yBlk66 (a := 0) hsz hE) fun x J hs hx => ?_
  repeat (first | refine SeqS.go cok ?_)
  exact Fin.same ⟨rfl, hx⟩
theorem yVal67 {I : Ent → Prop} {G : List Ent} {sb ssz fb fsz pc gas : Nat} {Ts Tf : TypeId} {cs cf : Nat → Value} {K : YK} {w : YW} {s mem : List Nat} {M : List Ent} {av : Value} {as' : List Nat} (hsz : 179 ≤ ssz) (hfz : 60 ≤ fsz) (hC : CsI I cs cf K w pc gas s) (hE : EnvI I cs K) (hM : MemO (cf 9) mem M) (hMG : ∀ x ∈ M, x ∈ G) (hA : StkI I av as') (hlen : as'.length < 100) :
    CallG Hvaf.prog 162 #[ptr sb 0, ptr fb 0, .int .u8 (67 : Nat), av] ⟨I, ⟨sb, ssz, Ts, cs⟩ :: ⟨fb, fsz, Tf, cf⟩ :: G⟩ fun r S' => S'.G = ⟨sb, ssz, Ts, cs⟩ :: ⟨fb, fsz, Tf, cf⟩ :: G ∧ NatI S'.I r (0) := by
  have hf : ∀ S, CallG Hvaf.prog 75 #[.int .u8 (67 : Nat)] S fun r S' => S = S' ∧ r = .int .u8 (2 : Nat) := fun S => Family_spec (S := S) (o := 67) (by decide)
  refine CallG.start (C := mkC Hvaf.prog) cok (args := [ptr sb 0, ptr fb 0, .int .u8 ((67 : Nat) : Int), av]) Hvaf.func162 rfl Hvaf.ntmps162 (by simp) (by kernel_rfl) ?_
  repeat (first | refine SeqS.go cok ?_)
  refine (yOperand (i := 0) hA (by omega) (by decide)).mono ?_
  rintro v _ - ⟨rfl, hv⟩
  repeat (first | refine SeqS.go cok ?_)
  refine (yOperand (i := 1) hA (by omega) (by decide)).mono ?_
  rintro u _ - ⟨rfl, hu⟩
  repeat (first | refine SeqS.go cok ?_ | refine CondS.f rfl ?_)
  refine (hf _).mono ?_
  rintro r _ - ⟨rfl, rfl⟩
  repeat (first | refine SeqS.go cok ?_ | refine GuardS.yes rfl ?_ | refine GuardS.no rfl ?_ | refine CondS.t rfl ?_ | refine CondS.f rfl ?_)
  refine callN (yBlk67 (a := 0) hsz hE) fun x J hs hx => ?_
  repeat (first | refine SeqS.go cok ?_)
  exact Fin.same ⟨rfl, hx⟩
theorem yVal68 {I : Ent → Prop} {G : List Ent} {sb ssz fb fsz pc gas : Nat} {Ts Tf : TypeId} {cs cf : Nat → Value} {K : YK} {w : YW} {s mem : List Nat} {M : List Ent} {av : Value} {as' : List Nat} (hsz : 179 ≤ ssz) (hfz : 60 ≤ fsz) (hC : CsI I cs cf K w pc gas s) (hE : EnvI I cs K) (hM : MemO (cf 9) mem M) (hMG : ∀ x ∈ M, x ∈ G) (hA : StkI I av as') (hlen : as'.length < 100) :
    CallG Hvaf.prog 162 #[ptr sb 0, ptr fb 0, .int .u8 (68 : Nat), av] ⟨I, ⟨sb, ssz, Ts, cs⟩ :: ⟨fb, fsz, Tf, cf⟩ :: G⟩ fun r S' => S'.G = ⟨sb, ssz, Ts, cs⟩ :: ⟨fb, fsz, Tf, cf⟩ :: G ∧ NatI S'.I r (bev (List.replicate 32 0)) := by
  have hf : ∀ S, CallG Hvaf.prog 75 #[.int .u8 (68 : Nat)] S fun r S' => S = S' ∧ r = .int .u8 (2 : Nat) := fun S => Family_spec (S := S) (o := 68) (by decide)
  refine CallG.start (C := mkC Hvaf.prog) cok (args := [ptr sb 0, ptr fb 0, .int .u8 ((68 : Nat) : Int), av]) Hvaf.func162 rfl Hvaf.ntmps162 (by simp) (by kernel_rfl) ?_
  repeat (first | refine SeqS.go cok ?_)
  refine (yOperand (i := 0) hA (by omega) (by decide)).mono ?_
  rintro v _ - ⟨rfl, hv⟩
  repeat (first | refine SeqS.go cok ?_)
  refine (yOperand (i := 1) hA (by omega) (by decide)).mono ?_
  rintro u _ - ⟨rfl, hu⟩
  repeat (first | refine SeqS.go cok ?_ | refine CondS.f rfl ?_)
  refine (hf _).mono ?_
  rintro r _ - ⟨rfl, rfl⟩
  repeat (first | refine SeqS.go cok ?_ | refine GuardS.yes rfl ?_ | refine GuardS.no rfl ?_ | refine CondS.t rfl ?_ | refine CondS.f rfl ?_)
  refine callN (yBlk68 (a := 0) hsz hE) fun x J hs hx => ?_
  repeat (first | refine SeqS.go cok ?_)
  exact Fin.same ⟨rfl, hx⟩
theorem yVal69 {I : Ent → Prop} {G : List Ent} {sb ssz fb fsz pc gas : Nat} {Ts Tf : TypeId} {cs cf : Nat → Value} {K : YK} {w : YW} {s mem : List Nat} {M : List Ent} {av : Value} {as' : List Nat} (hsz : 179 ≤ ssz) (hfz : 60 ≤ fsz) (hC : CsI I cs cf K w pc gas s) (hE : EnvI I cs K) (hM : MemO (cf 9) mem M) (hMG : ∀ x ∈ M, x ∈ G) (hA : StkI I av as') (hlen : as'.length < 100) :
    CallG Hvaf.prog 162 #[ptr sb 0, ptr fb 0, .int .u8 (69 : Nat), av] ⟨I, ⟨sb, ssz, Ts, cs⟩ :: ⟨fb, fsz, Tf, cf⟩ :: G⟩ fun r S' => S'.G = ⟨sb, ssz, Ts, cs⟩ :: ⟨fb, fsz, Tf, cf⟩ :: G ∧ NatI S'.I r (1048576) := by
  have hf : ∀ S, CallG Hvaf.prog 75 #[.int .u8 (69 : Nat)] S fun r S' => S = S' ∧ r = .int .u8 (2 : Nat) := fun S => Family_spec (S := S) (o := 69) (by decide)
  refine CallG.start (C := mkC Hvaf.prog) cok (args := [ptr sb 0, ptr fb 0, .int .u8 ((69 : Nat) : Int), av]) Hvaf.func162 rfl Hvaf.ntmps162 (by simp) (by kernel_rfl) ?_
  repeat (first | refine SeqS.go cok ?_)
  refine (yOperand (i := 0) hA (by omega) (by decide)).mono ?_
  rintro v _ - ⟨rfl, hv⟩
  repeat (first | refine SeqS.go cok ?_)
  refine (yOperand (i := 1) hA (by omega) (by decide)).mono ?_
  rintro u _ - ⟨rfl, hu⟩
  repeat (first | refine SeqS.go cok ?_ | refine CondS.f rfl ?_)
  refine (hf _).mono ?_
  rintro r _ - ⟨rfl, rfl⟩
  repeat (first | refine SeqS.go cok ?_ | refine GuardS.yes rfl ?_ | refine GuardS.no rfl ?_ | refine CondS.t rfl ?_ | refine CondS.f rfl ?_)
  refine callN (yBlk69 (a := 0) hsz hE) fun x J hs hx => ?_
  repeat (first | refine SeqS.go cok ?_)
  exact Fin.same ⟨rfl, hx⟩
theorem yVal70 {I : Ent → Prop} {G : List Ent} {sb ssz fb fsz pc gas : Nat} {Ts Tf : TypeId} {cs cf : Nat → Value} {K : YK} {w : YW} {s mem : List Nat} {M : List Ent} {av : Value} {as' : List Nat} (hsz : 179 ≤ ssz) (hfz : 60 ≤ fsz) (hC : CsI I cs cf K w pc gas s) (hE : EnvI I cs K) (hM : MemO (cf 9) mem M) (hMG : ∀ x ∈ M, x ∈ G) (hA : StkI I av as') (hlen : as'.length < 100) :
    CallG Hvaf.prog 162 #[ptr sb 0, ptr fb 0, .int .u8 (70 : Nat), av] ⟨I, ⟨sb, ssz, Ts, cs⟩ :: ⟨fb, fsz, Tf, cf⟩ :: G⟩ fun r S' => S'.G = ⟨sb, ssz, Ts, cs⟩ :: ⟨fb, fsz, Tf, cf⟩ :: G ∧ NatI S'.I r (bev (List.replicate 32 0)) := by
  have hf : ∀ S, CallG Hvaf.prog 75 #[.int .u8 (70 : Nat)] S fun r S' => S = S' ∧ r = .int .u8 (2 : Nat) := fun S => Family_spec (S := S) (o := 70) (by decide)
  refine CallG.start (C := mkC Hvaf.prog) cok (args := [ptr sb 0, ptr fb 0, .int .u8 ((70 : Nat) : Int), av]) Hvaf.func162 rfl Hvaf.ntmps162 (by simp) (by kernel_rfl) ?_
  repeat (first | refine SeqS.go cok ?_)
  refine (yOperand (i := 0) hA (by omega) (by decide)).mono ?_
  rintro v _ - ⟨rfl, hv⟩
  repeat (first | refine SeqS.go cok ?_)
  refine (yOperand (i := 1) hA (by omega) (by decide)).mono ?_
  rintro u _ - ⟨rfl, hu⟩
  repeat (first | refine SeqS.go cok ?_ | refine CondS.f rfl ?_)
  refine (hf _).mono ?_
  rintro r _ - ⟨rfl, rfl⟩
  repeat (first | refine SeqS.go cok ?_ | refine GuardS.yes rfl ?_ | refine GuardS.no rfl ?_ | refine CondS.t rfl ?_ | refine CondS.f rfl ?_)
  refine callN (yBlk70 (a := 0) hsz hE) fun x J hs hx => ?_
  repeat (first | refine SeqS.go cok ?_)
  exact Fin.same ⟨rfl, hx⟩
theorem yVal72 {I : Ent → Prop} {G : List Ent} {sb ssz fb fsz pc gas : Nat} {Ts Tf : TypeId} {cs cf : Nat → Value} {K : YK} {w : YW} {s mem : List Nat} {M : List Ent} {av : Value} {as' : List Nat} (hsz : 179 ≤ ssz) (hfz : 60 ≤ fsz) (hC : CsI I cs cf K w pc gas s) (hE : EnvI I cs K) (hM : MemO (cf 9) mem M) (hMG : ∀ x ∈ M, x ∈ G) (hA : StkI I av as') (hlen : as'.length < 100) :
    CallG Hvaf.prog 162 #[ptr sb 0, ptr fb 0, .int .u8 (72 : Nat), av] ⟨I, ⟨sb, ssz, Ts, cs⟩ :: ⟨fb, fsz, Tf, cf⟩ :: G⟩ fun r S' => S'.G = ⟨sb, ssz, Ts, cs⟩ :: ⟨fb, fsz, Tf, cf⟩ :: G ∧ NatI S'.I r (bev (List.replicate 32 0)) := by
  have hf : ∀ S, CallG Hvaf.prog 75 #[.int .u8 (72 : Nat)] S fun r S' => S = S' ∧ r = .int .u8 (2 : Nat) := fun S => Family_spec (S := S) (o := 72) (by decide)
  refine CallG.start (C := mkC Hvaf.prog) cok (args := [ptr sb 0, ptr fb 0, .int .u8 ((72 : Nat) : Int), av]) Hvaf.func162 rfl Hvaf.ntmps162 (by simp) (by kernel_rfl) ?_
  repeat (first | refine SeqS.go cok ?_)
  refine (yOperand (i := 0) hA (by omega) (by decide)).mono ?_
  rintro v _ - ⟨rfl, hv⟩
  repeat (first | refine SeqS.go cok ?_)
  refine (yOperand (i := 1) hA (by omega) (by decide)).mono ?_
  rintro u _ - ⟨rfl, hu⟩
  repeat (first | refine SeqS.go cok ?_ | refine CondS.f rfl ?_)
  refine (hf _).mono ?_
  rintro r _ - ⟨rfl, rfl⟩
  repeat (first | refine SeqS.go cok ?_ | refine GuardS.yes rfl ?_ | refine GuardS.no rfl ?_ | refine CondS.t rfl ?_ | refine CondS.f rfl ?_)
  refine callN (yBlk72 (a := 0) hsz hE) fun x J hs hx => ?_
  repeat (first | refine SeqS.go cok ?_)
  exact Fin.same ⟨rfl, hx⟩
theorem yVal49 {I : Ent → Prop} {G : List Ent} {sb ssz fb fsz pc gas : Nat} {Ts Tf : TypeId} {cs cf : Nat → Value} {K : YK} {w : YW} {s mem : List Nat} {M : List Ent} {av : Value} {as' : List Nat} (hsz : 179 ≤ ssz) (hfz : 60 ≤ fsz) (hC : CsI I cs cf K w pc gas s) (hE : EnvI I cs K) (hM : MemO (cf 9) mem M) (hMG : ∀ x ∈ M, x ∈ G) (hA : StkI I av as') (hlen : as'.length < 100) :
    CallG Hvaf.prog 162 #[ptr sb 0, ptr fb 0, .int .u8 (49 : Nat), av] ⟨I, ⟨sb, ssz, Ts, cs⟩ :: ⟨fb, fsz, Tf, cf⟩ :: G⟩ fun r S' => ∃ J w1, S' = ⟨J, ⟨sb, ssz, Ts, upd cs 1 w1⟩ :: ⟨fb, fsz, Tf, cf⟩ :: G⟩ ∧ RowI J 20 w1 ((withA (adN (as'.getD 0 0)) w.wa).map bvs) ∧ NatI J r ((getA w.al (adN (as'.getD 0 0))).bal) := by
  have hf : ∀ S, CallG Hvaf.prog 75 #[.int .u8 (49 : Nat)] S fun r S' => S = S' ∧ r = .int .u8 (2 : Nat) := fun S => Family_spec (S := S) (o := 49) (by decide)
  refine CallG.start (C := mkC Hvaf.prog) cok (args := [ptr sb 0, ptr fb 0, .int .u8 ((49 : Nat) : Int), av]) Hvaf.func162 rfl Hvaf.ntmps162 (by simp) (by kernel_rfl) ?_
  repeat (first | refine SeqS.go cok ?_)
  refine (yOperand (i := 0) hA (by omega) (by decide)).mono ?_
  rintro v _ - ⟨rfl, hv⟩
  repeat (first | refine SeqS.go cok ?_)
  refine (yOperand (i := 1) hA (by omega) (by decide)).mono ?_
  rintro u _ - ⟨rfl, hu⟩
  repeat (first | refine SeqS.go cok ?_ | refine CondS.f rfl ?_)
  refine (hf _).mono ?_
  rintro r _ - ⟨rfl, rfl⟩
  repeat (first | refine SeqS.go cok ?_ | refine GuardS.no rfl ?_ | refine CondS.t rfl ?_ | refine CondS.f rfl ?_)
  repeat (first | refine W.drawI 16 cok [0, 1, 3, 0, 8, 31] [0, 1, 2, 3, 4, 5] [] (by kernel_rfl) (by kernel_rfl) ?_)
  refine (yAddrOf hv).mono ?_
  rintro r _ - ⟨rfl, rfl⟩
  repeat (first | (refine still_in ?_; first | refine still_nil ?_))
  refine (yWarm (wb := sb) (sz := ssz) (T := Ts) (c := cs) (by omega) hC.W.wrm (adN_ok _) hC.W.wok (by have := hC.B.wa; omega)).mono ?_
  rintro r _ hs1 ⟨J1, w1, rfl, hw1⟩
  replace hs1 : HL.Sub I J1 := hs1
  repeat (first | refine SeqS.go cok ?_ | refine W.drawI 17 cok [0, 1, 3, 0, 8, 31, 0, 127, 255] [0, 1, 2, 3, 6, 4, 5, 7, 8] [] (by kernel_rfl) (by kernel_rfl) ?_)
  refine (yAddrOf (hv.up hs1)).mono ?_
  rintro r _ - ⟨rfl, rfl⟩
  repeat (first | (refine still_in ?_; first | refine still_nil ?_))
  refine (yAccount (wb := sb) (T := Ts) (G := ⟨fb, fsz, Tf, cf⟩ :: G) (sz := ssz) (c := upd cs 1 w1) (by omega) (hC.W.acc.up hs1) (adN_ok _) (by have := hC.B.al; omega)).mono ?_
  rintro x _ - ⟨rfl, l, rfl, hl⟩
  repeat (first | (refine still_in ?_; first | refine still_nil ?_))
  refine callN (yAccV49 hl) fun x J hs hx => ?_
  repeat (first | refine SeqS.go cok ?_)
  exact Fin.same ⟨J, w1, rfl, hw1.up hs, hx⟩
theorem yVal59 {I : Ent → Prop} {G : List Ent} {sb ssz fb fsz pc gas : Nat} {Ts Tf : TypeId} {cs cf : Nat → Value} {K : YK} {w : YW} {s mem : List Nat} {M : List Ent} {av : Value} {as' : List Nat} (hsz : 179 ≤ ssz) (hfz : 60 ≤ fsz) (hC : CsI I cs cf K w pc gas s) (hE : EnvI I cs K) (hM : MemO (cf 9) mem M) (hMG : ∀ x ∈ M, x ∈ G) (hA : StkI I av as') (hlen : as'.length < 100) (hcl : (getA w.al (adN (as'.getD 0 0))).code.length < 2 ^ 30) :
    CallG Hvaf.prog 162 #[ptr sb 0, ptr fb 0, .int .u8 (59 : Nat), av] ⟨I, ⟨sb, ssz, Ts, cs⟩ :: ⟨fb, fsz, Tf, cf⟩ :: G⟩ fun r S' => ∃ J w1, S' = ⟨J, ⟨sb, ssz, Ts, upd cs 1 w1⟩ :: ⟨fb, fsz, Tf, cf⟩ :: G⟩ ∧ RowI J 20 w1 ((withA (adN (as'.getD 0 0)) w.wa).map bvs) ∧ NatI J r ((getA w.al (adN (as'.getD 0 0))).code.length) := by
  have hf : ∀ S, CallG Hvaf.prog 75 #[.int .u8 (59 : Nat)] S fun r S' => S = S' ∧ r = .int .u8 (2 : Nat) := fun S => Family_spec (S := S) (o := 59) (by decide)
  refine CallG.start (C := mkC Hvaf.prog) cok (args := [ptr sb 0, ptr fb 0, .int .u8 ((59 : Nat) : Int), av]) Hvaf.func162 rfl Hvaf.ntmps162 (by simp) (by kernel_rfl) ?_
  repeat (first | refine SeqS.go cok ?_)
  refine (yOperand (i := 0) hA (by omega) (by decide)).mono ?_
  rintro v _ - ⟨rfl, hv⟩
  repeat (first | refine SeqS.go cok ?_)
  refine (yOperand (i := 1) hA (by omega) (by decide)).mono ?_
  rintro u _ - ⟨rfl, hu⟩
  repeat (first | refine SeqS.go cok ?_ | refine CondS.f rfl ?_)
  refine (hf _).mono ?_
  rintro r _ - ⟨rfl, rfl⟩
  repeat (first | refine SeqS.go cok ?_ | refine GuardS.no rfl ?_ | refine CondS.t rfl ?_ | refine CondS.f rfl ?_)
  repeat (first | refine W.drawI 16 cok [0, 1, 3, 0, 8, 31] [0, 1, 2, 3, 4, 5] [] (by kernel_rfl) (by kernel_rfl) ?_)
  refine (yAddrOf hv).mono ?_
  rintro r _ - ⟨rfl, rfl⟩
  repeat (first | (refine still_in ?_; first | refine still_nil ?_))
  refine (yWarm (wb := sb) (sz := ssz) (T := Ts) (c := cs) (by omega) hC.W.wrm (adN_ok _) hC.W.wok (by have := hC.B.wa; omega)).mono ?_
  rintro r _ hs1 ⟨J1, w1, rfl, hw1⟩
  replace hs1 : HL.Sub I J1 := hs1
  repeat (first | refine SeqS.go cok ?_ | refine W.drawI 17 cok [0, 1, 3, 0, 8, 31, 0, 127, 255] [0, 1, 2, 3, 6, 4, 5, 7, 8] [] (by kernel_rfl) (by kernel_rfl) ?_)
  refine (yAddrOf (hv.up hs1)).mono ?_
  rintro r _ - ⟨rfl, rfl⟩
  repeat (first | (refine still_in ?_; first | refine still_nil ?_))
  refine (yAccount (wb := sb) (T := Ts) (G := ⟨fb, fsz, Tf, cf⟩ :: G) (sz := ssz) (c := upd cs 1 w1) (by omega) (hC.W.acc.up hs1) (adN_ok _) (by have := hC.B.al; omega)).mono ?_
  rintro x _ - ⟨rfl, l, rfl, hl⟩
  repeat (first | (refine still_in ?_; first | refine still_nil ?_))
  refine callN (yAccV59 hl hcl) fun x J hs hx => ?_
  repeat (first | refine SeqS.go cok ?_)
  exact Fin.same ⟨J, w1, rfl, hw1.up hs, hx⟩
theorem yVal63e {I : Ent → Prop} {G : List Ent} {sb ssz fb fsz pc gas : Nat} {Ts Tf : TypeId} {cs cf : Nat → Value} {K : YK} {w : YW} {s mem : List Nat} {M : List Ent} {av : Value} {as' : List Nat} (hsz : 179 ≤ ssz) (hfz : 60 ≤ fsz) (hC : CsI I cs cf K w pc gas s) (hE : EnvI I cs K) (hM : MemO (cf 9) mem M) (hMG : ∀ x ∈ M, x ∈ G) (hA : StkI I av as') (hlen : as'.length < 100) {kec : List Nat → List Nat} (hK : KecOk kec) (hcl : (getA w.al (adN (as'.getD 0 0))).code.length < 2 ^ 30) (hem : emptyA (getA w.al (adN (as'.getD 0 0))) = true) :
    CallG Hvaf.prog 162 #[ptr sb 0, ptr fb 0, .int .u8 (63 : Nat), av] ⟨I, ⟨sb, ssz, Ts, cs⟩ :: ⟨fb, fsz, Tf, cf⟩ :: G⟩ fun r S' => ∃ J w1, S' = ⟨J, ⟨sb, ssz, Ts, upd cs 1 w1⟩ :: ⟨fb, fsz, Tf, cf⟩ :: G⟩ ∧ RowI J 20 w1 ((withA (adN (as'.getD 0 0)) w.wa).map bvs) ∧ NatI J r (0) := by
  have hf : ∀ S, CallG Hvaf.prog 75 #[.int .u8 (63 : Nat)] S fun r S' => S = S' ∧ r = .int .u8 (2 : Nat) := fun S => Family_spec (S := S) (o := 63) (by decide)
  refine CallG.start (C := mkC Hvaf.prog) cok (args := [ptr sb 0, ptr fb 0, .int .u8 ((63 : Nat) : Int), av]) Hvaf.func162 rfl Hvaf.ntmps162 (by simp) (by kernel_rfl) ?_
  repeat (first | refine SeqS.go cok ?_)
  refine (yOperand (i := 0) hA (by omega) (by decide)).mono ?_
  rintro v _ - ⟨rfl, hv⟩
  repeat (first | refine SeqS.go cok ?_)
  refine (yOperand (i := 1) hA (by omega) (by decide)).mono ?_
  rintro u _ - ⟨rfl, hu⟩
  repeat (first | refine SeqS.go cok ?_ | refine CondS.f rfl ?_)
  refine (hf _).mono ?_
  rintro r _ - ⟨rfl, rfl⟩
  repeat (first | refine SeqS.go cok ?_ | refine GuardS.no rfl ?_ | refine CondS.t rfl ?_ | refine CondS.f rfl ?_)
  repeat (first | refine W.drawI 16 cok [0, 1, 3, 0, 8, 31] [0, 1, 2, 3, 4, 5] [] (by kernel_rfl) (by kernel_rfl) ?_)
  refine (yAddrOf hv).mono ?_
  rintro r _ - ⟨rfl, rfl⟩
  repeat (first | (refine still_in ?_; first | refine still_nil ?_))
  refine (yWarm (wb := sb) (sz := ssz) (T := Ts) (c := cs) (by omega) hC.W.wrm (adN_ok _) hC.W.wok (by have := hC.B.wa; omega)).mono ?_
  rintro r _ hs1 ⟨J1, w1, rfl, hw1⟩
  replace hs1 : HL.Sub I J1 := hs1
  repeat (first | refine SeqS.go cok ?_ | refine W.drawI 17 cok [0, 1, 3, 0, 8, 31, 0, 127, 255] [0, 1, 2, 3, 6, 4, 5, 7, 8] [] (by kernel_rfl) (by kernel_rfl) ?_)
  refine (yAddrOf (hv.up hs1)).mono ?_
  rintro r _ - ⟨rfl, rfl⟩
  repeat (first | (refine still_in ?_; first | refine still_nil ?_))
  refine (yAccount (wb := sb) (T := Ts) (G := ⟨fb, fsz, Tf, cf⟩ :: G) (sz := ssz) (c := upd cs 1 w1) (by omega) (hC.W.acc.up hs1) (adN_ok _) (by have := hC.B.al; omega)).mono ?_
  rintro x _ - ⟨rfl, l, rfl, hl⟩
  repeat (first | (refine still_in ?_; first | refine still_nil ?_))
  refine callN (yAccV63e hK hl hcl hem) fun x J hs hx => ?_
  repeat (first | refine SeqS.go cok ?_)
  exact Fin.same ⟨J, w1, rfl, hw1.up hs, hx⟩
theorem yVal63n {I : Ent → Prop} {G : List Ent} {sb ssz fb fsz pc gas : Nat} {Ts Tf : TypeId} {cs cf : Nat → Value} {K : YK} {w : YW} {s mem : List Nat} {M : List Ent} {av : Value} {as' : List Nat} (hsz : 179 ≤ ssz) (hfz : 60 ≤ fsz) (hC : CsI I cs cf K w pc gas s) (hE : EnvI I cs K) (hM : MemO (cf 9) mem M) (hMG : ∀ x ∈ M, x ∈ G) (hA : StkI I av as') (hlen : as'.length < 100) {kec : List Nat → List Nat} (hK : KecOk kec) (hcl : (getA w.al (adN (as'.getD 0 0))).code.length < 2 ^ 30) (hem : emptyA (getA w.al (adN (as'.getD 0 0))) = false) :
    CallG Hvaf.prog 162 #[ptr sb 0, ptr fb 0, .int .u8 (63 : Nat), av] ⟨I, ⟨sb, ssz, Ts, cs⟩ :: ⟨fb, fsz, Tf, cf⟩ :: G⟩ fun r S' => ∃ J w1, S' = ⟨J, ⟨sb, ssz, Ts, upd cs 1 w1⟩ :: ⟨fb, fsz, Tf, cf⟩ :: G⟩ ∧ RowI J 20 w1 ((withA (adN (as'.getD 0 0)) w.wa).map bvs) ∧ NatI J r (bev (kec (getA w.al (adN (as'.getD 0 0))).code)) := by
  have hf : ∀ S, CallG Hvaf.prog 75 #[.int .u8 (63 : Nat)] S fun r S' => S = S' ∧ r = .int .u8 (2 : Nat) := fun S => Family_spec (S := S) (o := 63) (by decide)
  refine CallG.start (C := mkC Hvaf.prog) cok (args := [ptr sb 0, ptr fb 0, .int .u8 ((63 : Nat) : Int), av]) Hvaf.func162 rfl Hvaf.ntmps162 (by simp) (by kernel_rfl) ?_
  repeat (first | refine SeqS.go cok ?_)
  refine (yOperand (i := 0) hA (by omega) (by decide)).mono ?_
  rintro v _ - ⟨rfl, hv⟩
  repeat (first | refine SeqS.go cok ?_)
  refine (yOperand (i := 1) hA (by omega) (by decide)).mono ?_
  rintro u _ - ⟨rfl, hu⟩
  repeat (first | refine SeqS.go cok ?_ | refine CondS.f rfl ?_)
  refine (hf _).mono ?_
  rintro r _ - ⟨rfl, rfl⟩
  repeat (first | refine SeqS.go cok ?_ | refine GuardS.no rfl ?_ | refine CondS.t rfl ?_ | refine CondS.f rfl ?_)
  repeat (first | refine W.drawI 16 cok [0, 1, 3, 0, 8, 31] [0, 1, 2, 3, 4, 5] [] (by kernel_rfl) (by kernel_rfl) ?_)
  refine (yAddrOf hv).mono ?_
  rintro r _ - ⟨rfl, rfl⟩
  repeat (first | (refine still_in ?_; first | refine still_nil ?_))
  refine (yWarm (wb := sb) (sz := ssz) (T := Ts) (c := cs) (by omega) hC.W.wrm (adN_ok _) hC.W.wok (by have := hC.B.wa; omega)).mono ?_
  rintro r _ hs1 ⟨J1, w1, rfl, hw1⟩
  replace hs1 : HL.Sub I J1 := hs1
  repeat (first | refine SeqS.go cok ?_ | refine W.drawI 17 cok [0, 1, 3, 0, 8, 31, 0, 127, 255] [0, 1, 2, 3, 6, 4, 5, 7, 8] [] (by kernel_rfl) (by kernel_rfl) ?_)
  refine (yAddrOf (hv.up hs1)).mono ?_
  rintro r _ - ⟨rfl, rfl⟩
  repeat (first | (refine still_in ?_; first | refine still_nil ?_))
  refine (yAccount (wb := sb) (T := Ts) (G := ⟨fb, fsz, Tf, cf⟩ :: G) (sz := ssz) (c := upd cs 1 w1) (by omega) (hC.W.acc.up hs1) (adN_ok _) (by have := hC.B.al; omega)).mono ?_
  rintro x _ - ⟨rfl, l, rfl, hl⟩
  repeat (first | (refine still_in ?_; first | refine still_nil ?_))
  refine callN (yAccV63n hK hl hcl hem) fun x J hs hx => ?_
  repeat (first | refine SeqS.go cok ?_)
  exact Fin.same ⟨J, w1, rfl, hw1.up hs, hx⟩
end Go.Proofs.YgvafwGreat
