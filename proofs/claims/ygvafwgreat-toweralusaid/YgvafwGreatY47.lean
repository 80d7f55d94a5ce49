import Derived.Test.YgvafwGreatY46
set_option exponentiation.threshold 1000
set_option maxRecDepth 100000
set_option maxHeartbeats 4000000
set_option linter.unusedVariables false
set_option linter.unusedSimpArgs false
-- v2
-- v4
-- v5
-- v6
-- v7
namespace Go.Proofs.YgvafwGreat
open Go.HL Go.Proofs

theorem yBlk64 {I : Ent → Prop} {G : List Ent} {sb ssz : Nat} {Ts : TypeId} {cs : Nat → Value} {K : YK} {av : Value} {a : Nat} (hsz : 179 ≤ ssz) (hE : EnvI I cs K) (hv : NatI I av a) (hva : a + 1 < NB) :
    CallG Hvaf.prog 240 #[ptr sb 0, .int .u8 (64 : Nat), av] ⟨I, ⟨sb, ssz, Ts, cs⟩ :: G⟩ fun r S' => S'.G = ⟨sb, ssz, Ts, cs⟩ :: G ∧ NatI S'.I r (0) := by
  have hn := hE.num
  refine CallG.start (C := mkC Hvaf.prog) cok (args := [ptr sb 0, .int .u8 ((64 : Nat) : Int), av]) Hvaf.func240 rfl Hvaf.ntmps240 (by simp) (by kernel_rfl) ?_
  repeat (first | (refine QuG.keep ?_; first | refine QuG.l1E cok 0 rfl rfl rfl rfl rfl (by first | exact Nat.le_of_ble_eq_true rfl | omega | (dsimp only; omega) | (simp only [addS_eq, mulS_eq]; omega)) (by assumption) ?_) | refine SeqS.go cok ?_ | refine CondS.t rfl ?_)
  refine callN (yNum (n := 0) (by decide)) fun y J1 hs1 hy => ?_
  skip
  refine callN (yNum (n := 1) (by decide)) fun z J2 hs2 hz => ?_
  skip
  refine callN (nAdd ((hv.up hs1).up hs2) hz hva) fun q J3 hs3 hq => ?_
  skip
  have hsub := nSub (G := ⟨sb, ssz, Ts, cs⟩ :: G) ((hy.up hs2).up hs3) hq
  rw [decide_eq_false (by omega)] at hsub
  refine callS hsub fun w J4 hs4 hw => ?_
  repeat (first | refine SeqS.go cok ?_ | refine CondS.t rfl ?_)
  exact Fin.same ⟨rfl, NatI.zero _⟩
theorem yBlk65 {I : Ent → Prop} {G : List Ent} {sb ssz : Nat} {Ts : TypeId} {cs : Nat → Value} {K : YK} {av : Value} {a : Nat} (hsz : 179 ≤ ssz) (hE : EnvI I cs K) :
    CallG Hvaf.prog 240 #[ptr sb 0, .int .u8 (65 : Nat), av] ⟨I, ⟨sb, ssz, Ts, cs⟩ :: G⟩ fun r S' => S'.G = ⟨sb, ssz, Ts, cs⟩ :: G ∧ NatI S'.I r (bev (adNo 192)) := by
  have hby : Byt ⟨I, ⟨sb, ssz, Ts, cs⟩ :: G⟩ (.slice (some ⟨sb, 59, none⟩) 20 20) (adNo 192) := row_byt (x := ⟨sb, ssz, Ts, cs⟩) hE.coin (.inr (by simp)) (by decide) (by decide) (by decide) (by show 59 + 20 ≤ ssz; omega)
  refine CallG.start (C := mkC Hvaf.prog) cok (args := [ptr sb 0, .int .u8 ((65 : Nat) : Int), av]) Hvaf.func240 rfl Hvaf.ntmps240 (by simp) (by kernel_rfl) ?_
  repeat (first | refine SeqS.go cok ?_ | refine CondS.t rfl ?_ | refine CondS.f rfl ?_ | refine And.intro (Eq.refl true) ?_ | (refine ValS.keep ?_; first | with_reducible refine ValS.sl0 ?_))
  refine callN (FromBE_byt hby (bev_NB (by decide) (by decide))) fun x J hs hx => ?_
  repeat (first | refine SeqS.go cok ?_)
  exact Fin.same ⟨rfl, hx⟩
theorem yBlk68 {I : Ent → Prop} {G : List Ent} {sb ssz : Nat} {Ts : TypeId} {cs : Nat → Value} {K : YK} {av : Value} {a : Nat} (hsz : 179 ≤ ssz) (hE : EnvI I cs K) :
    CallG Hvaf.prog 240 #[ptr sb 0, .int .u8 (68 : Nat), av] ⟨I, ⟨sb, ssz, Ts, cs⟩ :: G⟩ fun r S' => S'.G = ⟨sb, ssz, Ts, cs⟩ :: G ∧ NatI S'.I r (bev (List.replicate 32 0)) := by
  have hby : Byt ⟨I, ⟨sb, ssz, Ts, cs⟩ :: G⟩ (.slice (some ⟨sb, 82, none⟩) 32 32) (List.replicate 32 0) := row_byt (x := ⟨sb, ssz, Ts, cs⟩) hE.rand (.inr (by simp)) (by decide) (by decide) (by decide) (by show 82 + 32 ≤ ssz; omega)
  refine CallG.start (C := mkC Hvaf.prog) cok (args := [ptr sb 0, .int .u8 ((68 : Nat) : Int), av]) Hvaf.func240 rfl Hvaf.ntmps240 (by simp) (by kernel_rfl) ?_
  repeat (first | refine SeqS.go cok ?_ | refine CondS.t rfl ?_ | refine CondS.f rfl ?_ | refine And.intro (Eq.refl true) ?_ | (refine ValS.keep ?_; first | with_reducible refine ValS.sl0 ?_))
  refine callN (FromBE_byt hby (bev_NB (by decide) (by decide))) fun x J hs hx => ?_
  repeat (first | refine SeqS.go cok ?_)
  exact Fin.same ⟨rfl, hx⟩
theorem yBlk70 {I : Ent → Prop} {G : List Ent} {sb ssz : Nat} {Ts : TypeId} {cs : Nat → Value} {K : YK} {av : Value} {a : Nat} (hsz : 179 ≤ ssz) (hE : EnvI I cs K) :
    CallG Hvaf.prog 240 #[ptr sb 0, .int .u8 (70 : Nat), av] ⟨I, ⟨sb, ssz, Ts, cs⟩ :: G⟩ fun r S' => S'.G = ⟨sb, ssz, Ts, cs⟩ :: G ∧ NatI S'.I r (bev (List.replicate 32 0)) := by
  have hby : Byt ⟨I, ⟨sb, ssz, Ts, cs⟩ :: G⟩ (.slice (some ⟨sb, 114, none⟩) 32 32) (List.replicate 32 0) := row_byt (x := ⟨sb, ssz, Ts, cs⟩) hE.chain (.inr (by simp)) (by decide) (by decide) (by decide) (by show 114 + 32 ≤ ssz; omega)
  refine CallG.start (C := mkC Hvaf.prog) cok (args := [ptr sb 0, .int .u8 ((70 : Nat) : Int), av]) Hvaf.func240 rfl Hvaf.ntmps240 (by simp) (by kernel_rfl) ?_
  repeat (first | refine SeqS.go cok ?_ | refine CondS.f rfl ?_ | refine And.intro (Eq.refl true) ?_ | (refine ValS.keep ?_; first | with_reducible refine ValS.sl0 ?_))
  refine callN (FromBE_byt hby (bev_NB (by decide) (by decide))) fun x J hs hx => ?_
  repeat (first | refine SeqS.go cok ?_)
  exact Fin.same ⟨rfl, hx⟩
theorem yBlk66 {I : Ent → Prop} {G : List Ent} {sb ssz : Nat} {Ts : TypeId} {cs : Nat → Value} {K : YK} {av : Value} {a : Nat} (hsz : 179 ≤ ssz) (hE : EnvI I cs K) :
    CallG Hvaf.prog 240 #[ptr sb 0, .int .u8 (66 : Nat), av] ⟨I, ⟨sb, ssz, Ts, cs⟩ :: G⟩ fun r S' => S'.G = ⟨sb, ssz, Ts, cs⟩ :: G ∧ NatI S'.I r (0) := by
  have hn := hE.time
  refine CallG.start (C := mkC Hvaf.prog) cok (args := [ptr sb 0, .int .u8 ((66 : Nat) : Int), av]) Hvaf.func240 rfl Hvaf.ntmps240 (by simp) (by kernel_rfl) ?_
  repeat (first | (refine QuG.keep ?_; first | refine QuG.l1E cok 0 rfl rfl rfl rfl rfl (by first | exact Nat.le_of_ble_eq_true rfl | omega | (dsimp only; omega) | (simp only [addS_eq, mulS_eq]; omega)) (by assumption) ?_) | refine SeqS.go cok ?_ | refine CondS.t rfl ?_ | refine CondS.f rfl ?_)
  refine callN (yNum (n := 0) (by decide)) fun x J hs hx => ?_
  repeat (first | refine SeqS.go cok ?_)
  exact Fin.same ⟨rfl, hx⟩
theorem yBlk67 {I : Ent → Prop} {G : List Ent} {sb ssz : Nat} {Ts : TypeId} {cs : Nat → Value} {K : YK} {av : Value} {a : Nat} (hsz : 179 ≤ ssz) (hE : EnvI I cs K) :
    CallG Hvaf.prog 240 #[ptr sb 0, .int .u8 (67 : Nat), av] ⟨I, ⟨sb, ssz, Ts, cs⟩ :: G⟩ fun r S' => S'.G = ⟨sb, ssz, Ts, cs⟩ :: G ∧ NatI S'.I r (0) := by
  have hn := hE.num
  refine CallG.start (C := mkC Hvaf.prog) cok (args := [ptr sb 0, .int .u8 ((67 : Nat) : Int), av]) Hvaf.func240 rfl Hvaf.ntmps240 (by simp) (by kernel_rfl) ?_
  repeat (first | (refine QuG.keep ?_; first | refine QuG.l1E cok 0 rfl rfl rfl rfl rfl (by first | exact Nat.le_of_ble_eq_true rfl | omega | (dsimp only; omega) | (simp only [addS_eq, mulS_eq]; omega)) (by assumption) ?_) | refine SeqS.go cok ?_ | refine CondS.t rfl ?_ | refine CondS.f rfl ?_)
  refine callN (yNum (n := 0) (by decide)) fun x J hs hx => ?_
  repeat (first | refine SeqS.go cok ?_)
  exact Fin.same ⟨rfl, hx⟩
theorem yBlk69 {I : Ent → Prop} {G : List Ent} {sb ssz : Nat} {Ts : TypeId} {cs : Nat → Value} {K : YK} {av : Value} {a : Nat} (hsz : 179 ≤ ssz) (hE : EnvI I cs K) :
    CallG Hvaf.prog 240 #[ptr sb 0, .int .u8 (69 : Nat), av] ⟨I, ⟨sb, ssz, Ts, cs⟩ :: G⟩ fun r S' => S'.G = ⟨sb, ssz, Ts, cs⟩ :: G ∧ NatI S'.I r (1048576) := by
  have hn := hE.glim
  refine CallG.start (C := mkC Hvaf.prog) cok (args := [ptr sb 0, .int .u8 ((69 : Nat) : Int), av]) Hvaf.func240 rfl Hvaf.ntmps240 (by simp) (by kernel_rfl) ?_
  repeat (first | (refine QuG.keep ?_; first | refine QuG.l1E cok 0 rfl rfl rfl rfl rfl (by first | exact Nat.le_of_ble_eq_true rfl | omega | (dsimp only; omega) | (simp only [addS_eq, mulS_eq]; omega)) (by assumption) ?_) | refine SeqS.go cok ?_ | refine CondS.t rfl ?_ | refine CondS.f rfl ?_)
  refine callN (yNum (n := 1048576) (by decide)) fun x J hs hx => ?_
  repeat (first | refine SeqS.go cok ?_)
  exact Fin.same ⟨rfl, hx⟩
theorem yBaseFee {I : Ent → Prop} {G : List Ent} {sb ssz : Nat} {Ts : TypeId} {cs : Nat → Value} {K : YK} (hsz : 179 ≤ ssz) (hE : EnvI I cs K) :
    CallG Hvaf.prog 80 #[ptr sb 0] ⟨I, ⟨sb, ssz, Ts, cs⟩ :: G⟩ fun r S' => S'.G = ⟨sb, ssz, Ts, cs⟩ :: G ∧ NatI S'.I r (bev (List.replicate 32 0)) := by
  have hby : Byt ⟨I, ⟨sb, ssz, Ts, cs⟩ :: G⟩ (.slice (some ⟨sb, 146, none⟩) 32 32) (List.replicate 32 0) := row_byt (x := ⟨sb, ssz, Ts, cs⟩) hE.base (.inr (by simp)) (by decide) (by decide) (by decide) (by show 146 + 32 ≤ ssz; omega)
  refine CallG.start (C := mkC Hvaf.prog) cok (args := [ptr sb 0]) Hvaf.func80 rfl Hvaf.ntmps80 (by simp) (by kernel_rfl) ?_
  repeat (first | refine SeqS.go cok ?_ | refine And.intro (Eq.refl true) ?_ | (refine ValS.keep ?_; first | with_reducible refine ValS.sl0 ?_))
  refine callN (FromBE_byt hby (bev_NB (by decide) (by decide))) fun x J hs hx => ?_
  repeat (first | refine SeqS.go cok ?_)
  exact Fin.same ⟨rfl, hx⟩
theorem yBlk72 {I : Ent → Prop} {G : List Ent} {sb ssz : Nat} {Ts : TypeId} {cs : Nat → Value} {K : YK} {av : Value} {a : Nat} (hsz : 179 ≤ ssz) (hE : EnvI I cs K) :
    CallG Hvaf.prog 240 #[ptr sb 0, .int .u8 (72 : Nat), av] ⟨I, ⟨sb, ssz, Ts, cs⟩ :: G⟩ fun r S' => S'.G = ⟨sb, ssz, Ts, cs⟩ :: G ∧ NatI S'.I r (bev (List.replicate 32 0)) := by
  refine CallG.start (C := mkC Hvaf.prog) cok (args := [ptr sb 0, .int .u8 ((72 : Nat) : Int), av]) Hvaf.func240 rfl Hvaf.ntmps240 (by simp) (by kernel_rfl) ?_
  repeat (first | refine SeqS.go cok ?_ | refine CondS.t rfl ?_ | refine CondS.f rfl ?_)
  refine callN (yBaseFee hsz hE) fun x J hs hx => ?_
  repeat (first | refine SeqS.go cok ?_)
  exact Fin.same ⟨rfl, hx⟩
end Go.Proofs.YgvafwGreat
