import Derived.Test.YgvafwGreatY47
set_option exponentiation.threshold 1000
set_option maxRecDepth 100000
set_option maxHeartbeats 4000000
set_option linter.unusedVariables false
set_option linter.unusedSimpArgs false
-- v2
-- v4
-- v5
-- v6
-- v7
namespace Go.Proofs.YgvafwGreat
open Go.HL Go.Proofs

theorem immN_push {o : Nat} (h1 : 95 ≤ o) (h2 : o ≤ 127) : immN o = o - 95 := by
  unfold immN
  split <;> omega
theorem yValPush {o : Nat} {I : Ent → Prop} {G : List Ent} {sb ssz fb fsz pc gas : Nat} {Ts Tf : TypeId} {cs cf : Nat → Value} {K : YK} {w : YW} {s mem : List Nat} {M : List Ent} {av : Value} {as' : List Nat} (hsz : 179 ≤ ssz) (hfz : 60 ≤ fsz) (hC : CsI I cs cf K w pc gas s) (hE : EnvI I cs K) (hM : MemO (cf 9) mem M) (hMG : ∀ x ∈ M, x ∈ G) (hA : StkI I av as') (hlen : as'.length < 100) (h1 : 95 ≤ o) (h2 : o ≤ 127) (hpc : pc < 2 ^ 100) :
    CallG Hvaf.prog 162 #[ptr sb 0, ptr fb 0, .int .u8 (o : Nat), av] ⟨I, ⟨sb, ssz, Ts, cs⟩ :: ⟨fb, fsz, Tf, cf⟩ :: G⟩ fun r S' => S'.G = ⟨sb, ssz, Ts, cs⟩ :: ⟨fb, fsz, Tf, cf⟩ :: G ∧ NatI S'.I r (bev (cutL K.code (pc + 1) (o - 95))) := by
  have hf := fun (S : St) => Family_spec (S := S) (o := o) (by omega)
  have e : famN o = 2 := by unfold famN; repeat (first | rw [if_pos (by omega)] | rw [if_neg (by omega)])
  rw [e] at hf
  have him := fun (S : St) => Imm_spec (S := S) (o := o) (by omega)
  rw [immN_push h1 h2] at him
  have hN := fun (I : Ent → Prop) (G : List Ent) => yNum (I := I) (G := G) (n := o - 95) (by omega)
  have hpcN := hC.F.fpc
  obtain ⟨ad2, cap2, hc10, _⟩ := hC.F.fcode.form
  have hk := hC.KB.code
  have hin : Byt ⟨I, ⟨sb, ssz, Ts, cs⟩ :: ⟨fb, fsz, Tf, cf⟩ :: G⟩ (cf 10) K.code := hC.F.fcode.mono (.refl _) (by simp)
  rw [hc10] at hin
  have hnb : pc + 1 < NB := NB_p (Nat.lt_of_le_of_lt (Nat.succ_le_of_lt hpc) (Nat.pow_lt_pow_right (by decide) (by decide)))
  refine CallG.start (C := mkC Hvaf.prog) cok (args := [ptr sb 0, ptr fb 0, .int .u8 (o : Nat), av]) Hvaf.func162 rfl Hvaf.ntmps162 (by simp) (by kernel_rfl) ?_
  repeat (first | refine SeqS.go cok ?_)
  refine (yOperand (i := 0) hA (by omega) (by decide)).mono ?_
  rintro v _ - ⟨rfl, hv⟩
  repeat (first | refine SeqS.go cok ?_)
  refine (yOperand (i := 1) hA (by omega) (by decide)).mono ?_
  rintro u _ - ⟨rfl, hu⟩
  repeat (first | refine SeqS.go cok ?_ | (refine CondS.keep ?_; first | refine CondS.d0 rfl (by omega) ?_))
  refine (hf _).mono ?_
  rintro r _ - ⟨rfl, rfl⟩
  repeat (first | (refine QuG.keep ?_; first | refine QuG.l1E cok 1 rfl rfl rfl rfl rfl (by first | exact Nat.le_of_ble_eq_true rfl | omega | (dsimp only; omega) | (simp only [addS_eq, mulS_eq]; omega)) (by assumption) ?_) | refine SeqS.go cok ?_ | refine GuardS.yes rfl ?_ | refine CondS.f rfl ?_ | (refine QuG.keep ?_; first | refine QuG.l1 cok 1 rfl rfl rfl rfl rfl (by first | exact Nat.le_of_ble_eq_true rfl | omega | (dsimp only; omega) | (simp only [addS_eq, mulS_eq]; omega)) ?_) | refine W.drawI 9 cok [0, 1, 3, 7, 0, 16, 48, 112, 0, 496, 0, 2032, 4080, 8176, 16383, 32767, 65535] [0, 1, 2, 3, 4, 5, 6, 7, 10, 8, 9, 11, 12, 13, 14, 15, 16] [3, 7] (by kernel_rfl) (by kernel_rfl) ?_ | (refine GuardS.keep ?_; first | refine GuardS.T1 rfl (by omega) ?_) | (refine CondS.keep ?_; first | refine CondS.d1 rfl (by omega) ?_))
  refine callN (yNum (n := 1) (by decide)) fun y J1 hs1 hy => ?_
  repeat (first | (refine still_in ?_; first | refine still_nil ?_ | (refine still_keep (by decide) rfl ?_ ?_; first | exact QuV.l1 cok 1 rfl rfl rfl rfl rfl (by first | exact Nat.le_of_ble_eq_true rfl | omega | (dsimp only; omega) | (simp only [addS_eq, mulS_eq]; omega)) rfl | exact QuV.l1 cok 1 rfl rfl rfl rfl rfl (by first | exact Nat.le_of_ble_eq_true rfl | omega | (dsimp only; omega) | (simp only [addS_eq, mulS_eq]; omega)) (by assumption))))
  refine callN (nAdd (hpcN.up hs1) hy hnb) fun z J2 hs2 hz => ?_
  repeat (first | (refine still_in ?_; first | refine still_nil ?_ | refine still_drop (by decide) ?_ | (refine still_keep (by decide) rfl ?_ ?_; first | exact QuV.l1 cok 1 rfl rfl rfl rfl rfl (by first | exact Nat.le_of_ble_eq_true rfl | omega | (dsimp only; omega) | (simp only [addS_eq, mulS_eq]; omega)) (by assumption))))
  refine (him _).mono ?_
  rintro r _ - ⟨rfl, rfl⟩
  repeat (first | (refine ValS.keep ?_; first | (with_reducible refine ValS.kU64 ?_; first | (with_reducible refine ValS.convU64 ?_ ?_ ; omega))) | (refine still_in ?_; first | refine still_drop (by decide) ?_ | (refine still_keep (by decide) rfl ?_ ?_; first | exact QuV.l1 cok 1 rfl rfl rfl rfl rfl (by first | exact Nat.le_of_ble_eq_true rfl | omega | (dsimp only; omega) | (simp only [addS_eq, mulS_eq]; omega)) (by assumption))))
  refine callN (hN _ _) fun m J3 hs3 hm => ?_
  repeat (first | (refine still_in ?_; first | refine still_nil ?_ | refine still_drop (by decide) ?_ | (refine still_keep (by decide) rfl ?_ ?_; first | exact QuV.l1 cok 1 rfl rfl rfl rfl rfl (by first | exact Nat.le_of_ble_eq_true rfl | omega | (dsimp only; omega) | (simp only [addS_eq, mulS_eq]; omega)) (by assumption))))
  refine (yCut (I := J3) (m := o - 95) (hin.mono (S' := ⟨J3, ⟨sb, ssz, Ts, cs⟩ :: ⟨fb, fsz, Tf, cf⟩ :: G⟩) ((hs1.trans hs2).trans hs3) (fun _ h => h)) (hz.up hs3) hm (by omega) (by omega)).mono ?_
  rintro c ⟨J4, G4⟩ hs4 ⟨h41, h42⟩
  dsimp only at h41 h42
  subst h41
  replace hs4 : HL.Sub J3 J4 := hs4
  repeat (first | (refine still_in ?_; first | refine still_nil ?_ | refine still_drop (by decide) ?_))
  refine callN (FromBE_byt (h42.mono (.refl _) (fun x h => nomatch h)) (bev_NB (cutL_lt hC.F.fcode.1 _ _) (by rw [cutL_len]; omega))) fun x J hs hx => ?_
  repeat (first | refine SeqS.go cok ?_ | (refine still_in ?_; first | refine still_drop (by decide) ?_))
  exact Fin.same ⟨rfl, hx⟩
theorem yVal32 {I : Ent → Prop} {G : List Ent} {sb ssz fb fsz pc gas : Nat} {Ts Tf : TypeId} {cs cf : Nat → Value} {K : YK} {w : YW} {s mem : List Nat} {M : List Ent} {av : Value} {as' : List Nat} (hsz : 179 ≤ ssz) (hfz : 60 ≤ fsz) (hC : CsI I cs cf K w pc gas s) (hE : EnvI I cs K) (hM : MemO (cf 9) mem M) (hMG : ∀ x ∈ M, x ∈ G) (hA : StkI I av as') (hlen : as'.length < 100) {kec : List Nat → List Nat} (hK : KecOk kec) (hn : as'.getD 1 0 < 2 ^ 29) :
    CallG Hvaf.prog 162 #[ptr sb 0, ptr fb 0, .int .u8 (32 : Nat), av] ⟨I, ⟨sb, ssz, Ts, cs⟩ :: ⟨fb, fsz, Tf, cf⟩ :: G⟩ fun r S' => S'.G = ⟨sb, ssz, Ts, cs⟩ :: ⟨fb, fsz, Tf, cf⟩ :: G ∧ NatI S'.I r (bev (kec (cutL mem (as'.getD 0 0) (as'.getD 1 0)))) := by
  have hlm := hM.len
  have hbm : Byt ⟨I, ⟨fb, fsz, Tf, cf⟩ :: ⟨sb, ssz, Ts, cs⟩ :: G⟩ (cf 9) mem := hM.byt (fun x hx => by simp [hMG x hx])
  refine CallG.start (C := mkC Hvaf.prog) cok (args := [ptr sb 0, ptr fb 0, .int .u8 ((32 : Nat) : Int), av]) Hvaf.func162 rfl Hvaf.ntmps162 (by simp) (by kernel_rfl) ?_
  repeat (first | refine SeqS.go cok ?_)
  refine (yOperand (i := 0) hA (by omega) (by decide)).mono ?_
  rintro v _ - ⟨rfl, hv⟩
  repeat (first | refine SeqS.go cok ?_)
  refine (yOperand (i := 1) hA (by omega) (by decide)).mono ?_
  rintro u _ - ⟨rfl, hu⟩
  repeat (first | refine SeqS.go cok ?_ | refine CondS.t rfl ?_)
  refine CallG.focus 1 rfl ?_
  refine (yRead hfz hbm hv hu (by omega) (by omega)).mono ?_
  rintro r ⟨J1, G1⟩ hs1 ⟨h11, h12⟩
  dsimp only at h11 h12
  subst h11
  replace hs1 : HL.Sub I J1 := hs1
  skip
  refine (hK.run J1 (⟨fb, fsz, Tf, cf⟩ :: ⟨sb, ssz, Ts, cs⟩ :: G) _ _ (h12.mono (.refl _) (fun x h => nomatch h)) (by rw [cutL_len]; omega)).mono ?_
  rintro r ⟨J, G2⟩ hs ⟨h1, rfl⟩
  dsimp only at h1
  subst h1
  replace hs : HL.Sub J1 J := hs
  skip
  intro b2
  skip
  refine OpG.keep ?_
  refine OpG.sL cok 0 rfl rfl rfl rfl rfl (by rw [bvs_len]; exact hK.len _) (bvs_all _) (by decide) ?_
  repeat (first | refine SeqS.go cok ?_ | refine And.intro (Eq.refl true) ?_ | (refine ValS.keep ?_; first | with_reducible refine ValS.sl0 ?_))
  refine callN (FromBE_byt (S := ⟨J, ⟨b2, 32, 22, updN z_int__u8_0 0 (bvs (kec _))⟩ :: _⟩) (row_byt (x := ⟨b2, 32, 22, updN z_int__u8_0 0 (bvs (kec _))⟩) (Row.updN2 _ _ _) (.inr List.mem_cons_self) (hK.b8 _) (hK.len _) (by decide) (Nat.le_refl _)) (bev_NB (hK.b8 _) (by rw [hK.len]; decide))) fun x J2 hs2 hx => ?_
  repeat (first | refine SeqS.go cok ?_)
  exact Fin.focus 2 rfl (Fin.drop1 _ (⟨fb, fsz, Tf, cf⟩ :: G) [_] ⟨rfl, hx⟩)
end Go.Proofs.YgvafwGreat
