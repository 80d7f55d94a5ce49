import Derived.Test.YgvafwGreatY39
import Derived.Test.YgvafwGreatY29
import Derived.Test.YgvafwGreatS2
set_option exponentiation.threshold 1000
set_option maxRecDepth 100000
set_option maxHeartbeats 4000000
set_option linter.unusedVariables false
set_option linter.unusedSimpArgs false
-- v2
-- v4
-- v5
-- v6
-- v7
namespace Go.Proofs.YgvafwGreat
open Go.HL Go.Proofs

def costG (b r m : Nat) : Nat := if (r + 31) / 32 ≤ m / 32 then b else b + (memC ((r + 31) / 32) - memC (m / 32))
/-- yp.State.cost, by its parts -/
theorem yCostG {I : Ent → Prop} {G : List Ent} {sb ssz fb fsz pc gas o : Nat} {Ts Tf : TypeId} {cs cf : Nat → Value} {K : YK} {w : YW} {s : List Nat} {mem : List Nat} {M : List Ent} (hsz : 9 ≤ ssz) (hfz : 60 ≤ fsz) (hC : CsI I cs cf K w pc gas s) (hM : MemO (cf 9) mem M) {rN bN : Nat} (h257 : rN < 2 ^ 257) (hbl : bN < 2 ^ 300) (hre : ∀ I, YF I cf K pc gas s → CallG Hvaf.prog 71 #[ptr fb 0, .int .u8 (o : Nat)] ⟨I, ⟨fb, fsz, Tf, cf⟩ :: ⟨sb, ssz, Ts, cs⟩ :: G⟩ fun r S' => S'.G = ⟨fb, fsz, Tf, cf⟩ :: ⟨sb, ssz, Ts, cs⟩ :: G ∧ NatI S'.I r rN) (hba : CallG Hvaf.prog 233 #[ptr sb 0, ptr fb 0, .int .u8 (o : Nat)] ⟨I, ⟨sb, ssz, Ts, cs⟩ :: ⟨fb, fsz, Tf, cf⟩ :: G⟩ fun r S' => S'.G = ⟨sb, ssz, Ts, cs⟩ :: ⟨fb, fsz, Tf, cf⟩ :: G ∧ NatI S'.I r bN) :
    CallG Hvaf.prog 149 #[ptr sb 0, ptr fb 0, .int .u8 (o : Nat)] ⟨I, ⟨sb, ssz, Ts, cs⟩ :: ⟨fb, fsz, Tf, cf⟩ :: G⟩ fun r S' => S'.G = ⟨sb, ssz, Ts, cs⟩ :: ⟨fb, fsz, Tf, cf⟩ :: G ∧ NatI S'.I r (costG bN rN mem.length) := by
  have hlen := hM.len
  have hlen2 : mem.length < 1073741824 := hlen
  have hr31 : rN + 31 < 2 ^ 260 := by
    have h : (2 : Nat) ^ 257 + 31 < 2 ^ 260 := by decide +kernel
    exact Nat.lt_of_le_of_lt (Nat.add_le_add_right (Nat.le_of_lt h257) 31) h
  have hneed : (rN + 31) / 32 < 2 ^ 260 := Nat.lt_of_le_of_lt (Nat.div_le_self _ _) hr31
  have hmw : mem.length / 32 < 2 ^ 260 := Nat.lt_trans (Nat.lt_of_le_of_lt (Nat.div_le_self _ _) hlen) (Nat.pow_lt_pow_right (by decide) (by decide))
  have n1 : rN + 31 < NB := NB_p (Nat.lt_trans hr31 (Nat.pow_lt_pow_right (by decide) (by decide)))
  have n2 : 3 * ((rN + 31) / 32) + (rN + 31) / 32 * ((rN + 31) / 32) < NB := NB_p (Nat.lt_trans (sq_lt hneed) (Nat.pow_lt_pow_right (by decide) (by decide)))
  have n3 : 3 * (mem.length / 32) + mem.length / 32 * (mem.length / 32) < NB := NB_p (Nat.lt_trans (sq_lt hmw) (Nat.pow_lt_pow_right (by decide) (by decide)))
  have n4 : bN + (memC ((rN + 31) / 32) - memC (mem.length / 32)) < NB := by
    have h1 := memC_lt hneed
    have h2 : (2 : Nat) ^ 300 + 2 ^ 530 < 2 ^ 639 := by decide +kernel
    refine NB_p ?_
    generalize (2 : Nat) ^ 300 = P1 at *
    generalize (2 : Nat) ^ 530 = P2 at *
    generalize (2 : Nat) ^ 639 = P3 at *
    omega
  have hc9 : ∃ ad cp, cf 9 = .slice ad mem.length cp := by
    rcases hM.out with ⟨h1, h2, _⟩ | ⟨b, c, h1, _⟩
    · exact ⟨none, 0, by rw [h1, h2]; rfl⟩
    · exact ⟨_, _, h1⟩
  obtain ⟨ad, cp, hc9⟩ := hc9
  have hnum := fun (I : Ent → Prop) (G : List Ent) => yNum (I := I) (G := G) (n := mem.length / 32) (by omega)
  generalize hcn : costG bN rN mem.length = R
  unfold costG at hcn
  by_cases hle : (rN + 31) / 32 ≤ mem.length / 32
  · rw [if_pos hle] at hcn
    subst hcn
    refine CallG.start (C := mkC Hvaf.prog) cok (args := [ptr sb 0, ptr fb 0, .int .u8 (o : Nat)]) Hvaf.func149 rfl Hvaf.ntmps149 (by simp) (by kernel_rfl) ?_
    repeat (first | refine SeqS.go cok ?_)
    refine callN hba fun b J1 hs1 hb => ?_
    repeat (first | (refine QuG.keep ?_; first | refine QuG.l1E cok 1 rfl rfl rfl rfl rfl (by first | exact Nat.le_of_ble_eq_true rfl | omega | (dsimp only; omega) | (simp only [addS_eq, mulS_eq]; omega)) (by assumption) ?_) | refine SeqS.go cok ?_ | refine And.intro (by omega) ?_ | (refine ValS.keep ?_; first | (with_reducible refine ValS.kI64 ?_; first | (with_reducible refine ValS.quoI64_L ?_ ?_ ; omega)) | (with_reducible refine ValS.kU64 ?_; first | (with_reducible refine ValS.convU64 ?_ ?_ ; omega))))
    refine callN (hnum _ _) fun h J2 hs2 hh => ?_
    repeat (first | refine SeqS.go cok ?_)
    refine CallG.focus 1 rfl ?_
    refine callN (hre _ ((hC.F.up hs1).up hs2)) fun x J3 hs3 hx => ?_
    skip
    refine callN (yWords hx n1) fun y J4 hs4 hy => ?_
    repeat (first | refine SeqS.go cok ?_)
    refine (nCmpLe hy ((hh.up hs3).up hs4) hle).mono ?_
    rintro r _ - ⟨rfl, z, hz, hz', rfl⟩
    repeat (first | refine SeqS.go cok ?_)
    refine CondS.d1 rfl (by omega) ?_
    repeat (first | refine SeqS.go cok ?_)
    exact Fin.focus 1 rfl (Fin.same ⟨rfl, ((hb.up hs2).up hs3).up hs4⟩)
  · rw [if_neg hle] at hcn
    subst hcn
    refine CallG.start (C := mkC Hvaf.prog) cok (args := [ptr sb 0, ptr fb 0, .int .u8 (o : Nat)]) Hvaf.func149 rfl Hvaf.ntmps149 (by simp) (by kernel_rfl) ?_
    repeat (first | refine SeqS.go cok ?_)
    refine callN hba fun b J1 hs1 hb => ?_
    repeat (first | (refine QuG.keep ?_; first | refine QuG.l1E cok 1 rfl rfl rfl rfl rfl (by first | exact Nat.le_of_ble_eq_true rfl | omega | (dsimp only; omega) | (simp only [addS_eq, mulS_eq]; omega)) (by assumption) ?_) | refine SeqS.go cok ?_ | refine And.intro (by omega) ?_ | (refine ValS.keep ?_; first | (with_reducible refine ValS.kI64 ?_; first | (with_reducible refine ValS.quoI64_L ?_ ?_ ; omega)) | (with_reducible refine ValS.kU64 ?_; first | (with_reducible refine ValS.convU64 ?_ ?_ ; omega))))
    refine callN (hnum _ _) fun h J2 hs2 hh => ?_
    repeat (first | refine SeqS.go cok ?_)
    refine CallG.focus 1 rfl ?_
    refine callN (hre _ ((hC.F.up hs1).up hs2)) fun x J3 hs3 hx => ?_
    skip
    refine callN (yWords hx n1) fun y J4 hs4 hy => ?_
    repeat (first | refine SeqS.go cok ?_)
    refine (nCmpG hy ((hh.up hs3).up hs4) (by omega)).mono ?_
    rintro r _ - ⟨rfl, rfl⟩
    repeat (first | refine SeqS.go cok ?_ | refine CondS.f rfl ?_)
    refine callN (yMemCost hy n2) fun p J5 hs5 hp => ?_
    skip
    refine callN (yMemCost (((hh.up hs3).up hs4).up hs5) n3) fun q J6 hs6 hq => ?_
    skip
    refine callN (yLess (hp.up hs6) hq) fun d J7 hs7 hd => ?_
    skip
    refine callN (nAdd ((((((hb.up hs2).up hs3).up hs4).up hs5).up hs6).up hs7) hd n4) fun e J8 hs8 he => ?_
    repeat (first | refine SeqS.go cok ?_)
    exact Fin.focus 1 rfl (Fin.same ⟨rfl, he⟩)
section
variable {I : Ent → Prop} {G : List Ent} {sb ssz fb fsz pc gas : Nat} {Ts Tf : TypeId} {cs cf : Nat → Value} {K : YK} {w : YW} {s : List Nat} {mem : List Nat} {M : List Ent}
theorem yReach240 (hfz : 60 ≤ fsz) (hF : YF I cf K pc gas s) :
    CallG Hvaf.prog 71 #[ptr fb 0, .int .u8 ((240 : Nat) : Int)] ⟨I, ⟨fb, fsz, Tf, cf⟩ :: G⟩ fun r S' => S'.G = ⟨fb, fsz, Tf, cf⟩ :: G ∧ NatI S'.I r (endN (argN s 1) (argN s 2)) := by
  have a0 := yArgF (G := G) (fb := fb) (T := Tf) (i := 1) hfz hF (by decide)
  have a1 := yArgF (G := G) (fb := fb) (T := Tf) (i := 2) hfz hF (by decide)
  have hb : argN s 1 + argN s 2 < NB := NB_sum (argN_lt hF.fb) (argN_lt hF.fb)
  refine CallG.start (C := mkC Hvaf.prog) cok (args := [ptr fb 0, .int .u8 ((240 : Nat) : Int)]) Hvaf.func71 rfl Hvaf.ntmps71 (by simp) (by kernel_rfl) ?_
  repeat (first | refine SeqS.go cok ?_ | refine GuardS.yes rfl ?_ | refine CondS.t rfl ?_ | refine CondS.f rfl ?_)
  refine a0.mono ?_
  rintro u0 _ - ⟨rfl, hu0⟩
  skip
  refine a1.mono ?_
  rintro u1 _ - ⟨rfl, hu1⟩
  skip
  refine callN (yEnd hu0 hu1 hb) fun w J hs hw => ?_
  repeat (first | refine SeqS.go cok ?_)
  exact Fin.same ⟨rfl, hw⟩
theorem yReach255 :
    CallG Hvaf.prog 71 #[ptr fb 0, .int .u8 ((255 : Nat) : Int)] ⟨I, ⟨fb, fsz, Tf, cf⟩ :: G⟩ fun r S' => S'.G = ⟨fb, fsz, Tf, cf⟩ :: G ∧ NatI S'.I r 0 := by
  refine CallG.start (C := mkC Hvaf.prog) cok (args := [ptr fb 0, .int .u8 ((255 : Nat) : Int)]) Hvaf.func71 rfl Hvaf.ntmps71 (by simp) (by kernel_rfl) ?_
  repeat (first | refine SeqS.go cok ?_ | refine GuardS.yes rfl ?_ | refine CondS.f rfl ?_)
  exact Fin.same ⟨rfl, NatI.zero _⟩
theorem yEnterCost240 (hfz : 60 ≤ fsz) (hF : YF I cf K pc gas s) :
    CallG Hvaf.prog 346 #[ptr sb 0, ptr fb 0, .int .u8 ((240 : Nat) : Int)] ⟨I, ⟨sb, ssz, Ts, cs⟩ :: ⟨fb, fsz, Tf, cf⟩ :: G⟩ fun r S' => S'.G = ⟨sb, ssz, Ts, cs⟩ :: ⟨fb, fsz, Tf, cf⟩ :: G ∧ NatI S'.I r (32000 + 2 * ((argN s 2 + 31) / 32)) := by
  have ha := argN_lt (i := 2) hF.fb
  have h256 : argN s 2 + 31 < 2 ^ 257 := by
    have : (2 : Nat) ^ 256 + 31 < 2 ^ 257 := by decide +kernel
    exact Nat.lt_of_le_of_lt (Nat.add_le_add_right (Nat.le_of_lt ha) 31) this
  have n1 : argN s 2 + 31 < NB := NB_p (Nat.lt_trans h256 (Nat.pow_lt_pow_right (by decide) (by decide)))
  have hq : 32000 + 2 * ((argN s 2 + 31) / 32) < 2 ^ 300 := by
    have : (2 : Nat) ^ 257 + 32000 < 2 ^ 300 := by decide +kernel
    generalize (2 : Nat) ^ 257 = P at *
    generalize (2 : Nat) ^ 300 = Q at *
    omega
  have n3 : 32000 + 2 * ((argN s 2 + 31) / 32) < NB := NB_p (Nat.lt_trans hq (Nat.pow_lt_pow_right (by decide) (by decide)))
  have n2 : 2 * ((argN s 2 + 31) / 32) < NB := by omega
  have a2 := fun (J : Ent → Prop) (hF : YF J cf K pc gas s) => yArgF (G := ⟨sb, ssz, Ts, cs⟩ :: G) (fb := fb) (T := Tf) (i := 2) hfz hF (by decide)
  refine CallG.start (C := mkC Hvaf.prog) cok (args := [ptr sb 0, ptr fb 0, .int .u8 ((240 : Nat) : Int)]) Hvaf.func346 rfl Hvaf.ntmps346 (by simp) (by kernel_rfl) ?_
  repeat (first | refine SeqS.go cok ?_ | refine CondS.t rfl ?_)
  refine callN (yNum (n := 32000) (by decide)) fun v1 J1 hs1 h1 => ?_
  skip
  refine callN (yNum (n := 2) (by decide)) fun v2 J2 hs2 h2 => ?_
  skip
  refine CallG.focus 1 rfl ?_
  refine (a2 _ ((hF.up hs1).up hs2)).mono ?_
  rintro u0 _ - ⟨rfl, hu0⟩
  skip
  refine callN (yWords hu0 n1) fun v3 J3 hs3 h3 => ?_
  skip
  refine callN (nMul (h2.up hs3) h3 n2) fun v4 J4 hs4 h4 => ?_
  skip
  refine callN (nAdd (((h1.up hs2).up hs3).up hs4) h4 n3) fun v5 J5 hs5 h5 => ?_
  repeat (first | refine SeqS.go cok ?_)
  exact Fin.focus 1 rfl (Fin.same ⟨rfl, h5⟩)
theorem yBare240 (hfz : 60 ≤ fsz) (hF : YF I cf K pc gas s) :
    CallG Hvaf.prog 233 #[ptr sb 0, ptr fb 0, .int .u8 ((240 : Nat) : Int)] ⟨I, ⟨sb, ssz, Ts, cs⟩ :: ⟨fb, fsz, Tf, cf⟩ :: G⟩ fun r S' => S'.G = ⟨sb, ssz, Ts, cs⟩ :: ⟨fb, fsz, Tf, cf⟩ :: G ∧ NatI S'.I r (32000 + 2 * ((argN s 2 + 31) / 32)) := by
  have hf := fun S => Family_spec (S := S) (o := 240) (by decide)
  have he := yEnterCost240 (G := G) (sb := sb) (ssz := ssz) (fb := fb) (Ts := Ts) (Tf := Tf) (cs := cs) hfz hF
  refine CallG.start (C := mkC Hvaf.prog) cok (args := [ptr sb 0, ptr fb 0, .int .u8 ((240 : Nat) : Int)]) Hvaf.func233 rfl Hvaf.ntmps233 (by simp) (by kernel_rfl) ?_
  repeat (first | refine SeqS.go cok ?_ | refine GuardS.yes rfl ?_ | refine CondS.f rfl ?_)
  refine (hf _).mono ?_
  rintro r _ - ⟨rfl, rfl⟩
  repeat (first | refine SeqS.go cok ?_ | refine CondS.t rfl ?_)
  refine callN he fun v1 J1 hs1 h1 => ?_
  repeat (first | refine SeqS.go cok ?_)
  exact Fin.same ⟨rfl, h1⟩
theorem yBare255 (hsz : 9 ≤ ssz) (hfz : 60 ≤ fsz) (hC : CsI I cs cf K w pc gas s) (hbal : (getA w.al K.self).bal = 0) :
    CallG Hvaf.prog 233 #[ptr sb 0, ptr fb 0, .int .u8 ((255 : Nat) : Int)] ⟨I, ⟨sb, ssz, Ts, cs⟩ :: ⟨fb, fsz, Tf, cf⟩ :: G⟩ fun r S' => S'.G = ⟨sb, ssz, Ts, cs⟩ :: ⟨fb, fsz, Tf, cf⟩ :: G ∧ NatI S'.I r (dstN w s) := by
  have hf := fun S => Family_spec (S := S) (o := 255) (by decide)
  have l1 : w.al.length < 2 ^ 19 := Nat.lt_trans hC.B.al (by decide)
  have l2 : w.wa.length < 2 ^ 19 := Nat.lt_trans hC.B.wa (by decide)
  have l4 : s.length < 2 ^ 30 := Nat.lt_of_le_of_lt hC.F.fl (by decide)
  have hd : CallG Hvaf.prog 345 #[ptr sb 0, ptr fb 0] ⟨I, ⟨sb, ssz, Ts, cs⟩ :: ⟨fb, fsz, Tf, cf⟩ :: G⟩ fun r S' => S'.G = ⟨sb, ssz, Ts, cs⟩ :: ⟨fb, fsz, Tf, cf⟩ :: G ∧ NatI S'.I r (dstN w s) := by
    unfold dstN
    by_cases hm : adN (argN s 0) ∈ w.wa
    · rw [if_pos hm]
      refine (yDestroyW hsz hfz hC.W.acc hC.W.wrm hC.W.wok hC.F.fstk hC.F.fself hC.KB.kself l1 l2 l4 hbal rfl hm).mono ?_
      rintro r S' _ ⟨J, rfl, h⟩
      exact ⟨rfl, h⟩
    · rw [if_neg hm]
      refine (yDestroyC hsz hfz hC.W.acc hC.W.wrm hC.W.wok hC.F.fstk hC.F.fself hC.KB.kself l1 l2 l4 hbal rfl hm).mono ?_
      rintro r S' _ ⟨J, rfl, h⟩
      exact ⟨rfl, h⟩
  refine CallG.start (C := mkC Hvaf.prog) cok (args := [ptr sb 0, ptr fb 0, .int .u8 ((255 : Nat) : Int)]) Hvaf.func233 rfl Hvaf.ntmps233 (by simp) (by kernel_rfl) ?_
  repeat (first | refine SeqS.go cok ?_ | refine GuardS.yes rfl ?_ | refine CondS.t rfl ?_ | refine CondS.f rfl ?_)
  refine callN hd fun v1 J1 hs1 h1 => ?_
  repeat (first | refine SeqS.go cok ?_)
  exact Fin.same ⟨rfl, h1⟩
end
end Go.Proofs.YgvafwGreat
