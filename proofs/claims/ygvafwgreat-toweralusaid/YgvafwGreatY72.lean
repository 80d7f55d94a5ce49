import Derived.Test.YgvafwGreatY71
import Derived.Test.YgvafwGreatY69
import Derived.Test.YgvafwGreatOp2
set_option exponentiation.threshold 1000
set_option maxRecDepth 100000
set_option maxHeartbeats 4000000
set_option linter.unusedVariables false
set_option linter.unusedSimpArgs false
-- v2
-- v4
-- v5
-- v6
-- v7
namespace Go.Proofs.YgvafwGreat
open Go.HL Go.Proofs

section
variable {I : Ent → Prop} {sb ssz fb fsz o : Nat} {Ts Tf : TypeId} {cs cf : Nat → Value} {K : YK} {σ : NS} {M ML : List Ent}
/-- yp.Chain.Step at a plain instruction -/
theorem yStepP (h : YI I fb cs cf K σ M ML) (hsz : 179 ≤ ssz) (hfz : 60 ≤ fsz) (hN : NOk K σ) (hD : KY K) (hpc : σ.pc < 2 ^ 20) (ho : K.code.getD σ.pc 0 = o) (ho2 : o < 256) (h16 : famN o ≠ 16) (hx0 : o ≠ 0) (hx1 : o ≠ 243) (hx2 : o ≠ 253) (hr : refN K σ.w σ.s σ.gas σ.mem.length o = 0) :
    CallG Hvaf.prog 30 #[ptr sb 0] ⟨I, ⟨sb, ssz, Ts, cs⟩ :: ⟨fb, fsz, Tf, cf⟩ :: (M ++ ML)⟩ fun r S' => r = .bool true ∧ PlY sb ssz fb fsz Ts Tf cs K (plainN kecN K (paidN K σ o) o) S' := by
  have hop := fun (G : List Ent) => yOpcode (G := G) (fb := fb) (T := Tf) hfz h.c.F.fpc h.c.F.fcode (Nat.lt_trans h.c.KB.code (by decide))
  rw [ho] at hop
  have href := fun (G : List Ent) => yRefN (G := G) (sb := sb) (ssz := ssz) (fb := fb) (fsz := fsz) (Ts := Ts) (Tf := Tf) (o := o) (by omega) hfz h.c h.m h.e.ret ho2 (.inl h16)
  rw [hr] at href
  obtain ⟨hp1, hp2, hp3, hp4⟩ := hN.paid (refN_ok hr).2.2.2.1
  have hph := h.e.ph
  obtain ⟨fc, hfr⟩ := h.fr
  have hnt := h.c.F.fn
  have hgN := h.c.F.fgas
  have hrb : reachN σ.s o < 2 ^ 29 := by omega
  have hok := refN_ok hr
  have hrc : o < 165 ∨ o = 243 ∨ o = 253 := by
    have := (by decide +kernel : ∀ o, o < 256 → famN o = 0 ∨ famN o = 16 ∨ o < 165 ∨ o = 243 ∨ o = 253) o ho2
    have := hok.1
    omega
  have hx3 : o ≠ 255 := by omega
  have hfam := fun (S : St) => Family_spec (S := S) ho2
  have hN' := hN.next hD hok.2.2.2.1 hpc hok.2.1 hok.2.2.1
  have hmlen : (paidN K σ o).mem.length ≤ 717311 := by
    have a := hp1.mlen
    dsimp only at a
    omega
  generalize hfo : famN o = fo at *
  refine CallG.start (C := mkC Hvaf.prog) cok (args := [ptr sb 0]) Hvaf.func30 rfl Hvaf.ntmps30 (by simp) (by kernel_rfl) ?_
  repeat (first | (refine QuG.keep ?_; first | refine QuG.l1E cok 0 rfl rfl rfl rfl rfl (by first | exact Nat.le_of_ble_eq_true rfl | omega | (dsimp only; omega) | (simp only [addS_eq, mulS_eq]; omega)) (by assumption) ?_ | refine QuG.l1E cok 1 rfl rfl rfl rfl rfl (by first | exact Nat.le_of_ble_eq_true rfl | omega | (dsimp only; omega) | (simp only [addS_eq, mulS_eq]; omega)) (by assumption) ?_) | refine SeqS.go cok ?_ | refine GuardS.yes rfl ?_ | refine CondS.f rfl ?_ | refine And.intro (by omega) ?_ | (refine NatS.keep ?_; first | with_reducible refine NatS.nat ?_) | (refine ValS.keep ?_; first | (with_reducible refine ValS.kI64 ?_; first | (with_reducible refine ValS.subI64_L ?_ ?_ ?_ ; omega; omega))) | refine W.drawI 4 cok [0, 1, 3, 7, 0, 16, 48, 112, 240, 496, 1023, 2047] [0, 1, 2, 3, 4, 5, 6, 7, 8, 9, 10, 11] [3, 7] (by kernel_rfl) (by kernel_rfl) ?_)
  refine CallG.behind [⟨sb, ssz, Ts, cs⟩] (hop _) ?_
  rintro r J G1 hs ⟨e, rfl⟩
  cases e
  repeat (first | refine SeqS.go cok ?_)
  refine (href _).mono ?_
  rintro r ⟨J2, _⟩ hs2 ⟨v, rfl, -, rfl, hcN⟩
  replace hs2 : HL.Sub I J2 := hs2
  replace hcN := hcN rfl
  replace hcN : NatI J2 v _ := hcN
  repeat (first | refine SeqS.go cok ?_ | refine CondS.f rfl ?_ | (refine QuG.keep ?_; first | refine QuG.l1 cok 1 rfl rfl rfl rfl rfl (by first | exact Nat.le_of_ble_eq_true rfl | omega | (dsimp only; omega) | (simp only [addS_eq, mulS_eq]; omega)) ?_))
  refine callN (yLess (hgN.up hs2) hcN) fun gv J3 hs3 hgv => ?_
  replace hs3 : HL.Sub J2 J3 := hs3
  have hgv1 := NatI.isl hgv
  repeat (first | (refine OpG.keep ?_; first | refine OpG.s1 cok 1 rfl rfl rfl rfl rfl (by first | exact Nat.le_of_ble_eq_true rfl | omega | (dsimp only; omega) | (simp only [addS_eq, mulS_eq]; omega)) rfl (by assumption) ?_) | refine SeqS.go cok ?_)
  refine CallG.behind [⟨sb, ssz, Ts, cs⟩] (yReach hfz (h.c.F.gas (hs2.trans hs3) hgv) hrc) ?_
  rintro r J4 _ hs4 ⟨e4, hrN⟩
  replace hs4 : HL.Sub J3 J4 := hs4
  cases e4
  replace hrN : NatI J4 r _ := hrN
  skip
  refine (yGrow2 (c := upd cf 4 gv) hfz h.m hrN hrb).mono ?_
  rintro r _ hs5 ⟨J5, mv, M', rfl, hm'⟩
  replace hs5 : HL.Sub J4 J5 := hs5
  have hsub : HL.Sub I J5 := ((hs2.trans hs3).trans hs4).trans hs5
  have h5 : YI J5 fb cs (upd (upd cf 4 gv) 9 mv) K (paidN K σ o) M' ML := h.paid hsub (hgv.up (hs4.trans hs5)) hm'
  repeat (first | refine SeqS.go cok ?_ | (refine CondS.keep ?_; first | refine CondS.d0 rfl (by omega) ?_))
  refine (hfam _).mono ?_
  rintro r _ - ⟨rfl, rfl⟩
  repeat (first | refine SeqS.go cok ?_ | (refine CondS.keep ?_; first | refine CondS.d0 rfl (by omega) ?_))
  refine (yPl h5 hsz hfz hp1 hN' hD hpc ho2 (by rw [hfo]; exact hok.1) (by rw [hfo]; exact h16) hx0 hx1 hx2 hok.2.1 hp3 hmlen hok.2.2.2.2.1).mono ?_
  rintro r S6 _ hpl
  repeat (first | refine SeqS.go cok ?_)
  exact Fin.same ⟨rfl, hpl⟩
end
end Go.Proofs.YgvafwGreat
