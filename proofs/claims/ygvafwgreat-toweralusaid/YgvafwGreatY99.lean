import Derived.Test.YgvafwGreatY98
set_option exponentiation.threshold 1000
set_option maxRecDepth 100000
set_option maxHeartbeats 4000000
set_option linter.unusedVariables false
set_option linter.unusedSimpArgs false
-- v2
-- v4
-- v5
-- v6
-- v7
namespace Go.Proofs.YgvafwGreat
open Go.HL Go.Proofs

section
variable {I : Ent → Prop} {sb ssz fb fsz : Nat} {Ts Tf : TypeId} {cs cf : Nat → Value} {K : YK} {σ : NS} {M ML : List Ent}
/-- yp.Chain.Step at SELFDESTRUCT -/
theorem yStep255 (h : YI I fb cs cf K σ M ML) (hsz : 179 ≤ ssz) (hfz : 60 ≤ fsz) (ho : K.code.getD σ.pc 0 = 255) (h3 : σ.s.length = 3) (hmd : σ.w.md = []) (hbal : (getA σ.w.al K.self).bal = 0) (hB : σ.w.wa.length < 60000) (hg : dstN σ.w σ.s ≤ σ.gas) :
    CallG Hvaf.prog 30 #[ptr sb 0] ⟨I, ⟨sb, ssz, Ts, cs⟩ :: ⟨fb, fsz, Tf, cf⟩ :: (M ++ ML)⟩ fun r S' => r = .bool true ∧ ∃ J cs' R ML', S' = ⟨J, ⟨sb, ssz, Ts, cs'⟩ :: (R ++ ML')⟩ ∧ EndY J cs cs' ⟨0, σ.gas - dstN σ.w σ.s, [], { σ.w with wa := withA (adN (argN σ.s 0)) σ.w.wa }⟩ ML' := by
  have hop := fun (G : List Ent) => yOpcode (G := G) (fb := fb) (T := Tf) hfz h.c.F.fpc h.c.F.fcode (Nat.lt_trans h.c.KB.code (by decide))
  rw [ho] at hop
  have href := fun (G : List Ent) => yRef255Y (G := G) (sb := sb) (ssz := ssz) (fb := fb) (fsz := fsz) (Ts := Ts) (Tf := Tf) (by omega) hfz h.c h.m h3 hbal hg
  have hph := h.e.ph
  obtain ⟨fc, hfr⟩ := h.fr
  have hnt := h.c.F.fn
  have hgN := h.c.F.fgas
  refine CallG.start (C := mkC Hvaf.prog) cok (args := [ptr sb 0]) Hvaf.func30 rfl Hvaf.ntmps30 (by simp) (by kernel_rfl) ?_
  repeat (first | (refine QuG.keep ?_; first | refine QuG.l1E cok 0 rfl rfl rfl rfl rfl (by first | exact Nat.le_of_ble_eq_true rfl | omega | (dsimp only; omega) | (simp only [addS_eq, mulS_eq]; omega)) (by assumption) ?_ | refine QuG.l1E cok 1 rfl rfl rfl rfl rfl (by first | exact Nat.le_of_ble_eq_true rfl | omega | (dsimp only; omega) | (simp only [addS_eq, mulS_eq]; omega)) (by assumption) ?_) | refine SeqS.go cok ?_ | refine GuardS.yes rfl ?_ | refine CondS.f rfl ?_ | refine And.intro (by omega) ?_ | (refine NatS.keep ?_; first | with_reducible refine NatS.nat ?_) | (refine ValS.keep ?_; first | (with_reducible refine ValS.kI64 ?_; first | (with_reducible refine ValS.subI64_L ?_ ?_ ?_ ; omega; omega))) | refine W.drawI 4 cok [0, 1, 3, 7, 0, 16, 48, 112, 240, 496, 1023, 2047] [0, 1, 2, 3, 4, 5, 6, 7, 8, 9, 10, 11] [3, 7] (by kernel_rfl) (by kernel_rfl) ?_)
  refine CallG.behind [⟨sb, ssz, Ts, cs⟩] (hop _) ?_
  rintro r J G1 hs ⟨e, rfl⟩
  cases e
  repeat (first | refine SeqS.go cok ?_)
  refine (href _).mono ?_
  rintro r ⟨J2, _⟩ hs2 ⟨v, rfl, -, rfl, hcN⟩
  replace hs2 : HL.Sub I J2 := hs2
  replace hcN := hcN rfl
  replace hcN : NatI J2 v _ := hcN
  repeat (first | refine SeqS.go cok ?_ | refine CondS.f rfl ?_ | (refine QuG.keep ?_; first | refine QuG.l1 cok 1 rfl rfl rfl rfl rfl (by first | exact Nat.le_of_ble_eq_true rfl | omega | (dsimp only; omega) | (simp only [addS_eq, mulS_eq]; omega)) ?_))
  refine callN (yLess (hgN.up hs2) hcN) fun gv J3 hs3 hgv => ?_
  replace hs3 : HL.Sub J2 J3 := hs3
  have hgv1 := NatI.isl hgv
  repeat (first | (refine OpG.keep ?_; first | refine OpG.s1 cok 1 rfl rfl rfl rfl rfl (by first | exact Nat.le_of_ble_eq_true rfl | omega | (dsimp only; omega) | (simp only [addS_eq, mulS_eq]; omega)) rfl (by assumption) ?_) | refine SeqS.go cok ?_)
  refine CallG.behind [⟨sb, ssz, Ts, cs⟩] (yReach255 (I := J3) (G := M ++ ML) (fb := fb) (fsz := fsz) (Tf := Tf) (cf := upd cf 4 gv)) ?_
  rintro r J4 _ hs4 ⟨e4, hrN⟩
  replace hs4 : HL.Sub J3 J4 := hs4
  cases e4
  replace hrN : NatI J4 r _ := hrN
  skip
  refine (yGrow2 (c := upd cf 4 gv) hfz h.m hrN (by decide)).mono ?_
  rintro r _ hs5 ⟨J5, mv, M', rfl, hm'⟩
  replace hs5 : HL.Sub J4 J5 := hs5
  have hsub : HL.Sub I J5 := ((hs2.trans hs3).trans hs4).trans hs5
  have h5 := h.paidG hsub (hgv.up (hs4.trans hs5)) hm'
  repeat (first | refine SeqS.go cok ?_ | refine CondS.t rfl ?_ | refine CondS.f rfl ?_)
  refine (yDestroys h5 hsz hfz hmd hbal hB).mono ?_
  rintro r S' hs6 hq
  repeat (first | refine SeqS.go cok ?_)
  exact Fin.same ⟨rfl, hq⟩
/-- yp.Chain.Step at CREATE, refused -/
theorem yStep240F9 (h : YI I fb cs cf K σ M ML) (hsz : 179 ≤ ssz) (hfz : 60 ≤ fsz) (hw0 : K.w0.lg = []) (ho : K.code.getD σ.pc 0 = 240) (h3 : σ.s.length = 3) (h512 : 512 < argN σ.s 2) :
    CallG Hvaf.prog 30 #[ptr sb 0] ⟨I, ⟨sb, ssz, Ts, cs⟩ :: ⟨fb, fsz, Tf, cf⟩ :: (M ++ ML)⟩ fun r S' => r = .bool true ∧ ∃ J cs' R ML', S' = ⟨J, ⟨sb, ssz, Ts, cs'⟩ :: (R ++ ML')⟩ ∧ EndY J cs cs' ⟨9, 0, [], K.w0⟩ ML' := by
  have hop := fun (G : List Ent) => yOpcode (G := G) (fb := fb) (T := Tf) hfz h.c.F.fpc h.c.F.fcode (Nat.lt_trans h.c.KB.code (by decide))
  rw [ho] at hop
  have href := fun (G : List Ent) => yRef240F9 (G := G) (sb := sb) (ssz := ssz) (fb := fb) (fsz := fsz) (Ts := Ts) (Tf := Tf) (by omega) hfz h.c h.m h3 h512
  have hph := h.e.ph
  obtain ⟨fc, hfr⟩ := h.fr
  have hnt := h.c.F.fn
  refine CallG.start (C := mkC Hvaf.prog) cok (args := [ptr sb 0]) Hvaf.func30 rfl Hvaf.ntmps30 (by simp) (by kernel_rfl) ?_
  repeat (first | (refine QuG.keep ?_; first | refine QuG.l1E cok 0 rfl rfl rfl rfl rfl (by first | exact Nat.le_of_ble_eq_true rfl | omega | (dsimp only; omega) | (simp only [addS_eq, mulS_eq]; omega)) (by assumption) ?_ | refine QuG.l1E cok 1 rfl rfl rfl rfl rfl (by first | exact Nat.le_of_ble_eq_true rfl | omega | (dsimp only; omega) | (simp only [addS_eq, mulS_eq]; omega)) (by assumption) ?_) | refine SeqS.go cok ?_ | refine GuardS.yes rfl ?_ | refine CondS.f rfl ?_ | refine And.intro (by omega) ?_ | (refine NatS.keep ?_; first | with_reducible refine NatS.nat ?_) | (refine ValS.keep ?_; first | (with_reducible refine ValS.kI64 ?_; first | (with_reducible refine ValS.subI64_L ?_ ?_ ?_ ; omega; omega))) | refine W.drawI 4 cok [0, 1, 3, 7, 0, 16, 48, 112, 240, 496, 1023, 2047] [0, 1, 2, 3, 4, 5, 6, 7, 8, 9, 10, 11] [3, 7] (by kernel_rfl) (by kernel_rfl) ?_)
  refine CallG.behind [⟨sb, ssz, Ts, cs⟩] (hop _) ?_
  rintro r J G1 hs ⟨e, rfl⟩
  cases e
  repeat (first | refine SeqS.go cok ?_)
  refine (href _).mono ?_
  rintro r ⟨J2, _⟩ hs2 ⟨v, rfl, -, rfl, hcN⟩
  replace hs2 : HL.Sub I J2 := hs2
  repeat (first | refine SeqS.go cok ?_ | refine CondS.t rfl ?_)
  refine (yLeaveF2 (st := 9) (by omega) hfz h.c.F.fk hfr rfl h.o1 (by decide) (by decide)).mono ?_
  rintro r _ - ⟨cs', rfl, hv⟩
  repeat (first | refine SeqS.go cok ?_)
  exact Fin.same ⟨rfl, J2, cs', ⟨fb, fsz, Tf, _⟩ :: (M ++ ML), [], by rw [List.append_nil], endF (h.up hs2) hw0 hv⟩
/-- yp.Chain.Step at CREATE, refused -/
theorem yStep240F2 (h : YI I fb cs cf K σ M ML) (hsz : 179 ≤ ssz) (hfz : 60 ≤ fsz) (hw0 : K.w0.lg = []) (ho : K.code.getD σ.pc 0 = 240) (h3 : σ.s.length = 3) (h512 : argN σ.s 2 ≤ 512) (hg : σ.gas < crcN σ.s σ.mem.length) :
    CallG Hvaf.prog 30 #[ptr sb 0] ⟨I, ⟨sb, ssz, Ts, cs⟩ :: ⟨fb, fsz, Tf, cf⟩ :: (M ++ ML)⟩ fun r S' => r = .bool true ∧ ∃ J cs' R ML', S' = ⟨J, ⟨sb, ssz, Ts, cs'⟩ :: (R ++ ML')⟩ ∧ EndY J cs cs' ⟨2, 0, [], K.w0⟩ ML' := by
  have hop := fun (G : List Ent) => yOpcode (G := G) (fb := fb) (T := Tf) hfz h.c.F.fpc h.c.F.fcode (Nat.lt_trans h.c.KB.code (by decide))
  rw [ho] at hop
  have href := fun (G : List Ent) => yRef240F2 (G := G) (sb := sb) (ssz := ssz) (fb := fb) (fsz := fsz) (Ts := Ts) (Tf := Tf) (by omega) hfz h.c h.m h3 h512 hg
  have hph := h.e.ph
  obtain ⟨fc, hfr⟩ := h.fr
  have hnt := h.c.F.fn
  refine CallG.start (C := mkC Hvaf.prog) cok (args := [ptr sb 0]) Hvaf.func30 rfl Hvaf.ntmps30 (by simp) (by kernel_rfl) ?_
  repeat (first | (refine QuG.keep ?_; first | refine QuG.l1E cok 0 rfl rfl rfl rfl rfl (by first | exact Nat.le_of_ble_eq_true rfl | omega | (dsimp only; omega) | (simp only [addS_eq, mulS_eq]; omega)) (by assumption) ?_ | refine QuG.l1E cok 1 rfl rfl rfl rfl rfl (by first | exact Nat.le_of_ble_eq_true rfl | omega | (dsimp only; omega) | (simp only [addS_eq, mulS_eq]; omega)) (by assumption) ?_) | refine SeqS.go cok ?_ | refine GuardS.yes rfl ?_ | refine CondS.f rfl ?_ | refine And.intro (by omega) ?_ | (refine NatS.keep ?_; first | with_reducible refine NatS.nat ?_) | (refine ValS.keep ?_; first | (with_reducible refine ValS.kI64 ?_; first | (with_reducible refine ValS.subI64_L ?_ ?_ ?_ ; omega; omega))) | refine W.drawI 4 cok [0, 1, 3, 7, 0, 16, 48, 112, 240, 496, 1023, 2047] [0, 1, 2, 3, 4, 5, 6, 7, 8, 9, 10, 11] [3, 7] (by kernel_rfl) (by kernel_rfl) ?_)
  refine CallG.behind [⟨sb, ssz, Ts, cs⟩] (hop _) ?_
  rintro r J G1 hs ⟨e, rfl⟩
  cases e
  repeat (first | refine SeqS.go cok ?_)
  refine (href _).mono ?_
  rintro r ⟨J2, _⟩ hs2 ⟨v, rfl, -, rfl, hcN⟩
  replace hs2 : HL.Sub I J2 := hs2
  repeat (first | refine SeqS.go cok ?_ | refine CondS.t rfl ?_)
  refine (yLeaveF2 (st := 2) (by omega) hfz h.c.F.fk hfr rfl h.o1 (by decide) (by decide)).mono ?_
  rintro r _ - ⟨cs', rfl, hv⟩
  repeat (first | refine SeqS.go cok ?_)
  exact Fin.same ⟨rfl, J2, cs', ⟨fb, fsz, Tf, _⟩ :: (M ++ ML), [], by rw [List.append_nil], endF (h.up hs2) hw0 hv⟩
end
end Go.Proofs.YgvafwGreat
