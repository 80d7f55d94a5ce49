import Derived.Test.YgvafwGreatY70
import Derived.Test.YgvafwGreatY66
import Derived.Test.YgvafwGreatOp2
set_option exponentiation.threshold 1000
set_option maxRecDepth 100000
set_option maxHeartbeats 4000000
set_option linter.unusedVariables false
set_option linter.unusedSimpArgs false
-- v2
-- v4
-- v5
-- v6
-- v7
namespace Go.Proofs.YgvafwGreat
open Go.HL Go.Proofs

section
variable {I : Ent → Prop} {sb ssz fb fsz o : Nat} {Ts Tf : TypeId} {cs cf : Nat → Value} {K : YK} {σ : NS} {M ML : List Ent}
/-- yp.Chain.Step where the instruction is refused -/
theorem yStepF (h : YI I fb cs cf K σ M ML) (hsz : 179 ≤ ssz) (hfz : 60 ≤ fsz) (hw0 : K.w0.lg = []) (ho : K.code.getD σ.pc 0 = o) (ho2 : o < 256) (h16 : famN o ≠ 16 ∨ σ.s.length < (arN o).1) (hr : refN K σ.w σ.s σ.gas σ.mem.length o ≠ 0) :
    CallG Hvaf.prog 30 #[ptr sb 0] ⟨I, ⟨sb, ssz, Ts, cs⟩ :: ⟨fb, fsz, Tf, cf⟩ :: (M ++ ML)⟩ fun r S' => r = .bool true ∧ ∃ J cs' R ML', S' = ⟨J, ⟨sb, ssz, Ts, cs'⟩ :: (R ++ ML')⟩ ∧ EndY J cs cs' ⟨refN K σ.w σ.s σ.gas σ.mem.length o, 0, [], K.w0⟩ ML' := by
  have hop := fun (G : List Ent) => yOpcode (G := G) (fb := fb) (T := Tf) hfz h.c.F.fpc h.c.F.fcode (Nat.lt_trans h.c.KB.code (by decide))
  rw [ho] at hop
  have href := fun (G : List Ent) => yRefN (G := G) (sb := sb) (ssz := ssz) (fb := fb) (fsz := fsz) (Ts := Ts) (Tf := Tf) (by omega) hfz h.c h.m h.e.ret ho2 h16
  have hge := refN_ge hr
  generalize refN K σ.w σ.s σ.gas σ.mem.length o = st at *
  have hph := h.e.ph
  obtain ⟨fc, hfr⟩ := h.fr
  have hnt := h.c.F.fn
  refine CallG.start (C := mkC Hvaf.prog) cok (args := [ptr sb 0]) Hvaf.func30 rfl Hvaf.ntmps30 (by simp) (by kernel_rfl) ?_
  repeat (first | (refine QuG.keep ?_; first | refine QuG.l1E cok 0 rfl rfl rfl rfl rfl (by first | exact Nat.le_of_ble_eq_true rfl | omega | (dsimp only; omega) | (simp only [addS_eq, mulS_eq]; omega)) (by assumption) ?_ | refine QuG.l1E cok 1 rfl rfl rfl rfl rfl (by first | exact Nat.le_of_ble_eq_true rfl | omega | (dsimp only; omega) | (simp only [addS_eq, mulS_eq]; omega)) (by assumption) ?_) | refine SeqS.go cok ?_ | refine GuardS.yes rfl ?_ | refine CondS.f rfl ?_ | refine And.intro (by omega) ?_ | (refine NatS.keep ?_; first | with_reducible refine NatS.nat ?_) | (refine ValS.keep ?_; first | (with_reducible refine ValS.kI64 ?_; first | (with_reducible refine ValS.subI64_L ?_ ?_ ?_ ; omega; omega))) | refine W.drawI 4 cok [0, 1, 3, 7, 0, 16, 48, 112, 240, 496, 1023, 2047] [0, 1, 2, 3, 4, 5, 6, 7, 8, 9, 10, 11] [3, 7] (by kernel_rfl) (by kernel_rfl) ?_)
  refine CallG.behind [⟨sb, ssz, Ts, cs⟩] (hop _) ?_
  rintro r J G1 hs ⟨e, rfl⟩
  cases e
  repeat (first | refine SeqS.go cok ?_)
  refine (href _).mono ?_
  rintro r ⟨J2, _⟩ hs2 ⟨v, rfl, -, rfl, -⟩
  replace hs2 : HL.Sub I J2 := hs2
  have h2 : YI J2 fb cs cf K σ M ML := ⟨h.c.up hs2, h.e.up hs2, h.m, h.l.up hs2, h.fr, h.o1⟩
  repeat (first | refine SeqS.go cok ?_ | (refine CondS.keep ?_; first | refine CondS.nd1 rfl (by omega) ?_))
  refine (yLeaveF2 (by omega) hfz h.c.F.fk hfr rfl h.o1 hge.1 hge.2).mono ?_
  rintro r _ - ⟨cs', rfl, hv⟩
  repeat (first | refine SeqS.go cok ?_)
  exact Fin.same ⟨rfl, J2, cs', ⟨fb, fsz, Tf, cf⟩ :: (M ++ ML), [], by rw [List.append_nil], endF h2 hw0 hv⟩
/-- yp.Chain.Step at STOP -/
theorem yStep0 (h : YI I fb cs cf K σ M ML) (hsz : 179 ≤ ssz) (hfz : 60 ≤ fsz) (hN : NOk K σ) (ho : K.code.getD σ.pc 0 = 0) (hr : refN K σ.w σ.s σ.gas σ.mem.length 0 = 0) :
    CallG Hvaf.prog 30 #[ptr sb 0] ⟨I, ⟨sb, ssz, Ts, cs⟩ :: ⟨fb, fsz, Tf, cf⟩ :: (M ++ ML)⟩ fun r S' => r = .bool true ∧ ∃ J cs' R ML', S' = ⟨J, ⟨sb, ssz, Ts, cs'⟩ :: (R ++ ML')⟩ ∧ EndY J cs cs' ⟨0, (paidN K σ 0).gas, [], σ.w⟩ ML' := by
  have hop := fun (G : List Ent) => yOpcode (G := G) (fb := fb) (T := Tf) hfz h.c.F.fpc h.c.F.fcode (Nat.lt_trans h.c.KB.code (by decide))
  rw [ho] at hop
  have href := fun (G : List Ent) => yRefN (G := G) (sb := sb) (ssz := ssz) (fb := fb) (fsz := fsz) (Ts := Ts) (Tf := Tf) (o := 0) (by omega) hfz h.c h.m h.e.ret (by decide) (.inl (by decide +kernel))
  rw [hr] at href
  obtain ⟨hp1, hp2, hp3, hp4⟩ := hN.paid (refN_ok hr).2.2.2.1
  have hph := h.e.ph
  obtain ⟨fc, hfr⟩ := h.fr
  have hnt := h.c.F.fn
  have hgN := h.c.F.fgas
  have hrb : reachN σ.s 0 < 2 ^ 29 := by omega
  refine CallG.start (C := mkC Hvaf.prog) cok (args := [ptr sb 0]) Hvaf.func30 rfl Hvaf.ntmps30 (by simp) (by kernel_rfl) ?_
  repeat (first | (refine QuG.keep ?_; first | refine QuG.l1E cok 0 rfl rfl rfl rfl rfl (by first | exact Nat.le_of_ble_eq_true rfl | omega | (dsimp only; omega) | (simp only [addS_eq, mulS_eq]; omega)) (by assumption) ?_ | refine QuG.l1E cok 1 rfl rfl rfl rfl rfl (by first | exact Nat.le_of_ble_eq_true rfl | omega | (dsimp only; omega) | (simp only [addS_eq, mulS_eq]; omega)) (by assumption) ?_) | refine SeqS.go cok ?_ | refine GuardS.yes rfl ?_ | refine CondS.f rfl ?_ | refine And.intro (by omega) ?_ | (refine NatS.keep ?_; first | with_reducible refine NatS.nat ?_) | (refine ValS.keep ?_; first | (with_reducible refine ValS.kI64 ?_; first | (with_reducible refine ValS.subI64_L ?_ ?_ ?_ ; omega; omega))) | refine W.drawI 4 cok [0, 1, 3, 7, 0, 16, 48, 112, 240, 496, 1023, 2047] [0, 1, 2, 3, 4, 5, 6, 7, 8, 9, 10, 11] [3, 7] (by kernel_rfl) (by kernel_rfl) ?_)
  refine CallG.behind [⟨sb, ssz, Ts, cs⟩] (hop _) ?_
  rintro r J G1 hs ⟨e, rfl⟩
  cases e
  repeat (first | refine SeqS.go cok ?_)
  refine (href _).mono ?_
  rintro r ⟨J2, _⟩ hs2 ⟨v, rfl, -, rfl, hcN⟩
  replace hs2 : HL.Sub I J2 := hs2
  replace hcN := hcN rfl
  replace hcN : NatI J2 v _ := hcN
  repeat (first | refine SeqS.go cok ?_ | refine CondS.f rfl ?_ | (refine QuG.keep ?_; first | refine QuG.l1 cok 1 rfl rfl rfl rfl rfl (by first | exact Nat.le_of_ble_eq_true rfl | omega | (dsimp only; omega) | (simp only [addS_eq, mulS_eq]; omega)) ?_))
  refine callN (yLess (hgN.up hs2) hcN) fun gv J3 hs3 hgv => ?_
  replace hs3 : HL.Sub J2 J3 := hs3
  have hgv1 := NatI.isl hgv
  repeat (first | (refine OpG.keep ?_; first | refine OpG.s1 cok 1 rfl rfl rfl rfl rfl (by first | exact Nat.le_of_ble_eq_true rfl | omega | (dsimp only; omega) | (simp only [addS_eq, mulS_eq]; omega)) rfl (by assumption) ?_) | refine SeqS.go cok ?_)
  refine CallG.behind [⟨sb, ssz, Ts, cs⟩] (yReach hfz (h.c.F.gas (hs2.trans hs3) hgv) (.inl (by decide))) ?_
  rintro r J4 _ hs4 ⟨e4, hrN⟩
  replace hs4 : HL.Sub J3 J4 := hs4
  cases e4
  replace hrN : NatI J4 r _ := hrN
  skip
  refine (yGrow2 (c := upd cf 4 gv) hfz h.m hrN hrb).mono ?_
  rintro r _ hs5 ⟨J5, mv, M', rfl, hm'⟩
  replace hs5 : HL.Sub J4 J5 := hs5
  have hsub : HL.Sub I J5 := ((hs2.trans hs3).trans hs4).trans hs5
  have h5 : YI J5 fb cs (upd (upd cf 4 gv) 9 mv) K (paidN K σ 0) M' ML := h.paid hsub (hgv.up (hs4.trans hs5)) hm'
  repeat (first | refine SeqS.go cok ?_ | refine CondS.t rfl ?_)
  refine (yLeaveS2 (st := 0) (by omega) hfz h5.c.F.fk hfr rfl h5.o1).mono ?_
  rintro r _ - ⟨cs', rfl, hv⟩
  repeat (first | refine SeqS.go cok ?_)
  exact Fin.same ⟨rfl, J5, cs', ⟨fb, fsz, Tf, _⟩ :: M', ML, rfl, endS h5 (Byt.nil _) hv⟩
/-- yp.Chain.Step at 243 -/
theorem yStepR (h : YI I fb cs cf K σ M ML) (hsz : 179 ≤ ssz) (hfz : 60 ≤ fsz) (hN : NOk K σ) (ho : K.code.getD σ.pc 0 = 243) (hr : refN K σ.w σ.s σ.gas σ.mem.length 243 = 0) :
    CallG Hvaf.prog 30 #[ptr sb 0] ⟨I, ⟨sb, ssz, Ts, cs⟩ :: ⟨fb, fsz, Tf, cf⟩ :: (M ++ ML)⟩ fun r S' => r = .bool true ∧ ∃ J cs' R ML', S' = ⟨J, ⟨sb, ssz, Ts, cs'⟩ :: (R ++ ML')⟩ ∧ EndY J cs cs' ⟨0, (paidN K σ 243).gas, cutL (paidN K σ 243).mem (argN σ.s 0) (argN σ.s 1), σ.w⟩ ML' := by
  have hop := fun (G : List Ent) => yOpcode (G := G) (fb := fb) (T := Tf) hfz h.c.F.fpc h.c.F.fcode (Nat.lt_trans h.c.KB.code (by decide))
  rw [ho] at hop
  have href := fun (G : List Ent) => yRefN (G := G) (sb := sb) (ssz := ssz) (fb := fb) (fsz := fsz) (Ts := Ts) (Tf := Tf) (o := 243) (by omega) hfz h.c h.m h.e.ret (by decide) (.inl (by decide +kernel))
  rw [hr] at href
  obtain ⟨hp1, hp2, hp3, hp4⟩ := hN.paid (refN_ok hr).2.2.2.1
  have hph := h.e.ph
  obtain ⟨fc, hfr⟩ := h.fr
  have hnt := h.c.F.fn
  have hgN := h.c.F.fgas
  have hrb : reachN σ.s 243 < 2 ^ 29 := by omega
  refine CallG.start (C := mkC Hvaf.prog) cok (args := [ptr sb 0]) Hvaf.func30 rfl Hvaf.ntmps30 (by simp) (by kernel_rfl) ?_
  repeat (first | (refine QuG.keep ?_; first | refine QuG.l1E cok 0 rfl rfl rfl rfl rfl (by first | exact Nat.le_of_ble_eq_true rfl | omega | (dsimp only; omega) | (simp only [addS_eq, mulS_eq]; omega)) (by assumption) ?_ | refine QuG.l1E cok 1 rfl rfl rfl rfl rfl (by first | exact Nat.le_of_ble_eq_true rfl | omega | (dsimp only; omega) | (simp only [addS_eq, mulS_eq]; omega)) (by assumption) ?_) | refine SeqS.go cok ?_ | refine GuardS.yes rfl ?_ | refine CondS.f rfl ?_ | refine And.intro (by omega) ?_ | (refine NatS.keep ?_; first | with_reducible refine NatS.nat ?_) | (refine ValS.keep ?_; first | (with_reducible refine ValS.kI64 ?_; first | (with_reducible refine ValS.subI64_L ?_ ?_ ?_ ; omega; omega))) | refine W.drawI 4 cok [0, 1, 3, 7, 0, 16, 48, 112, 240, 496, 1023, 2047] [0, 1, 2, 3, 4, 5, 6, 7, 8, 9, 10, 11] [3, 7] (by kernel_rfl) (by kernel_rfl) ?_)
  refine CallG.behind [⟨sb, ssz, Ts, cs⟩] (hop _) ?_
  rintro r J G1 hs ⟨e, rfl⟩
  cases e
  repeat (first | refine SeqS.go cok ?_)
  refine (href _).mono ?_
  rintro r ⟨J2, _⟩ hs2 ⟨v, rfl, -, rfl, hcN⟩
  replace hs2 : HL.Sub I J2 := hs2
  replace hcN := hcN rfl
  replace hcN : NatI J2 v _ := hcN
  repeat (first | refine SeqS.go cok ?_ | refine CondS.f rfl ?_ | (refine QuG.keep ?_; first | refine QuG.l1 cok 1 rfl rfl rfl rfl rfl (by first | exact Nat.le_of_ble_eq_true rfl | omega | (dsimp only; omega) | (simp only [addS_eq, mulS_eq]; omega)) ?_))
  refine callN (yLess (hgN.up hs2) hcN) fun gv J3 hs3 hgv => ?_
  replace hs3 : HL.Sub J2 J3 := hs3
  have hgv1 := NatI.isl hgv
  repeat (first | (refine OpG.keep ?_; first | refine OpG.s1 cok 1 rfl rfl rfl rfl rfl (by first | exact Nat.le_of_ble_eq_true rfl | omega | (dsimp only; omega) | (simp only [addS_eq, mulS_eq]; omega)) rfl (by assumption) ?_) | refine SeqS.go cok ?_)
  refine CallG.behind [⟨sb, ssz, Ts, cs⟩] (yReach hfz (h.c.F.gas (hs2.trans hs3) hgv) (.inr (.inl rfl))) ?_
  rintro r J4 _ hs4 ⟨e4, hrN⟩
  replace hs4 : HL.Sub J3 J4 := hs4
  cases e4
  replace hrN : NatI J4 r _ := hrN
  skip
  refine (yGrow2 (c := upd cf 4 gv) hfz h.m hrN hrb).mono ?_
  rintro r _ hs5 ⟨J5, mv, M', rfl, hm'⟩
  replace hs5 : HL.Sub J4 J5 := hs5
  have hsub : HL.Sub I J5 := ((hs2.trans hs3).trans hs4).trans hs5
  have h5 : YI J5 fb cs (upd (upd cf 4 gv) 9 mv) K (paidN K σ 243) M' ML := h.paid hsub (hgv.up (hs4.trans hs5)) hm'
  have hM5 := h5.m
  have hn40 : argN σ.s 1 < 2 ^ 40 := by
    have hq : endN (argN σ.s 0) (argN σ.s 1) < 2 ^ 29 := hrb
    unfold endN at hq
    by_cases hz : argN σ.s 1 = 0
    · rw [hz]; decide
    · rw [if_neg hz] at hq; omega
  repeat (first | refine SeqS.go cok ?_ | refine CondS.t rfl ?_ | refine CondS.f rfl ?_)
  refine CallG.behind [⟨sb, ssz, Ts, cs⟩] (yArgF (i := 0) hfz h5.c.F (by decide)) ?_
  rintro r J6 _ hs6 ⟨e6, ha0⟩
  cases e6
  skip
  refine CallG.behind [⟨sb, ssz, Ts, cs⟩] (yArgF (i := 1) hfz h5.c.F (by decide)) ?_
  rintro r J7 _ hs7 ⟨e7, ha1⟩
  cases e7
  skip
  have q0 : (paidN K σ 243).mem.length < 2 ^ 40 := Nat.lt_trans hM5.len (by decide)
  have q1 : Byt ⟨J5, ⟨fb, fsz, Tf, upd (upd cf 4 gv) 9 mv⟩ :: (M' ++ ML)⟩ (upd (upd cf 4 gv) 9 mv 9) (paidN K σ 243).mem := hM5.byt (fun x hx => List.mem_cons_of_mem _ (List.mem_append_left _ hx))
  replace ha0 : NatI J5 _ (argN σ.s 0) := ha0
  replace ha1 : NatI J5 _ (argN σ.s 1) := ha1
  have hread := fun (v u : Value) (o n : Nat) (h0 : NatI J5 v o) (h1 : NatI J5 u n) (h40 : n < 2 ^ 40) => yRead (fb := fb) (T := Tf) hfz q1 h0 h1 h40 q0
  replace hread := hread _ _ _ _ ha0 ha1 hn40
  refine CallG.behindB (l := cutL (paidN K σ 243).mem (argN σ.s 0) (argN σ.s 1)) (G1 := ⟨fb, fsz, Tf, upd (upd cf 4 gv) 9 mv⟩ :: (M' ++ ML)) [⟨sb, ssz, Ts, cs⟩] hread ?_
  intro dad dcap J8 hs8 hrd
  replace hs8 : HL.Sub J5 J8 := hs8
  have h8 : YI J8 fb cs (upd (upd cf 4 gv) 9 mv) K (paidN K σ 243) M' ML := ⟨h5.c.up hs8, h5.e.up hs8, h5.m, h5.l.up hs8, h5.fr, h5.o1⟩
  clear hread
  skip
  refine (yLeaveS2 (st := 0) (by omega) hfz h5.c.F.fk hfr rfl h5.o1).mono ?_
  rintro r _ - ⟨cs', rfl, hv⟩
  repeat (first | refine SeqS.go cok ?_)
  exact Fin.same ⟨rfl, J8, cs', ⟨fb, fsz, Tf, _⟩ :: M', ML, rfl, endS h8 hrd hv⟩
/-- yp.Chain.Step at 253 -/
theorem yStepV (h : YI I fb cs cf K σ M ML) (hsz : 179 ≤ ssz) (hfz : 60 ≤ fsz) (hN : NOk K σ) (hw0 : K.w0.lg = []) (ho : K.code.getD σ.pc 0 = 253) (hr : refN K σ.w σ.s σ.gas σ.mem.length 253 = 0) :
    CallG Hvaf.prog 30 #[ptr sb 0] ⟨I, ⟨sb, ssz, Ts, cs⟩ :: ⟨fb, fsz, Tf, cf⟩ :: (M ++ ML)⟩ fun r S' => r = .bool true ∧ ∃ J cs' R ML', S' = ⟨J, ⟨sb, ssz, Ts, cs'⟩ :: (R ++ ML')⟩ ∧ EndY J cs cs' ⟨1, (paidN K σ 253).gas, cutL (paidN K σ 253).mem (argN σ.s 0) (argN σ.s 1), K.w0⟩ ML' := by
  have hop := fun (G : List Ent) => yOpcode (G := G) (fb := fb) (T := Tf) hfz h.c.F.fpc h.c.F.fcode (Nat.lt_trans h.c.KB.code (by decide))
  rw [ho] at hop
  have href := fun (G : List Ent) => yRefN (G := G) (sb := sb) (ssz := ssz) (fb := fb) (fsz := fsz) (Ts := Ts) (Tf := Tf) (o := 253) (by omega) hfz h.c h.m h.e.ret (by decide) (.inl (by decide +kernel))
  rw [hr] at href
  obtain ⟨hp1, hp2, hp3, hp4⟩ := hN.paid (refN_ok hr).2.2.2.1
  have hph := h.e.ph
  obtain ⟨fc, hfr⟩ := h.fr
  have hnt := h.c.F.fn
  have hgN := h.c.F.fgas
  have hrb : reachN σ.s 253 < 2 ^ 29 := by omega
  refine CallG.start (C := mkC Hvaf.prog) cok (args := [ptr sb 0]) Hvaf.func30 rfl Hvaf.ntmps30 (by simp) (by kernel_rfl) ?_
  repeat (first | (refine QuG.keep ?_; first | refine QuG.l1E cok 0 rfl rfl rfl rfl rfl (by first | exact Nat.le_of_ble_eq_true rfl | omega | (dsimp only; omega) | (simp only [addS_eq, mulS_eq]; omega)) (by assumption) ?_ | refine QuG.l1E cok 1 rfl rfl rfl rfl rfl (by first | exact Nat.le_of_ble_eq_true rfl | omega | (dsimp only; omega) | (simp only [addS_eq, mulS_eq]; omega)) (by assumption) ?_) | refine SeqS.go cok ?_ | refine GuardS.yes rfl ?_ | refine CondS.f rfl ?_ | refine And.intro (by omega) ?_ | (refine NatS.keep ?_; first | with_reducible refine NatS.nat ?_) | (refine ValS.keep ?_; first | (with_reducible refine ValS.kI64 ?_; first | (with_reducible refine ValS.subI64_L ?_ ?_ ?_ ; omega; omega))) | refine W.drawI 4 cok [0, 1, 3, 7, 0, 16, 48, 112, 240, 496, 1023, 2047] [0, 1, 2, 3, 4, 5, 6, 7, 8, 9, 10, 11] [3, 7] (by kernel_rfl) (by kernel_rfl) ?_)
  refine CallG.behind [⟨sb, ssz, Ts, cs⟩] (hop _) ?_
  rintro r J G1 hs ⟨e, rfl⟩
  cases e
  repeat (first | refine SeqS.go cok ?_)
  refine (href _).mono ?_
  rintro r ⟨J2, _⟩ hs2 ⟨v, rfl, -, rfl, hcN⟩
  replace hs2 : HL.Sub I J2 := hs2
  replace hcN := hcN rfl
  replace hcN : NatI J2 v _ := hcN
  repeat (first | refine SeqS.go cok ?_ | refine CondS.f rfl ?_ | (refine QuG.keep ?_; first | refine QuG.l1 cok 1 rfl rfl rfl rfl rfl (by first | exact Nat.le_of_ble_eq_true rfl | omega | (dsimp only; omega) | (simp only [addS_eq, mulS_eq]; omega)) ?_))
  refine callN (yLess (hgN.up hs2) hcN) fun gv J3 hs3 hgv => ?_
  replace hs3 : HL.Sub J2 J3 := hs3
  have hgv1 := NatI.isl hgv
  repeat (first | (refine OpG.keep ?_; first | refine OpG.s1 cok 1 rfl rfl rfl rfl rfl (by first | exact Nat.le_of_ble_eq_true rfl | omega | (dsimp only; omega) | (simp only [addS_eq, mulS_eq]; omega)) rfl (by assumption) ?_) | refine SeqS.go cok ?_)
  refine CallG.behind [⟨sb, ssz, Ts, cs⟩] (yReach hfz (h.c.F.gas (hs2.trans hs3) hgv) (.inr (.inr rfl))) ?_
  rintro r J4 _ hs4 ⟨e4, hrN⟩
  replace hs4 : HL.Sub J3 J4 := hs4
  cases e4
  replace hrN : NatI J4 r _ := hrN
  skip
  refine (yGrow2 (c := upd cf 4 gv) hfz h.m hrN hrb).mono ?_
  rintro r _ hs5 ⟨J5, mv, M', rfl, hm'⟩
  replace hs5 : HL.Sub J4 J5 := hs5
  have hsub : HL.Sub I J5 := ((hs2.trans hs3).trans hs4).trans hs5
  have h5 : YI J5 fb cs (upd (upd cf 4 gv) 9 mv) K (paidN K σ 253) M' ML := h.paid hsub (hgv.up (hs4.trans hs5)) hm'
  have hM5 := h5.m
  have hn40 : argN σ.s 1 < 2 ^ 40 := by
    have hq : endN (argN σ.s 0) (argN σ.s 1) < 2 ^ 29 := hrb
    unfold endN at hq
    by_cases hz : argN σ.s 1 = 0
    · rw [hz]; decide
    · rw [if_neg hz] at hq; omega
  repeat (first | refine SeqS.go cok ?_ | refine CondS.t rfl ?_ | refine CondS.f rfl ?_)
  refine CallG.behind [⟨sb, ssz, Ts, cs⟩] (yArgF (i := 0) hfz h5.c.F (by decide)) ?_
  rintro r J6 _ hs6 ⟨e6, ha0⟩
  cases e6
  skip
  refine CallG.behind [⟨sb, ssz, Ts, cs⟩] (yArgF (i := 1) hfz h5.c.F (by decide)) ?_
  rintro r J7 _ hs7 ⟨e7, ha1⟩
  cases e7
  skip
  have q0 : (paidN K σ 253).mem.length < 2 ^ 40 := Nat.lt_trans hM5.len (by decide)
  have q1 : Byt ⟨J5, ⟨fb, fsz, Tf, upd (upd cf 4 gv) 9 mv⟩ :: (M' ++ ML)⟩ (upd (upd cf 4 gv) 9 mv 9) (paidN K σ 253).mem := hM5.byt (fun x hx => List.mem_cons_of_mem _ (List.mem_append_left _ hx))
  replace ha0 : NatI J5 _ (argN σ.s 0) := ha0
  replace ha1 : NatI J5 _ (argN σ.s 1) := ha1
  have hread := fun (v u : Value) (o n : Nat) (h0 : NatI J5 v o) (h1 : NatI J5 u n) (h40 : n < 2 ^ 40) => yRead (fb := fb) (T := Tf) hfz q1 h0 h1 h40 q0
  replace hread := hread _ _ _ _ ha0 ha1 hn40
  refine CallG.behindB (l := cutL (paidN K σ 253).mem (argN σ.s 0) (argN σ.s 1)) (G1 := ⟨fb, fsz, Tf, upd (upd cf 4 gv) 9 mv⟩ :: (M' ++ ML)) [⟨sb, ssz, Ts, cs⟩] hread ?_
  intro dad dcap J8 hs8 hrd
  replace hs8 : HL.Sub J5 J8 := hs8
  have h8 : YI J8 fb cs (upd (upd cf 4 gv) 9 mv) K (paidN K σ 253) M' ML := ⟨h5.c.up hs8, h5.e.up hs8, h5.m, h5.l.up hs8, h5.fr, h5.o1⟩
  clear hread
  skip
  refine (yLeaveR2 (st := 1) (by omega) hfz h5.c.F.fk hfr rfl h5.o1).mono ?_
  rintro r _ - ⟨cs', rfl, hv⟩
  repeat (first | refine SeqS.go cok ?_)
  exact Fin.same ⟨rfl, J8, cs', ⟨fb, fsz, Tf, _⟩ :: (M' ++ ML), [], by rw [List.append_nil], endR h8 hw0 hrd hv⟩
end
end Go.Proofs.YgvafwGreat
