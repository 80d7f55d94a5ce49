import Derived.Test.YgvafwGreatY97
import Derived.Test.YgvafwGreatY73
set_option exponentiation.threshold 1000
set_option maxRecDepth 100000
set_option maxHeartbeats 4000000
set_option linter.unusedVariables false
set_option linter.unusedSimpArgs false
-- v2
-- v4
-- v5
-- v6
-- v7
-- still: exact QuV.of (QuG.upL cok 1 rfl rfl rfl rfl rfl rfl (by assumption) (by first | exact Nat.le_of_ble_eq_true rfl | omega) rfl)
-- still: exact QuV.of (QuG.upL cok 0 rfl rfl rfl rfl rfl rfl (by assumption) (by first | exact Nat.le_of_ble_eq_true rfl | omega) rfl)
namespace Go.Proofs.YgvafwGreat
open Go.HL Go.Proofs

theorem YI.paidG {I J : Ent → Prop} {fb g : Nat} {cs cf : Nat → Value} {K : YK} {σ : NS} {M M' ML : List Ent} {gv mv : Value} {mem : List Nat} (h : YI I fb cs cf K σ M ML) (hs : Sub I J) (hg : NatI J gv g) (hm : MemO mv mem M') :
    YI J fb cs (upd (upd cf 4 gv) 9 mv) K ⟨σ.pc, g, σ.s, mem, σ.w⟩ M' ML := by
  refine ⟨⟨h.c.W.up hs, h.c.F.paid hs hg, h.c.S.up hs, h.c.B, h.c.KB⟩, h.e.up hs, hm, h.l.up hs, h.fr, fun k hk => ?_⟩
  unfold upd
  split
  · exact hm.isl
  · split
    · exact NatI.isl hg
    · exact h.o1 k hk
theorem YI.warmed {I J : Ent → Prop} {fb : Nat} {cs cf : Nat → Value} {K : YK} {σ : NS} {M ML : List Ent} {v : Value} {a : List Nat} (h : YI I fb cs cf K σ M ML) (hs : Sub I J) (hw : RowI J 20 v ((withA a σ.w.wa).map bvs)) (ha : AdOk a) (hB : (withA a σ.w.wa).length < 2 ^ 17) :
    YI J fb (upd cs 1 v) cf K { σ with w := { σ.w with wa := withA a σ.w.wa } } M ML := by
  have hW := h.c.W.up hs
  have e : ∀ k, 6 ≤ k → upd cs 1 v k = cs k := fun k hk => upd_ne (by omega)
  refine ⟨⟨⟨hW.acc, hw, withA_ok hW.wok ha, hW.mks, hW.rfd, hW.tmp, hW.mde, hW.mok, hW.gne⟩, h.c.F.up hs, h.c.S.up hs, { h.c.B with wa := hB }, h.c.KB⟩, h.e.keep hs e, h.m, h.l.up hs, h.fr, h.o1⟩
theorem _root_.Go.HL.CallG.skip2 {P : Program} {f : FuncId} {args : Array Value} {I : Ent → Prop} {a x : Ent} {G : List Ent} {K : Post} (h : CallG P f args ⟨I, a :: G⟩ K) : CallG P f args ⟨I, a :: x :: G⟩ K :=
  ⟨fun F w hw => h.run F w (Holds.drop (S := ⟨I, a :: G⟩) (G1 := [x]) (hw.perm (List.Perm.swap x a G)))⟩
theorem endYK {J : Ent → Prop} {cs cs1 cs' : Nat → Value} {e : NE} {ML : List Ent} (h : EndY J cs cs' e ML) (hk : ∀ k, 6 ≤ k → cs k = cs1 k) : EndY J cs1 cs' e ML :=
  ⟨h.w, h.l, h.fr, h.rt, h.ph, h.st, h.gs, fun k h1 h2 => (h.rs k h1 h2).trans (hk k (by omega)), h.r8.trans (hk 8 (by omega))⟩
theorem YI.up {I J : Ent → Prop} {fb : Nat} {cs cf : Nat → Value} {K : YK} {σ : NS} {M ML : List Ent} (h : YI I fb cs cf K σ M ML) (hs : Sub I J) : YI J fb cs cf K σ M ML :=
  ⟨⟨h.c.W.up hs, h.c.F.up hs, h.c.S.up hs, h.c.B, h.c.KB⟩, h.e.up hs, h.m, h.l.up hs, h.fr, h.o1⟩
/-- yp.State.destroys where the own balance is 0 and nothing was made -/
theorem yDestroys {I : Ent → Prop} {sb ssz fb fsz : Nat} {Ts Tf : TypeId} {cs cf : Nat → Value} {K : YK} {σ : NS} {M ML : List Ent} (h : YI I fb cs cf K σ M ML) (hsz : 179 ≤ ssz) (hfz : 60 ≤ fsz) (hmd : σ.w.md = []) (hbal : (getA σ.w.al K.self).bal = 0) (hB : σ.w.wa.length < 60000) :
    CallG Hvaf.prog 74 #[ptr sb 0, ptr fb 0] ⟨I, ⟨sb, ssz, Ts, cs⟩ :: ⟨fb, fsz, Tf, cf⟩ :: (M ++ ML)⟩ fun r S' => ∃ J cs' R ML', S' = ⟨J, ⟨sb, ssz, Ts, cs'⟩ :: (R ++ ML')⟩ ∧ EndY J cs cs' ⟨0, σ.gas, [], { σ.w with wa := withA (adN (argN σ.s 0)) σ.w.wa }⟩ ML' := by
  have hA := h.c.KB.kself
  have hb20 := hA.bv
  have hl20 := hA.len
  have hrow := h.c.F.fself
  have hA0 := adN_ok (argN σ.s 0)
  have ha20 := hA0.bv
  have hal20 := hA0.len
  have h17 : (withA (adN (argN σ.s 0)) σ.w.wa).length < 2 ^ 17 := by
    have := withA_len (adN (argN σ.s 0)) σ.w.wa
    omega
  have hwm := fun (G : List Ent) => yWarm (G := G) (wb := sb) (sz := ssz) (T := Ts) (c := cs) (by omega) h.c.W.wrm hA0 h.c.W.wok (by omega)
  have hfr := h.fr
  obtain ⟨fc, hfc⟩ := hfr
  generalize hadd : adN (argN σ.s 0) = ad at *
  refine CallG.start (C := mkC Hvaf.prog) cok (args := [ptr sb 0, ptr fb 0]) Hvaf.func74 rfl Hvaf.ntmps74 (by simp) (by kernel_rfl) ?_
  skip
  refine CallG.focus 1 rfl ?_
  refine (yArgF (i := 0) hfz h.c.F (by decide)).mono ?_
  rintro u _ - ⟨rfl, hu⟩
  skip
  refine (yAddrOf hu).mono ?_
  rintro r _ - ⟨rfl, rfl⟩
  rw [hadd]
  intro x1
  repeat (first | (refine QuG.keep ?_; first | refine QuG.upL cok 0 rfl rfl rfl rfl rfl rfl (by assumption) (by first | exact Nat.le_of_ble_eq_true rfl | omega) ?_) | (refine OpG.keep ?_; first | refine OpG.upS cok 0 rfl rfl rfl rfl rfl (by assumption) (by first | assumption | exact one_bvs _) (by first | exact Nat.le_of_ble_eq_true rfl | omega) ?_) | refine SeqS.go cok ?_ | refine W.drawI 1 cok [0, 1, 3, 0, 15] [0, 1, 2, 3, 4] [3] (by kernel_rfl) (by kernel_rfl) ?_)
  refine CallG.focus 2 rfl ?_
  refine (hwm _).mono ?_
  rintro r _ hs1 ⟨J1, wv, rfl, hw1⟩
  replace hs1 : HL.Sub I J1 := hs1
  have h1 := h.warmed hs1 hw1 hA0 h17
  have hmd1 : RowI J1 20 (upd cs 1 wv 6) (([] : List (List Nat)).map bvs) := by have := h1.c.W.mde; rw [show ({ σ with w := { σ.w with wa := withA ad σ.w.wa } } : NS).w.md = [] from hmd] at this; exact this
  have hli := fun (G : List Ent) => yListed (G := G) hmd1 hb20 hl20 (by simp) (by decide)
  have hac := fun (G : List Ent) => yAccount (I := J1) (G := G) (wb := sb) (sz := ssz) (T := Ts) (c := upd cs 1 wv) (by omega) h1.c.W.acc hA (by have := h.c.B.al; show σ.w.al.length < _; omega)
  repeat (first | (refine QuG.keep ?_; first | refine QuG.upL cok 1 rfl rfl rfl rfl rfl rfl (by assumption) (by first | exact Nat.le_of_ble_eq_true rfl | omega) ?_ | refine QuG.rowA cok 2 rfl rfl rfl rfl rfl (by assumption) (by assumption) (by first | exact Nat.le_of_ble_eq_true rfl | omega | (dsimp only; omega) | (simp only [addS_eq, mulS_eq]; omega)) ?_ | refine QuG.neA cok .u8 rfl rfl rfl rfl rfl (by kernel_rfl) rfl rfl (by assumption) (by assumption) ?_) | refine SeqS.go cok ?_ | (refine still_in ?_; first | refine still_drop (by decide) ?_) | refine W.drawI 2 cok [0, 0, 2, 6, 14, 31] [0, 1, 2, 3, 4, 5] [0, 4] (by kernel_rfl) (by kernel_rfl) ?_)
  (first | refine CondS.nd rfl (fun heq => ?_) (fun heq => ?_))
  · repeat (first | (refine QuG.keep ?_; first | refine QuG.upL cok 1 rfl rfl rfl rfl rfl rfl (by assumption) (by first | exact Nat.le_of_ble_eq_true rfl | omega) ?_ | refine QuG.rowA cok 2 rfl rfl rfl rfl rfl (by assumption) (by assumption) (by first | exact Nat.le_of_ble_eq_true rfl | omega | (dsimp only; omega) | (simp only [addS_eq, mulS_eq]; omega)) ?_) | refine W.drawI 3 cok [0, 1, 3, 0, 8, 24, 56, 0, 0, 256, 768, 0, 2048, 6144, 14336, 32512, 65280, 131071] [0, 1, 2, 3, 4, 5, 6, 7, 8, 9, 10, 11, 12, 13, 14, 15, 16, 17] [6, 7, 14] (by kernel_rfl) (by kernel_rfl) ?_)
    refine (hac _).mono ?_
    rintro r _ - ⟨rfl, l, rfl, hacl⟩
    have h24 := hacl.len
    obtain ⟨nv, bv, cv, sv, g0, g1, g2, g3, n1, n2, n3, n4⟩ := hacl.get
    have hb0 : NatI J1 bv 0 := hbal ▸ n2
    repeat (first | (refine QuG.keep ?_; first | refine QuG.fldE cok Hvaf.underlying121 rfl rfl rfl rfl (by first | omega | (simp; omega)) (by assumption) ?_) | (refine still_in ?_; first | refine still_drop (by decide) ?_ | (refine still_keep (by decide) rfl ?_ ?_; first | exact QuV.of (QuG.rowA cok 2 rfl rfl rfl rfl rfl (by assumption) (by assumption) (by first | exact Nat.le_of_ble_eq_true rfl | omega | (dsimp only; omega)) rfl) | exact QuV.of (QuG.upL cok 1 rfl rfl rfl rfl rfl rfl (by assumption) (by first | exact Nat.le_of_ble_eq_true rfl | omega) rfl))))
    refine (yMove0 (I := J1) (wb := sb) (sz := ssz) (T := Ts) (c := upd cs 1 wv) (a := K.self) (b := ad) (by omega) h1.c.W.acc hA hb0 (by have := h.c.B.al; show σ.w.al.length < _; omega)).mono ?_
    rintro r ⟨J2, _⟩ hs2 rfl
    replace hs2 : HL.Sub J1 J2 := hs2
    repeat (first | (refine QuG.keep ?_; first | refine QuG.rowA cok 2 rfl rfl rfl rfl rfl (by assumption) (by assumption) (by first | exact Nat.le_of_ble_eq_true rfl | omega | (dsimp only; omega) | (simp only [addS_eq, mulS_eq]; omega)) ?_) | refine SeqS.go cok ?_ | (refine QuG.keep ?_; first | refine QuG.l1 cok 0 rfl rfl rfl rfl rfl (by first | exact Nat.le_of_ble_eq_true rfl | omega | (dsimp only; omega) | (simp only [addS_eq, mulS_eq]; omega)) ?_) | (refine still_in ?_; first | refine still_drop (by decide) ?_) | refine W.drawI 4 cok [0, 1, 3, 7, 15, 0, 32, 96, 224, 511] [0, 1, 2, 3, 4, 5, 6, 7, 8, 9] [4, 8] (by kernel_rfl) (by kernel_rfl) ?_)
    refine (yListed (I := J2) (hmd1.up hs2) hb20 hl20 (by simp) (by decide)).mono ?_
    rintro r _ - ⟨rfl, rfl⟩
    repeat (first | refine SeqS.go cok ?_ | refine CondS.f rfl ?_ | (refine still_in ?_; first | refine still_drop (by decide) ?_))
    refine CallG.skip2 ?_
    refine (yLeaveS2 (st := 0) (by omega) hfz h1.c.F.fk (show upd cs 1 wv 9 = _ from hfc) rfl h1.o1).mono ?_
    rintro r _ - ⟨cs', rfl, hv⟩
    skip
    exact Fin.same ⟨_, cs', ⟨fb, fsz, Tf, _⟩ :: M, ML, rfl, endYK (endS (h1.up hs2) (Byt.nil _) hv) fun k hk => upd_ne (by omega)⟩
  · repeat (first | (refine QuG.keep ?_; first | refine QuG.rowA cok 2 rfl rfl rfl rfl rfl (by assumption) (by assumption) (by first | exact Nat.le_of_ble_eq_true rfl | omega | (dsimp only; omega) | (simp only [addS_eq, mulS_eq]; omega)) ?_) | refine SeqS.go cok ?_ | (refine QuG.keep ?_; first | refine QuG.l1 cok 0 rfl rfl rfl rfl rfl (by first | exact Nat.le_of_ble_eq_true rfl | omega | (dsimp only; omega) | (simp only [addS_eq, mulS_eq]; omega)) ?_) | refine W.drawI 4 cok [0, 1, 3, 7, 15, 0, 32, 96, 224, 511] [0, 1, 2, 3, 4, 5, 6, 7, 8, 9] [4, 8] (by kernel_rfl) (by kernel_rfl) ?_)
    refine (yListed (I := J1) (hmd1.up (fun _ h => h)) hb20 hl20 (by simp) (by decide)).mono ?_
    rintro r _ - ⟨rfl, rfl⟩
    repeat (first | refine SeqS.go cok ?_ | refine CondS.f rfl ?_ | (refine still_in ?_; first | refine still_drop (by decide) ?_))
    refine CallG.skip2 ?_
    refine (yLeaveS2 (st := 0) (by omega) hfz h1.c.F.fk (show upd cs 1 wv 9 = _ from hfc) rfl h1.o1).mono ?_
    rintro r _ - ⟨cs', rfl, hv⟩
    skip
    exact Fin.same ⟨_, cs', ⟨fb, fsz, Tf, _⟩ :: M, ML, rfl, endYK (endS (h1.up (fun _ h => h)) (Byt.nil _) hv) fun k hk => upd_ne (by omega)⟩
end Go.Proofs.YgvafwGreat
