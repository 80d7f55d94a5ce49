import Derived.Test.YgvafwGreatE34
import Derived.Test.YgvafwGreatE28
set_option exponentiation.threshold 1000
set_option maxRecDepth 100000
set_option maxHeartbeats 4000000
set_option linter.unusedVariables false
set_option linter.unusedSimpArgs false
-- v2
-- v4
-- v5
-- v6
-- v7
namespace Go.Proofs.YgvafwGreat
open Go.HL Go.Proofs
/-- mach.Machine.OpCopy, 60, nothing to copy -/
theorem mCp60z {I : Ent → Prop} {R G : List Ent} {cb sz pc gas : Nat} {T : TypeId} {c : Nat → Value} {K : YK} {V : Vl} {s : List Nat} (hV : VI I c V G) (hO : VOk V) (hsz : 27019 ≤ sz) (hK : MK I cb c K) (hM : MV c pc gas s) (hpb : pc + 1 < 60000) (ho : K.code.getD pc 0 = 60) (hs4 : 4 ≤ s.length) (hroom : V.ac.length < 1990) (hj : V.jr.length < 59990) (hz : argN s 3 = 0) :
    CallG Hvaf.prog 205 #[ptr cb 0] ⟨I, ⟨cb, sz, T, c⟩ :: (R ++ G)⟩ (SetK R cb sz T c (pc + 1) gas (s.take (s.length - 4)) (WmP V (adN (argN s 0)))) := by
  have hsz' : 2435 ≤ sz := by omega
  have hrn := mRunning (I := I) (G := R ++ G) (cb := cb) (T := T) hsz' hK
  have hmS := hK.mS
  have ha0 := mArg (I := I) (G := R ++ G) (cb := cb) (T := T) (i := 0) hsz' hK.fsb hM (by decide)
  have ha1 := mArg (I := I) (G := R ++ G) (cb := cb) (T := T) (i := 1) hsz' hK.fsb hM (by decide)
  have ha2 := mArg (I := I) (G := R ++ G) (cb := cb) (T := T) (i := 2) hsz' hK.fsb hM (by decide)
  have hop := mOpcode (I := I) (G := R ++ G) (cb := cb) (T := T) hsz' hK hM
  rw [ho] at hop
  have ha3 := fun J c1 G1 (h : Out c c1) => mArg (I := J) (G := R ++ G1) (cb := cb) (T := T) (i := 3) hsz' (hK.out h).fsb (hM.out h) (by decide)
  have hb0 : argN s 0 < 115792089237316195423570985008687907853269984665640564039457584007913129639936 := argN_lt hM.sb
  have hb2 : argN s 2 < 115792089237316195423570985008687907853269984665640564039457584007913129639936 := argN_lt hM.sb
  have hb3 : argN s 3 < 115792089237316195423570985008687907853269984665640564039457584007913129639936 := argN_lt hM.sb
  have had := fun S => mAddrOf (S := S) hb0
  have hA' := adN_ok (argN s 0)
  have hwm := mWarm (R := R) (cb := cb) (T := T) (a := adN (argN s 0)) hsz hmS hV hO hA' hroom hj
  have hmS1 := fun c1 (h : Out c c1) => (hK.out h).mS
  have hal := hA'.len
  have hab := hA'.bv
  have hu := fun S => UIsZero_spec (S := S) hb3
  have hcd := fun c1 G1 V1 (h1 : VI I c1 V1 G1) (h2 : VOk V1) (h4 : WmP V (adN (argN s 0)) V1) => vCode (R := R) (cb := cb) (T := T) hsz h1 h2 hA'
  have hcd := fun c1 G1 V1 h1 h2 (h4 : WmP V (adN (argN s 0)) V1) => h4.acc.2.2 ▸ hcd c1 G1 V1 h1 h2 h4
  have hcl := (Vl.acc_lt hO (adN (argN s 0))).2
  rw [decide_eq_true hz] at hu
  have hse := fun J c1 G1 (h : Out c c1) => mSettleN (I := J) (G := R ++ G1) (cb := cb) (T := T) (t := 4) (step := 1) (ws := [.int .u64 0, .int .u64 0, .int .u64 0, .int .u64 0]) hsz' (hM.out h) hs4 hpb rfl
  generalize s.take (s.length - 4) = s' at *
  generalize hadn : adN (argN s 0) = ad at *
  generalize argN s 0 = a0 at *
  generalize argN s 1 = a1 at *
  generalize argN s 2 = a2 at *
  generalize argN s 3 = a3 at *
  refine CallG.start (C := mkC Hvaf.prog) cok (args := [ptr cb 0]) Hvaf.func205 rfl Hvaf.ntmps205 (by simp) (by kernel_rfl) ?_
  skip
  refine CallG.sameL [] hrn ?_
  repeat (first | refine SeqS.go cok ?_ | refine CondS.f rfl ?_)
  refine CallG.sameL [] ha0 ?_
  intro x1
  repeat (first | refine SeqS.go cok ?_ | (refine OpG.keep ?_; first | refine OpG.sL cok 0 rfl rfl rfl rfl rfl rfl rfl (by first | exact Nat.le_of_ble_eq_true rfl | omega | (dsimp only; omega) | (simp only [addS_eq, mulS_eq]; omega)) ?_))
  refine CallG.sameL [_] ha1 ?_
  intro x2
  repeat (first | refine SeqS.go cok ?_ | (refine OpG.keep ?_; first | refine OpG.sL cok 0 rfl rfl rfl rfl rfl rfl rfl (by first | exact Nat.le_of_ble_eq_true rfl | omega | (dsimp only; omega) | (simp only [addS_eq, mulS_eq]; omega)) ?_))
  refine CallG.sameL [_, _] ha2 ?_
  intro x3
  repeat (first | refine SeqS.go cok ?_ | (refine OpG.keep ?_; first | refine OpG.sL cok 0 rfl rfl rfl rfl rfl rfl rfl (by first | exact Nat.le_of_ble_eq_true rfl | omega | (dsimp only; omega) | (simp only [addS_eq, mulS_eq]; omega)) ?_))
  refine CallG.sameL [_, _, _] hop ?_
  repeat (first | refine SeqS.go cok ?_ | refine CondS.t rfl ?_ | refine CondS.f rfl ?_ | (refine QuG.keep ?_; first | refine QuG.lN cok 2 rfl rfl rfl rfl rfl (by first | exact Nat.le_of_ble_eq_true rfl | omega | (dsimp only; omega) | (simp only [addS_eq, mulS_eq]; omega)) ?_))
  refine (had _).mono ?_
  rintro r _ - ⟨rfl, rfl⟩
  intro x4
  repeat (first | (refine QuG.keep ?_; first | refine QuG.upL cok 0 rfl rfl rfl rfl rfl rfl (by assumption) (by first | exact Nat.le_of_ble_eq_true rfl | omega) ?_) | (refine OpG.keep ?_; first | refine OpG.upS cok 0 rfl rfl rfl rfl rfl (by assumption) (by first | assumption | exact one_bvs _) (by first | exact Nat.le_of_ble_eq_true rfl | omega) ?_) | refine SeqS.go cok ?_)
  refine CallG.behind [_, _, _, _] hwm ?_
  rintro r J G1 hs ⟨rfl, c1, G2, V1, hS, g1, g2, g3, g4⟩
  cases hS
  have hm1 := hmS1 c1 g3
  repeat (first | (refine QuG.keep ?_; first | refine QuG.l1E cok 4 rfl rfl rfl rfl rfl (by first | exact Nat.le_of_ble_eq_true rfl | omega | (dsimp only; omega) | (simp only [addS_eq, mulS_eq]; omega)) (by assumption) ?_ | refine QuG.upL cok 0 rfl rfl rfl rfl rfl rfl (by assumption) (by first | exact Nat.le_of_ble_eq_true rfl | omega) ?_) | refine SeqS.go cok ?_ | refine CondS.f rfl ?_ | refine W.drawI 19 cok [0, 1, 3, 7, 0, 31, 63] [0, 1, 2, 3, 4, 5, 6] [3, 4] (by kernel_rfl) (by kernel_rfl) ?_)
  refine CallG.behind [_, _, _, _] (hcd c1 G2 V1 g1 g2 g4) ?_
  rintro r J G1 hs ⟨hS, hB⟩
  cases hS
  repeat (first | refine SeqS.go cok ?_ | (refine QuG.keep ?_; first | refine QuG.lN cok 1 rfl rfl rfl rfl rfl (by first | exact Nat.le_of_ble_eq_true rfl | omega | (dsimp only; omega) | (simp only [addS_eq, mulS_eq]; omega)) ?_ | refine QuG.lN cok 2 rfl rfl rfl rfl rfl (by first | exact Nat.le_of_ble_eq_true rfl | omega | (dsimp only; omega) | (simp only [addS_eq, mulS_eq]; omega)) ?_) | (refine still_in ?_; first | refine still_drop (by decide) ?_) | (refine OpG.keep ?_; first | refine OpG.sL cok 2 rfl rfl rfl rfl rfl rfl rfl (by first | exact Nat.le_of_ble_eq_true rfl | omega | (dsimp only; omega) | (simp only [addS_eq, mulS_eq]; omega)) ?_ | refine OpG.sL cok 3 rfl rfl rfl rfl rfl rfl rfl (by first | exact Nat.le_of_ble_eq_true rfl | omega | (dsimp only; omega) | (simp only [addS_eq, mulS_eq]; omega)) ?_))
  refine CallG.sameL [_, _, _, _] (ha3 J c1 G2 g3) ?_
  repeat (first | refine SeqS.go cok ?_ | refine CondS.f rfl ?_ | (refine QuG.keep ?_; first | refine QuG.lN cok 1 rfl rfl rfl rfl rfl (by first | exact Nat.le_of_ble_eq_true rfl | omega | (dsimp only; omega) | (simp only [addS_eq, mulS_eq]; omega)) ?_) | (refine OpG.keep ?_; first | refine OpG.sL cok 1 rfl rfl rfl rfl rfl rfl rfl (by first | exact Nat.le_of_ble_eq_true rfl | omega | (dsimp only; omega) | (simp only [addS_eq, mulS_eq]; omega)) ?_))
  refine (hu _).mono ?_
  rintro r _ - ⟨rfl, rfl⟩
  repeat (first | refine SeqS.go cok ?_ | refine CondS.f rfl ?_ | refine And.intro (fillOk_of (Eq.refl true)) ?_)
  refine CallG.behind [_, _, _, _] (hse J c1 G2 g3) ?_
  rintro r J2 G1 hs2 ⟨c', hS, k1, k2⟩
  cases hS
  skip
  exact Fin.drop (⟨cb, sz, T, c'⟩ :: (R ++ G2)) [_, _, _, _] ⟨_, c', G2, V1, rfl, k1, StkV.mk g3 k2, (g1.up hs).stk k2, g2, g4⟩
/-- mach.Machine.OpCopy, 60 -/
theorem mCp60 {I : Ent → Prop} {G : List Ent} {cb sz pc gas b cap : Nat} {T : TypeId} {c cm : Nat → Value} {K : YK} {V : Vl} {s mem : List Nat} (hV : VI I c V G) (hO : VOk V) (hsz : 27019 ≤ sz) (hA : ArI c mem [⟨b, mulS cap 1, 5, cm⟩]) (h1 : c 1 = sl b 0 mem.length cap) (h2 : mem.length ≤ cap) (h4 : Row cm 0 (bvs mem)) (hK : MK I cb c K) (hM : MV c pc gas s) (hpb : pc + 1 < 60000) (ho : K.code.getD pc 0 = 60) (hs4 : 4 ≤ s.length) (hroom : V.ac.length < 1990) (hj : V.jr.length < 59990) (hz : argN s 3 ≠ 0) (hin : argN s 1 + argN s 3 ≤ mem.length) :
    CallG Hvaf.prog 205 #[ptr cb 0] ⟨I, ⟨cb, sz, T, c⟩ :: ⟨b, mulS cap 1, 5, cm⟩ :: G⟩ fun r S' => ∃ J c' G' V' cm', S' = ⟨J, ⟨cb, sz, T, c'⟩ :: ⟨b, mulS cap 1, 5, cm'⟩ :: G'⟩ ∧ MV c' (pc + 1) gas (s.take (s.length - 4)) ∧ StkV c c' ∧ VI J c' V' G' ∧ VOk V' ∧ WmP V (adN (argN s 0)) V' ∧ Row cm' 0 (bvs (writeL mem (argN s 1) (cutL (V.acc (adN (argN s 0))).code (argN s 2) (argN s 3)))) := by
  have hsz' : 2435 ≤ sz := by omega
  have hrn := mRunning (I := I) (G := ⟨b, mulS cap 1, 5, cm⟩ :: G) (cb := cb) (T := T) hsz' hK
  have hmS := hK.mS
  have ha0 := mArg (I := I) (G := ⟨b, mulS cap 1, 5, cm⟩ :: G) (cb := cb) (T := T) (i := 0) hsz' hK.fsb hM (by decide)
  have ha1 := mArg (I := I) (G := ⟨b, mulS cap 1, 5, cm⟩ :: G) (cb := cb) (T := T) (i := 1) hsz' hK.fsb hM (by decide)
  have ha2 := mArg (I := I) (G := ⟨b, mulS cap 1, 5, cm⟩ :: G) (cb := cb) (T := T) (i := 2) hsz' hK.fsb hM (by decide)
  have hop := mOpcode (I := I) (G := ⟨b, mulS cap 1, 5, cm⟩ :: G) (cb := cb) (T := T) hsz' hK hM
  rw [ho] at hop
  have ha3 := fun J c1 G1 (h : Out c c1) => mArg (I := J) (G := ⟨b, mulS cap 1, 5, cm⟩ :: G1) (cb := cb) (T := T) (i := 3) hsz' (hK.out h).fsb (hM.out h) (by decide)
  have hb0 : argN s 0 < 115792089237316195423570985008687907853269984665640564039457584007913129639936 := argN_lt hM.sb
  have hb2 : argN s 2 < 115792089237316195423570985008687907853269984665640564039457584007913129639936 := argN_lt hM.sb
  have hb3 : argN s 3 < 115792089237316195423570985008687907853269984665640564039457584007913129639936 := argN_lt hM.sb
  have had := fun S => mAddrOf (S := S) hb0
  have hA' := adN_ok (argN s 0)
  have hwm := mWarm (R := [⟨b, mulS cap 1, 5, cm⟩]) (cb := cb) (T := T) (a := adN (argN s 0)) hsz hmS hV hO hA' hroom hj
  have hmS1 := fun c1 (h : Out c c1) => (hK.out h).mS
  have hal := hA'.len
  have hab := hA'.bv
  have hu := fun S => UIsZero_spec (S := S) hb3
  have hcd := fun c1 G1 V1 (h1 : VI I c1 V1 G1) (h2 : VOk V1) (h4 : WmP V (adN (argN s 0)) V1) => vCode (R := [⟨b, mulS cap 1, 5, cm⟩]) (cb := cb) (T := T) hsz h1 h2 hA'
  have hcd := fun c1 G1 V1 h1 h2 (h4 : WmP V (adN (argN s 0)) V1) => h4.acc.2.2 ▸ hcd c1 G1 V1 h1 h2 h4
  have hcl := (Vl.acc_lt hO (adN (argN s 0))).2
  rw [decide_eq_false hz] at hu
  have hlen := hA.bf.len
  have hs1 := fun S => mSmall (S := S) (n := argN s 1) (by omega)
  have hs3 := fun S => mSmall (S := S) (n := argN s 3) (by omega)
  have hs2 := fun S => mSource (S := S) (n := argN s 2) hb2
  have hst := fun J c1 G1 v (h : Out c c1) (hB : Byt ⟨J, []⟩ v (V.acc (adN (argN s 0))).code) => mWrite (I := J) (G := G1) (cb := cb) (T := T) (off := argN s 1) (n := argN s 3) (fr := if argN s 2 < 18446744073709551616 then argN s 2 else 18446744073709551615) hsz' (hA.out h) (by rw [h 1 (by omega)]; exact h1) h2 h4 (by omega) hin hB (by split <;> omega) (by omega)
  rw [cut_src2 (by omega)] at hst
  have hse := fun J c1 G1 cm' (h : Out c c1) => mSettleN (I := J) (G := ⟨b, mulS cap 1, 5, cm'⟩ :: G1) (cb := cb) (T := T) (t := 4) (step := 1) (ws := [.int .u64 0, .int .u64 0, .int .u64 0, .int .u64 0]) hsz' (hM.out h) hs4 hpb rfl
  generalize hwr : bvs (writeL mem (argN s 1) (cutL (V.acc (adN (argN s 0))).code (argN s 2) (argN s 3))) = wr at *
  generalize (if argN s 2 < 18446744073709551616 then argN s 2 else 18446744073709551615) = fr at *
  generalize s.take (s.length - 4) = s' at *
  generalize hadn : adN (argN s 0) = ad at *
  generalize argN s 0 = a0 at *
  generalize argN s 1 = a1 at *
  generalize argN s 2 = a2 at *
  generalize argN s 3 = a3 at *
  refine CallG.start (C := mkC Hvaf.prog) cok (args := [ptr cb 0]) Hvaf.func205 rfl Hvaf.ntmps205 (by simp) (by kernel_rfl) ?_
  skip
  refine CallG.sameL [] hrn ?_
  repeat (first | refine SeqS.go cok ?_ | refine CondS.f rfl ?_)
  refine CallG.sameL [] ha0 ?_
  intro x1
  repeat (first | refine SeqS.go cok ?_ | (refine OpG.keep ?_; first | refine OpG.sL cok 0 rfl rfl rfl rfl rfl rfl rfl (by first | exact Nat.le_of_ble_eq_true rfl | omega | (dsimp only; omega) | (simp only [addS_eq, mulS_eq]; omega)) ?_))
  refine CallG.sameL [_] ha1 ?_
  intro x2
  repeat (first | refine SeqS.go cok ?_ | (refine OpG.keep ?_; first | refine OpG.sL cok 0 rfl rfl rfl rfl rfl rfl rfl (by first | exact Nat.le_of_ble_eq_true rfl | omega | (dsimp only; omega) | (simp only [addS_eq, mulS_eq]; omega)) ?_))
  refine CallG.sameL [_, _] ha2 ?_
  intro x3
  repeat (first | refine SeqS.go cok ?_ | (refine OpG.keep ?_; first | refine OpG.sL cok 0 rfl rfl rfl rfl rfl rfl rfl (by first | exact Nat.le_of_ble_eq_true rfl | omega | (dsimp only; omega) | (simp only [addS_eq, mulS_eq]; omega)) ?_))
  refine CallG.sameL [_, _, _] hop ?_
  repeat (first | refine SeqS.go cok ?_ | refine CondS.t rfl ?_ | refine CondS.f rfl ?_ | (refine QuG.keep ?_; first | refine QuG.lN cok 2 rfl rfl rfl rfl rfl (by first | exact Nat.le_of_ble_eq_true rfl | omega | (dsimp only; omega) | (simp only [addS_eq, mulS_eq]; omega)) ?_))
  refine (had _).mono ?_
  rintro r _ - ⟨rfl, rfl⟩
  intro x4
  repeat (first | (refine QuG.keep ?_; first | refine QuG.upL cok 0 rfl rfl rfl rfl rfl rfl (by assumption) (by first | exact Nat.le_of_ble_eq_true rfl | omega) ?_) | (refine OpG.keep ?_; first | refine OpG.upS cok 0 rfl rfl rfl rfl rfl (by assumption) (by first | assumption | exact one_bvs _) (by first | exact Nat.le_of_ble_eq_true rfl | omega) ?_) | refine SeqS.go cok ?_)
  refine CallG.behind [_, _, _, _] hwm ?_
  rintro r J G1 hs ⟨rfl, c1, G2, V1, hS, g1, g2, g3, g4⟩
  cases hS
  have hm1 := hmS1 c1 g3
  repeat (first | (refine QuG.keep ?_; first | refine QuG.l1E cok 4 rfl rfl rfl rfl rfl (by first | exact Nat.le_of_ble_eq_true rfl | omega | (dsimp only; omega) | (simp only [addS_eq, mulS_eq]; omega)) (by assumption) ?_ | refine QuG.upL cok 0 rfl rfl rfl rfl rfl rfl (by assumption) (by first | exact Nat.le_of_ble_eq_true rfl | omega) ?_) | refine SeqS.go cok ?_ | refine CondS.f rfl ?_ | refine W.drawI 19 cok [0, 1, 3, 7, 0, 31, 63] [0, 1, 2, 3, 4, 5, 6] [3, 4] (by kernel_rfl) (by kernel_rfl) ?_)
  refine CallG.behind [_, _, _, _] (hcd c1 G2 V1 g1 g2 g4) ?_
  rintro r J G1 hs ⟨hS, hB⟩
  cases hS
  repeat (first | refine SeqS.go cok ?_ | (refine QuG.keep ?_; first | refine QuG.lN cok 1 rfl rfl rfl rfl rfl (by first | exact Nat.le_of_ble_eq_true rfl | omega | (dsimp only; omega) | (simp only [addS_eq, mulS_eq]; omega)) ?_ | refine QuG.lN cok 2 rfl rfl rfl rfl rfl (by first | exact Nat.le_of_ble_eq_true rfl | omega | (dsimp only; omega) | (simp only [addS_eq, mulS_eq]; omega)) ?_) | (refine still_in ?_; first | refine still_drop (by decide) ?_) | (refine OpG.keep ?_; first | refine OpG.sL cok 2 rfl rfl rfl rfl rfl rfl rfl (by first | exact Nat.le_of_ble_eq_true rfl | omega | (dsimp only; omega) | (simp only [addS_eq, mulS_eq]; omega)) ?_ | refine OpG.sL cok 3 rfl rfl rfl rfl rfl rfl rfl (by first | exact Nat.le_of_ble_eq_true rfl | omega | (dsimp only; omega) | (simp only [addS_eq, mulS_eq]; omega)) ?_))
  refine CallG.sameL [_, _, _, _] (ha3 J c1 G2 g3) ?_
  repeat (first | refine SeqS.go cok ?_ | refine CondS.f rfl ?_ | (refine QuG.keep ?_; first | refine QuG.lN cok 1 rfl rfl rfl rfl rfl (by first | exact Nat.le_of_ble_eq_true rfl | omega | (dsimp only; omega) | (simp only [addS_eq, mulS_eq]; omega)) ?_) | (refine OpG.keep ?_; first | refine OpG.sL cok 1 rfl rfl rfl rfl rfl rfl rfl (by first | exact Nat.le_of_ble_eq_true rfl | omega | (dsimp only; omega) | (simp only [addS_eq, mulS_eq]; omega)) ?_))
  refine (hu _).mono ?_
  rintro r _ - ⟨rfl, rfl⟩
  repeat (first | refine SeqS.go cok ?_ | refine CondS.t rfl ?_ | (refine QuG.keep ?_; first | refine QuG.lN cok 1 rfl rfl rfl rfl rfl (by first | exact Nat.le_of_ble_eq_true rfl | omega | (dsimp only; omega) | (simp only [addS_eq, mulS_eq]; omega)) ?_ | refine QuG.lN cok 2 rfl rfl rfl rfl rfl (by first | exact Nat.le_of_ble_eq_true rfl | omega | (dsimp only; omega) | (simp only [addS_eq, mulS_eq]; omega)) ?_ | refine QuG.lN cok 3 rfl rfl rfl rfl rfl (by first | exact Nat.le_of_ble_eq_true rfl | omega | (dsimp only; omega) | (simp only [addS_eq, mulS_eq]; omega)) ?_) | refine W.drawI 28 cok [0, 1, 3, 0, 8, 0, 0, 88, 0, 472, 1023, 2047] [0, 1, 2, 3, 5, 6, 8, 4, 7, 9, 10, 11] [3, 6, 8] (by kernel_rfl) (by kernel_rfl) ?_)
  refine (hs1 _).mono ?_
  rintro r _ - ⟨rfl, rfl⟩
  repeat (first | (refine still_in ?_; first | refine still_nil ?_ | refine still_drop (by decide) ?_ | (refine still_keep (by decide) rfl ?_ ?_; first | exact QuV.lN cok 1 rfl rfl rfl rfl rfl (by first | exact Nat.le_of_ble_eq_true rfl | omega | (dsimp only; omega) | (simp only [addS_eq, mulS_eq]; omega)) rfl | exact QuV.lN cok 2 rfl rfl rfl rfl rfl (by first | exact Nat.le_of_ble_eq_true rfl | omega | (dsimp only; omega) | (simp only [addS_eq, mulS_eq]; omega)) rfl)))
  refine (hs2 _).mono ?_
  rintro r _ - ⟨rfl, rfl⟩
  repeat (first | (refine still_in ?_; first | refine still_nil ?_ | refine still_drop (by decide) ?_ | (refine still_keep (by decide) rfl ?_ ?_; first | exact QuV.lN cok 1 rfl rfl rfl rfl rfl (by first | exact Nat.le_of_ble_eq_true rfl | omega | (dsimp only; omega) | (simp only [addS_eq, mulS_eq]; omega)) rfl)))
  refine (hs3 _).mono ?_
  rintro r _ - ⟨rfl, rfl⟩
  repeat (first | (refine still_in ?_; first | refine still_nil ?_ | refine still_drop (by decide) ?_))
  refine CallG.behind [_, _, _, _] (hst J c1 G2 _ g3 hB) ?_
  rintro r J2 G1 hs2 ⟨rfl, cm', hS, hrow⟩
  cases hS
  repeat (first | refine SeqS.go cok ?_ | refine CondS.f rfl ?_ | refine And.intro (fillOk_of (Eq.refl true)) ?_ | (refine still_in ?_; first | refine still_drop (by decide) ?_))
  refine CallG.behind [_, _, _, _] (hse J c1 G2 cm' g3) ?_
  rintro r J2 G1 hs2 ⟨c', hS, k1, k2⟩
  cases hS
  skip
  exact Fin.drop (⟨cb, sz, T, c'⟩ :: ⟨b, mulS cap 1, 5, cm'⟩ :: G2) [_, _, _, _] ⟨_, c', G2, V1, cm', rfl, k1, StkV.mk g3 k2, (g1.up hs).stk k2, g2, g4, hrow⟩
end Go.Proofs.YgvafwGreat
