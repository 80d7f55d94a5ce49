import Derived.Test.YgvafwGreatE33
import Derived.Test.YgvafwGreatV6a
import Derived.Test.YgvafwGreatR1
import Derived.Test.YgvafwGreatE16
set_option exponentiation.threshold 1000
set_option maxRecDepth 100000
set_option maxHeartbeats 4000000
set_option linter.unusedVariables false
set_option linter.unusedSimpArgs false
-- v2
-- v4
-- v5
-- v6
-- v7
namespace Go.Proofs.YgvafwGreat
open Go.HL Go.Proofs
/-- What warming an account leaves. -/
def WmP (V : Vl) (a : List Nat) (V1 : Vl) : Prop := ((V.acc a).warm = true ∧ V1 = V) ∨ ((V.acc a).warm = false ∧ ∃ t, V1 = V.setA a t { V.acc' a with warm := true } ⟨4, V.ix a, 0, 0, (V.acc' a).warm⟩)
theorem WmP.acc {V V1 : Vl} {a : List Nat} (h : WmP V a V1) : (V1.acc a).nonce = (V.acc a).nonce ∧ (V1.acc a).bal = (V.acc a).bal ∧ (V1.acc a).code = (V.acc a).code := by
  rcases h with ⟨_, rfl⟩ | ⟨_, t, rfl⟩
  · exact ⟨rfl, rfl, rfl⟩
  · rw [setA_acc (x := { V.acc' a with warm := true }) (V.acc'_ad a), if_pos rfl]
    obtain ⟨e1, e2, e3, _⟩ := V.acc'_eq a
    exact ⟨e1, e2, e3⟩
theorem WmP.emp {V V1 : Vl} {a : List Nat} (h : WmP V a V1) : emptyV (V1.acc a) = emptyV (V.acc a) := by
  unfold emptyV; rw [h.acc.1, h.acc.2.1, h.acc.2.2]
/-- mach.Machine.warmAcct -/
theorem mWarm {I : Ent → Prop} {R G : List Ent} {cb sz : Nat} {T : TypeId} {c : Nat → Value} {V : Vl} {a : List Nat} (hsz : 27019 ≤ sz) (hmS : c 0 = ptr cb 2435) (hV : VI I c V G) (hO : VOk V) (ha : AdOk a) (hroom : V.ac.length < 1990) (hj : V.jr.length < 59990) :
    CallG Hvaf.prog 304 #[ptr cb 0, bytesV a] ⟨I, ⟨cb, sz, T, c⟩ :: (R ++ G)⟩ fun r S' => r = .bool true ∧ ∃ c1 G1 V1, S' = ⟨I, ⟨cb, sz, T, c1⟩ :: (R ++ G1)⟩ ∧ VI I c1 V1 G1 ∧ VOk V1 ∧ Out c c1 ∧ WmP V a V1 := by
  cases hw : (V.acc a).warm with
  | true =>
    refine (mWarmY hsz hmS hV hO ha hw).mono ?_
    rintro r _ - ⟨rfl, rfl⟩
    exact ⟨rfl, c, G, V, rfl, hV, hO, out_refl c, .inl ⟨hw, rfl⟩⟩
  | false =>
    refine (mWarmN hsz hmS hV hO ha hw hroom hj).mono ?_
    rintro r S' - ⟨rfl, c', G', t, rfl, h1, h2, h3⟩
    exact ⟨rfl, c', G', _, rfl, h1, h2, h3, .inr ⟨hw, t, rfl⟩⟩
/-- What an instruction that changes the vault leaves, where a block may be frozen. -/
def SetK (R : List Ent) (cb sz : Nat) (T : TypeId) (c : Nat → Value) (pc gas : Nat) (s : List Nat) (P : Vl → Prop) : Post := fun r S' => ∃ J c' G' V', S' = ⟨J, ⟨cb, sz, T, c'⟩ :: (R ++ G')⟩ ∧ MV c' pc gas s ∧ StkV c c' ∧ VI J c' V' G' ∧ VOk V' ∧ P V'
theorem Vl.acc_lt {V : Vl} (h : VOk V) (a : List Nat) : (V.acc a).bal < 2 ^ 256 ∧ (V.acc a).code.length < 2 ^ 20 := by
  rcases lk_mem VA.ad dVA a V.ac with ⟨h1, _⟩ | h1
  · exact ⟨h.abl _ h1, h.acd _ h1⟩
  · rw [Vl.acc_lk, h1]; exact ⟨zero_lt, by decide⟩
/-- mach.Machine.OpAccount, 49 -/
theorem mAc49 {I : Ent → Prop} {R G : List Ent} {cb sz pc gas : Nat} {T : TypeId} {c : Nat → Value} {K : YK} {V : Vl} {s : List Nat} (hV : VI I c V G) (hO : VOk V) (hsz : 27019 ≤ sz) (hK : MK I cb c K) (hM : MV c pc gas s) (hpb : pc + 1 < 60000) (ho : K.code.getD pc 0 = 49) (hs1 : 1 ≤ s.length) (hroom : V.ac.length < 1990) (hj : V.jr.length < 59990) :
    CallG Hvaf.prog 203 #[ptr cb 0] ⟨I, ⟨cb, sz, T, c⟩ :: (R ++ G)⟩ (SetK R cb sz T c (pc + 1) gas (s.take (s.length - 1) ++ [(V.acc (adN (argN s 0))).bal]) (WmP V (adN (argN s 0)))) := by
  have hsz' : 2435 ≤ sz := by omega
  have hrn := mRunning (I := I) (G := R ++ G) (cb := cb) (T := T) hsz' hK
  have hmS := hK.mS
  have ha0 := mArg (I := I) (G := R ++ G) (cb := cb) (T := T) (i := 0) hsz' hK.fsb hM (by decide)
  have hb0 : argN s 0 < 115792089237316195423570985008687907853269984665640564039457584007913129639936 := argN_lt hM.sb
  have had := fun S => mAddrOf (S := S) hb0
  have hA := adN_ok (argN s 0)
  have hwm := mWarm (R := R) (cb := cb) (T := T) (a := adN (argN s 0)) hsz hmS hV hO hA hroom hj
  have hop := fun c1 G1 (h : Out c c1) => mOpcode (I := I) (G := R ++ G1) (cb := cb) (T := T) hsz' (hK.out h) (hM.out h)
  rw [ho] at hop
  have hmS1 := fun c1 (h : Out c c1) => (hK.out h).mS
  have hal := hA.len
  have hab := hA.bv
  have hlt : (V.acc (adN (argN s 0))).bal < 115792089237316195423570985008687907853269984665640564039457584007913129639936 := (Vl.acc_lt hO _).1
  have hba := fun c1 G1 V1 (h1 : VI I c1 V1 G1) (h2 : VOk V1) (h4 : WmP V (adN (argN s 0)) V1) => vBalance (R := R) (cb := cb) (T := T) hsz h1 h2 hA
  have hba := fun c1 G1 V1 h1 h2 (h4 : WmP V (adN (argN s 0)) V1) => h4.acc.2.1 ▸ hba c1 G1 V1 h1 h2 h4
  have hse := fun J c1 G1 (h : Out c c1) => mSettleG (I := J) (G := R ++ G1) (cb := cb) (T := T) (t := 1) (step := 1) (w := (V.acc (adN (argN s 0))).bal) hsz' (hK.out h).fsb (hM.out h) hs1 hpb (by have := hM.sl; omega) hlt
  simp only [wcs_word] at hse
  generalize s.take (s.length - 1) ++ [(V.acc (adN (argN s 0))).bal] = s' at *
  generalize hadn : adN (argN s 0) = ad at *
  generalize argN s 0 = a0 at *
  refine CallG.start (C := mkC Hvaf.prog) cok (args := [ptr cb 0]) Hvaf.func203 rfl Hvaf.ntmps203 (by simp) (by kernel_rfl) ?_
  skip
  refine CallG.sameL [] hrn ?_
  repeat (first | refine SeqS.go cok ?_ | refine CondS.f rfl ?_)
  refine CallG.sameL [] ha0 ?_
  skip
  refine (had _).mono ?_
  rintro r _ - ⟨rfl, rfl⟩
  intro x1
  repeat (first | (refine QuG.keep ?_; first | refine QuG.upL cok 0 rfl rfl rfl rfl rfl rfl (by assumption) (by first | exact Nat.le_of_ble_eq_true rfl | omega) ?_) | (refine OpG.keep ?_; first | refine OpG.upS cok 0 rfl rfl rfl rfl rfl (by assumption) (by first | assumption | exact one_bvs _) (by first | exact Nat.le_of_ble_eq_true rfl | omega) ?_) | refine SeqS.go cok ?_)
  refine CallG.behind [_] hwm ?_
  rintro r J G1 hs ⟨rfl, c1, G2, V1, hS, g1, g2, g3, g4⟩
  cases hS
  have hm1 := hmS1 c1 g3
  repeat (first | refine SeqS.go cok ?_ | refine CondS.f rfl ?_ | refine And.intro (fillOk_of (Eq.refl true)) ?_)
  intro x2
  repeat (first | refine SeqS.go cok ?_ | (refine OpG.keep ?_; first | refine OpG.sL cok 0 rfl rfl rfl rfl rfl rfl rfl (by first | exact Nat.le_of_ble_eq_true rfl | omega | (dsimp only; omega) | (simp only [addS_eq, mulS_eq]; omega)) ?_))
  refine CallG.sameL [_, _] (hop c1 G2 g3) ?_
  repeat (first | (refine QuG.keep ?_; first | refine QuG.l1E cok 2 rfl rfl rfl rfl rfl (by first | exact Nat.le_of_ble_eq_true rfl | omega | (dsimp only; omega) | (simp only [addS_eq, mulS_eq]; omega)) (by assumption) ?_ | refine QuG.upL cok 1 rfl rfl rfl rfl rfl rfl (by assumption) (by first | exact Nat.le_of_ble_eq_true rfl | omega) ?_) | refine SeqS.go cok ?_ | refine CondS.t rfl ?_ | refine W.drawI 8 cok [0, 1, 3, 7, 0, 31, 63] [0, 1, 2, 3, 4, 5, 6] [3, 4] (by kernel_rfl) (by kernel_rfl) ?_)
  refine CallG.sameL [_, _] (hba c1 G2 V1 g1 g2 g4) ?_
  repeat (first | refine SeqS.go cok ?_ | (refine QuG.keep ?_; first | refine QuG.lN cok 0 rfl rfl rfl rfl rfl (by first | exact Nat.le_of_ble_eq_true rfl | omega | (dsimp only; omega) | (simp only [addS_eq, mulS_eq]; omega)) ?_) | (refine still_in ?_; first | refine still_nil ?_ | refine still_drop (by decide) ?_) | (refine OpG.keep ?_; first | refine OpG.sL cok 0 rfl rfl rfl rfl rfl rfl rfl (by first | exact Nat.le_of_ble_eq_true rfl | omega | (dsimp only; omega) | (simp only [addS_eq, mulS_eq]; omega)) ?_))
  refine CallG.behind [_, _] (hse I c1 G2 g3) ?_
  rintro r J G1 hs ⟨c', hS, k1, k2⟩
  cases hS
  skip
  exact Fin.drop (⟨cb, sz, T, c'⟩ :: (R ++ G2)) [_, _] ⟨_, c', G2, V1, rfl, k1, StkV.mk g3 k2, g1.stk k2, g2, g4⟩
/-- mach.Machine.OpAccount, 59 -/
theorem mAc59 {I : Ent → Prop} {R G : List Ent} {cb sz pc gas : Nat} {T : TypeId} {c : Nat → Value} {K : YK} {V : Vl} {s : List Nat} (hV : VI I c V G) (hO : VOk V) (hsz : 27019 ≤ sz) (hK : MK I cb c K) (hM : MV c pc gas s) (hpb : pc + 1 < 60000) (ho : K.code.getD pc 0 = 59) (hs1 : 1 ≤ s.length) (hroom : V.ac.length < 1990) (hj : V.jr.length < 59990) :
    CallG Hvaf.prog 203 #[ptr cb 0] ⟨I, ⟨cb, sz, T, c⟩ :: (R ++ G)⟩ (SetK R cb sz T c (pc + 1) gas (s.take (s.length - 1) ++ [(V.acc (adN (argN s 0))).code.length]) (WmP V (adN (argN s 0)))) := by
  have hsz' : 2435 ≤ sz := by omega
  have hrn := mRunning (I := I) (G := R ++ G) (cb := cb) (T := T) hsz' hK
  have hmS := hK.mS
  have ha0 := mArg (I := I) (G := R ++ G) (cb := cb) (T := T) (i := 0) hsz' hK.fsb hM (by decide)
  have hb0 : argN s 0 < 115792089237316195423570985008687907853269984665640564039457584007913129639936 := argN_lt hM.sb
  have had := fun S => mAddrOf (S := S) hb0
  have hA := adN_ok (argN s 0)
  have hwm := mWarm (R := R) (cb := cb) (T := T) (a := adN (argN s 0)) hsz hmS hV hO hA hroom hj
  have hop := fun c1 G1 (h : Out c c1) => mOpcode (I := I) (G := R ++ G1) (cb := cb) (T := T) hsz' (hK.out h) (hM.out h)
  rw [ho] at hop
  have hmS1 := fun c1 (h : Out c c1) => (hK.out h).mS
  have hal := hA.len
  have hab := hA.bv
  have hcl := (Vl.acc_lt hO (adN (argN s 0))).2
  have hlt : (V.acc (adN (argN s 0))).code.length < 18446744073709551616 := by omega
  have hlt2 : (V.acc (adN (argN s 0))).code.length < 115792089237316195423570985008687907853269984665640564039457584007913129639936 := Nat.lt_trans hlt (by decide)
  have hcd := fun c1 G1 V1 (h1 : VI I c1 V1 G1) (h2 : VOk V1) (h4 : WmP V (adN (argN s 0)) V1) => vCode (R := R) (cb := cb) (T := T) hsz h1 h2 hA
  have hcd := fun c1 G1 V1 h1 h2 (h4 : WmP V (adN (argN s 0)) V1) => h4.acc.2.2 ▸ hcd c1 G1 V1 h1 h2 h4
  have hse := fun J c1 G1 (h : Out c c1) => mSettleG (I := J) (G := R ++ G1) (cb := cb) (T := T) (t := 1) (step := 1) (w := (V.acc (adN (argN s 0))).code.length) hsz' (hK.out h).fsb (hM.out h) hs1 hpb (by have := hM.sl; omega) hlt2
  simp only [wcs_word] at hse
  rw [← smallW hlt] at hse
  generalize s.take (s.length - 1) ++ [(V.acc (adN (argN s 0))).code.length] = s' at *
  generalize hadn : adN (argN s 0) = ad at *
  generalize argN s 0 = a0 at *
  refine CallG.start (C := mkC Hvaf.prog) cok (args := [ptr cb 0]) Hvaf.func203 rfl Hvaf.ntmps203 (by simp) (by kernel_rfl) ?_
  skip
  refine CallG.sameL [] hrn ?_
  repeat (first | refine SeqS.go cok ?_ | refine CondS.f rfl ?_)
  refine CallG.sameL [] ha0 ?_
  skip
  refine (had _).mono ?_
  rintro r _ - ⟨rfl, rfl⟩
  intro x1
  repeat (first | (refine QuG.keep ?_; first | refine QuG.upL cok 0 rfl rfl rfl rfl rfl rfl (by assumption) (by first | exact Nat.le_of_ble_eq_true rfl | omega) ?_) | (refine OpG.keep ?_; first | refine OpG.upS cok 0 rfl rfl rfl rfl rfl (by assumption) (by first | assumption | exact one_bvs _) (by first | exact Nat.le_of_ble_eq_true rfl | omega) ?_) | refine SeqS.go cok ?_)
  refine CallG.behind [_] hwm ?_
  rintro r J G1 hs ⟨rfl, c1, G2, V1, hS, g1, g2, g3, g4⟩
  cases hS
  have hm1 := hmS1 c1 g3
  repeat (first | refine SeqS.go cok ?_ | refine CondS.f rfl ?_ | refine And.intro (fillOk_of (Eq.refl true)) ?_)
  intro x2
  repeat (first | refine SeqS.go cok ?_ | (refine OpG.keep ?_; first | refine OpG.sL cok 0 rfl rfl rfl rfl rfl rfl rfl (by first | exact Nat.le_of_ble_eq_true rfl | omega | (dsimp only; omega) | (simp only [addS_eq, mulS_eq]; omega)) ?_))
  refine CallG.sameL [_, _] (hop c1 G2 g3) ?_
  repeat (first | (refine QuG.keep ?_; first | refine QuG.l1E cok 2 rfl rfl rfl rfl rfl (by first | exact Nat.le_of_ble_eq_true rfl | omega | (dsimp only; omega) | (simp only [addS_eq, mulS_eq]; omega)) (by assumption) ?_ | refine QuG.upL cok 1 rfl rfl rfl rfl rfl rfl (by assumption) (by first | exact Nat.le_of_ble_eq_true rfl | omega) ?_) | refine SeqS.go cok ?_ | refine CondS.t rfl ?_ | refine CondS.f rfl ?_ | refine W.drawI 10 cok [0, 1, 3, 7, 0, 31, 63, 127, 255, 511] [0, 1, 2, 3, 4, 5, 6, 7, 8, 9] [3, 4] (by kernel_rfl) (by kernel_rfl) ?_)
  refine CallG.behind [_, _] (hcd c1 G2 V1 g1 g2 g4) ?_
  rintro r J G1 hs ⟨hS, hB⟩
  cases hS
  obtain ⟨cad, ccap, rfl⟩ := bytLen hB
  repeat (first | refine SeqS.go cok ?_ | refine And.intro (by dsimp only; omega) ?_ | (refine NatS.keep ?_; first | with_reducible refine NatS.lit ?_) | (refine ValS.keep ?_; first | (with_reducible refine ValS.kU64 ?_; first | (with_reducible refine ValS.convU64 ?_ ?_ ; omega))) | (refine QuG.keep ?_; first | refine QuG.lN cok 0 rfl rfl rfl rfl rfl (by first | exact Nat.le_of_ble_eq_true rfl | omega | (dsimp only; omega) | (simp only [addS_eq, mulS_eq]; omega)) ?_) | (refine still_in ?_; first | refine still_drop (by decide) ?_) | (refine OpG.keep ?_; first | refine OpG.s1 cok 0 rfl rfl rfl rfl rfl (by first | exact Nat.le_of_ble_eq_true rfl | omega | (dsimp only; omega) | (simp only [addS_eq, mulS_eq]; omega)) rfl rfl ?_))
  refine CallG.behind [_, _] (hse J c1 G2 g3) ?_
  rintro r J2 G1 hs2 ⟨c', hS, k1, k2⟩
  cases hS
  skip
  exact Fin.drop (⟨cb, sz, T, c'⟩ :: (R ++ G2)) [_, _] ⟨_, c', G2, V1, rfl, k1, StkV.mk g3 k2, (g1.up hs).stk k2, g2, g4⟩
/-- mach.Machine.OpAccount, 63 -/
theorem mAc63e {I : Ent → Prop} {R G : List Ent} {cb sz pc gas : Nat} {T : TypeId} {c : Nat → Value} {K : YK} {V : Vl} {s : List Nat} (hV : VI I c V G) (hO : VOk V) (hsz : 27019 ≤ sz) (hK : MK I cb c K) (hM : MV c pc gas s) (hpb : pc + 1 < 60000) (ho : K.code.getD pc 0 = 63) (hs1 : 1 ≤ s.length) (hroom : V.ac.length < 1990) (hj : V.jr.length < 59990) (he : emptyV (V.acc (adN (argN s 0))) = true) :
    CallG Hvaf.prog 203 #[ptr cb 0] ⟨I, ⟨cb, sz, T, c⟩ :: (R ++ G)⟩ (SetK R cb sz T c (pc + 1) gas (s.take (s.length - 1) ++ [0]) (WmP V (adN (argN s 0)))) := by
  have hsz' : 2435 ≤ sz := by omega
  have hrn := mRunning (I := I) (G := R ++ G) (cb := cb) (T := T) hsz' hK
  have hmS := hK.mS
  have ha0 := mArg (I := I) (G := R ++ G) (cb := cb) (T := T) (i := 0) hsz' hK.fsb hM (by decide)
  have hb0 : argN s 0 < 115792089237316195423570985008687907853269984665640564039457584007913129639936 := argN_lt hM.sb
  have had := fun S => mAddrOf (S := S) hb0
  have hA := adN_ok (argN s 0)
  have hwm := mWarm (R := R) (cb := cb) (T := T) (a := adN (argN s 0)) hsz hmS hV hO hA hroom hj
  have hop := fun c1 G1 (h : Out c c1) => mOpcode (I := I) (G := R ++ G1) (cb := cb) (T := T) hsz' (hK.out h) (hM.out h)
  rw [ho] at hop
  have hmS1 := fun c1 (h : Out c c1) => (hK.out h).mS
  have hal := hA.len
  have hab := hA.bv
  have hem := fun c1 G1 V1 (h1 : VI I c1 V1 G1) (h2 : VOk V1) (h4 : WmP V (adN (argN s 0)) V1) => vIsEmpty (R := R) (cb := cb) (T := T) hsz h1 h2 hA
  have hem := fun c1 G1 V1 h1 h2 (h4 : WmP V (adN (argN s 0)) V1) => (h4.emp.trans he) ▸ hem c1 G1 V1 h1 h2 h4
  have hse := fun J c1 G1 (h : Out c c1) => mSettleG (I := J) (G := R ++ G1) (cb := cb) (T := T) (t := 1) (step := 1) (w := 0) hsz' (hK.out h).fsb (hM.out h) hs1 hpb (by have := hM.sl; omega) zero_lt
  generalize s.take (s.length - 1) ++ [0] = s' at *
  generalize hadn : adN (argN s 0) = ad at *
  generalize argN s 0 = a0 at *
  refine CallG.start (C := mkC Hvaf.prog) cok (args := [ptr cb 0]) Hvaf.func203 rfl Hvaf.ntmps203 (by simp) (by kernel_rfl) ?_
  skip
  refine CallG.sameL [] hrn ?_
  repeat (first | refine SeqS.go cok ?_ | refine CondS.f rfl ?_)
  refine CallG.sameL [] ha0 ?_
  skip
  refine (had _).mono ?_
  rintro r _ - ⟨rfl, rfl⟩
  intro x1
  repeat (first | (refine QuG.keep ?_; first | refine QuG.upL cok 0 rfl rfl rfl rfl rfl rfl (by assumption) (by first | exact Nat.le_of_ble_eq_true rfl | omega) ?_) | (refine OpG.keep ?_; first | refine OpG.upS cok 0 rfl rfl rfl rfl rfl (by assumption) (by first | assumption | exact one_bvs _) (by first | exact Nat.le_of_ble_eq_true rfl | omega) ?_) | refine SeqS.go cok ?_)
  refine CallG.behind [_] hwm ?_
  rintro r J G1 hs ⟨rfl, c1, G2, V1, hS, g1, g2, g3, g4⟩
  cases hS
  have hm1 := hmS1 c1 g3
  repeat (first | refine SeqS.go cok ?_ | refine CondS.f rfl ?_ | refine And.intro (fillOk_of (Eq.refl true)) ?_)
  intro x2
  repeat (first | refine SeqS.go cok ?_ | (refine OpG.keep ?_; first | refine OpG.sL cok 0 rfl rfl rfl rfl rfl rfl rfl (by first | exact Nat.le_of_ble_eq_true rfl | omega | (dsimp only; omega) | (simp only [addS_eq, mulS_eq]; omega)) ?_))
  refine CallG.sameL [_, _] (hop c1 G2 g3) ?_
  repeat (first | (refine QuG.keep ?_; first | refine QuG.l1E cok 2 rfl rfl rfl rfl rfl (by first | exact Nat.le_of_ble_eq_true rfl | omega | (dsimp only; omega) | (simp only [addS_eq, mulS_eq]; omega)) (by assumption) ?_ | refine QuG.upL cok 1 rfl rfl rfl rfl rfl rfl (by assumption) (by first | exact Nat.le_of_ble_eq_true rfl | omega) ?_) | refine SeqS.go cok ?_ | refine CondS.t rfl ?_ | refine CondS.f rfl ?_ | refine W.drawI 12 cok [0, 1, 3, 7, 0, 31, 63] [0, 1, 2, 3, 4, 5, 6] [3, 4] (by kernel_rfl) (by kernel_rfl) ?_)
  refine CallG.sameL [_, _] (hem c1 G2 V1 g1 g2 g4) ?_
  repeat (first | refine SeqS.go cok ?_ | refine CondS.f rfl ?_ | (refine QuG.keep ?_; first | refine QuG.lN cok 0 rfl rfl rfl rfl rfl (by first | exact Nat.le_of_ble_eq_true rfl | omega | (dsimp only; omega) | (simp only [addS_eq, mulS_eq]; omega)) ?_) | (refine still_in ?_; first | refine still_drop (by decide) ?_))
  refine CallG.behind [_, _] (hse I c1 G2 g3) ?_
  rintro r J G1 hs ⟨c', hS, k1, k2⟩
  cases hS
  skip
  exact Fin.drop (⟨cb, sz, T, c'⟩ :: (R ++ G2)) [_, _] ⟨_, c', G2, V1, rfl, k1, StkV.mk g3 k2, g1.stk k2, g2, g4⟩
/-- mach.Machine.OpAccount, 63 -/
theorem mAc63n {I : Ent → Prop} {R G : List Ent} {cb sz pc gas : Nat} {T : TypeId} {c : Nat → Value} {K : YK} {V : Vl} {s : List Nat} (hV : VI I c V G) (hO : VOk V) (hsz : 27019 ≤ sz) (hK : MK I cb c K) (hM : MV c pc gas s) (hpb : pc + 1 < 60000) (ho : K.code.getD pc 0 = 63) (hs1 : 1 ≤ s.length) (hroom : V.ac.length < 1990) (hj : V.jr.length < 59990) (he : emptyV (V.acc (adN (argN s 0))) = false) :
    CallG Hvaf.prog 203 #[ptr cb 0] ⟨I, ⟨cb, sz, T, c⟩ :: (R ++ G)⟩ (SetK R cb sz T c (pc + 1) gas (s.take (s.length - 1) ++ [bev (kecN (V.acc (adN (argN s 0))).code)]) (WmP V (adN (argN s 0)))) := by
  have hsz' : 2435 ≤ sz := by omega
  have hrn := mRunning (I := I) (G := R ++ G) (cb := cb) (T := T) hsz' hK
  have hmS := hK.mS
  have ha0 := mArg (I := I) (G := R ++ G) (cb := cb) (T := T) (i := 0) hsz' hK.fsb hM (by decide)
  have hb0 : argN s 0 < 115792089237316195423570985008687907853269984665640564039457584007913129639936 := argN_lt hM.sb
  have had := fun S => mAddrOf (S := S) hb0
  have hA := adN_ok (argN s 0)
  have hwm := mWarm (R := R) (cb := cb) (T := T) (a := adN (argN s 0)) hsz hmS hV hO hA hroom hj
  have hop := fun c1 G1 (h : Out c c1) => mOpcode (I := I) (G := R ++ G1) (cb := cb) (T := T) hsz' (hK.out h) (hM.out h)
  rw [ho] at hop
  have hmS1 := fun c1 (h : Out c c1) => (hK.out h).mS
  have hal := hA.len
  have hab := hA.bv
  have hem := fun c1 G1 V1 (h1 : VI I c1 V1 G1) (h2 : VOk V1) (h4 : WmP V (adN (argN s 0)) V1) => vIsEmpty (R := R) (cb := cb) (T := T) hsz h1 h2 hA
  have hem := fun c1 G1 V1 h1 h2 (h4 : WmP V (adN (argN s 0)) V1) => (h4.emp.trans he) ▸ hem c1 G1 V1 h1 h2 h4
  have hcd := fun c1 G1 V1 (h1 : VI I c1 V1 G1) (h2 : VOk V1) (h4 : WmP V (adN (argN s 0)) V1) => vCode (R := R) (cb := cb) (T := T) hsz h1 h2 hA
  have hcd := fun c1 G1 V1 h1 h2 (h4 : WmP V (adN (argN s 0)) V1) => h4.acc.2.2 ▸ hcd c1 G1 V1 h1 h2 h4
  have hcl := (Vl.acc_lt hO (adN (argN s 0))).2
  have hsu := fun J G' v (hB : Byt ⟨J, []⟩ v (V.acc (adN (argN s 0))).code) => kSumE (I := J) (G := G') (hB.mono (fun _ h => h) (by simp)) (by omega)
  have hlt : bev (kecN (V.acc (adN (argN s 0))).code) < 115792089237316195423570985008687907853269984665640564039457584007913129639936 := bev_256 (kecN_b8 _) (by rw [kecN_len]; decide)
  have hu := fun S => FromBytes_spec (S := S) (kecN_len (V.acc (adN (argN s 0))).code) (kecN_b8 _)
  have hse := fun J c1 G1 (h : Out c c1) => mSettleG (I := J) (G := R ++ G1) (cb := cb) (T := T) (t := 1) (step := 1) (w := bev (kecN (V.acc (adN (argN s 0))).code)) hsz' (hK.out h).fsb (hM.out h) hs1 hpb (by have := hM.sl; omega) hlt
  simp only [wcs_word] at hse
  generalize s.take (s.length - 1) ++ [bev (kecN (V.acc (adN (argN s 0))).code)] = s' at *
  generalize hadn : adN (argN s 0) = ad at *
  generalize argN s 0 = a0 at *
  refine CallG.start (C := mkC Hvaf.prog) cok (args := [ptr cb 0]) Hvaf.func203 rfl Hvaf.ntmps203 (by simp) (by kernel_rfl) ?_
  skip
  refine CallG.sameL [] hrn ?_
  repeat (first | refine SeqS.go cok ?_ | refine CondS.f rfl ?_)
  refine CallG.sameL [] ha0 ?_
  skip
  refine (had _).mono ?_
  rintro r _ - ⟨rfl, rfl⟩
  intro x1
  repeat (first | (refine QuG.keep ?_; first | refine QuG.upL cok 0 rfl rfl rfl rfl rfl rfl (by assumption) (by first | exact Nat.le_of_ble_eq_true rfl | omega) ?_) | (refine OpG.keep ?_; first | refine OpG.upS cok 0 rfl rfl rfl rfl rfl (by assumption) (by first | assumption | exact one_bvs _) (by first | exact Nat.le_of_ble_eq_true rfl | omega) ?_) | refine SeqS.go cok ?_)
  refine CallG.behind [_] hwm ?_
  rintro r J G1 hs ⟨rfl, c1, G2, V1, hS, g1, g2, g3, g4⟩
  cases hS
  have hm1 := hmS1 c1 g3
  repeat (first | refine SeqS.go cok ?_ | refine CondS.f rfl ?_ | refine And.intro (fillOk_of (Eq.refl true)) ?_)
  intro x2
  repeat (first | refine SeqS.go cok ?_ | (refine OpG.keep ?_; first | refine OpG.sL cok 0 rfl rfl rfl rfl rfl rfl rfl (by first | exact Nat.le_of_ble_eq_true rfl | omega | (dsimp only; omega) | (simp only [addS_eq, mulS_eq]; omega)) ?_))
  refine CallG.sameL [_, _] (hop c1 G2 g3) ?_
  repeat (first | (refine QuG.keep ?_; first | refine QuG.l1E cok 2 rfl rfl rfl rfl rfl (by first | exact Nat.le_of_ble_eq_true rfl | omega | (dsimp only; omega) | (simp only [addS_eq, mulS_eq]; omega)) (by assumption) ?_ | refine QuG.upL cok 1 rfl rfl rfl rfl rfl rfl (by assumption) (by first | exact Nat.le_of_ble_eq_true rfl | omega) ?_) | refine SeqS.go cok ?_ | refine CondS.t rfl ?_ | refine CondS.f rfl ?_ | refine W.drawI 12 cok [0, 1, 3, 7, 0, 31, 63] [0, 1, 2, 3, 4, 5, 6] [3, 4] (by kernel_rfl) (by kernel_rfl) ?_)
  refine CallG.sameL [_, _] (hem c1 G2 V1 g1 g2 g4) ?_
  repeat (first | (refine QuG.keep ?_; first | refine QuG.l1E cok 2 rfl rfl rfl rfl rfl (by first | exact Nat.le_of_ble_eq_true rfl | omega | (dsimp only; omega) | (simp only [addS_eq, mulS_eq]; omega)) (by assumption) ?_ | refine QuG.upL cok 1 rfl rfl rfl rfl rfl rfl (by assumption) (by first | exact Nat.le_of_ble_eq_true rfl | omega) ?_) | refine SeqS.go cok ?_ | refine CondS.t rfl ?_ | (refine still_in ?_; first | refine still_drop (by decide) ?_) | refine W.drawI 13 cok [0, 1, 3, 7, 0, 31, 63, 127, 255] [0, 1, 2, 3, 4, 5, 6, 7, 8] [3, 4] (by kernel_rfl) (by kernel_rfl) ?_)
  refine CallG.behind [_, _] (hcd c1 G2 V1 g1 g2 g4) ?_
  rintro r J G1 hs ⟨hS, hB⟩
  cases hS
  repeat (first | (refine still_in ?_; first | refine still_nil ?_ | refine still_drop (by decide) ?_))
  refine (hsu _ _ _ hB).mono ?_
  rintro r _ - ⟨rfl, rfl⟩
  repeat (first | (refine still_in ?_; first | refine still_nil ?_ | refine still_drop (by decide) ?_))
  refine (hu _).mono ?_
  rintro r _ - ⟨rfl, rfl⟩
  repeat (first | refine SeqS.go cok ?_ | (refine QuG.keep ?_; first | refine QuG.lN cok 0 rfl rfl rfl rfl rfl (by first | exact Nat.le_of_ble_eq_true rfl | omega | (dsimp only; omega) | (simp only [addS_eq, mulS_eq]; omega)) ?_) | (refine still_in ?_; first | refine still_nil ?_ | refine still_drop (by decide) ?_) | (refine OpG.keep ?_; first | refine OpG.sL cok 0 rfl rfl rfl rfl rfl rfl rfl (by first | exact Nat.le_of_ble_eq_true rfl | omega | (dsimp only; omega) | (simp only [addS_eq, mulS_eq]; omega)) ?_))
  refine CallG.behind [_, _] (hse J c1 G2 g3) ?_
  rintro r J2 G1 hs2 ⟨c', hS, k1, k2⟩
  cases hS
  skip
  exact Fin.drop (⟨cb, sz, T, c'⟩ :: (R ++ G2)) [_, _] ⟨_, c', G2, V1, rfl, k1, StkV.mk g3 k2, (g1.up hs).stk k2, g2, g4⟩
end Go.Proofs.YgvafwGreat
