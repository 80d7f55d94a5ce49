import Derived.Test.YgvafwGreatE29
import Derived.Test.YgvafwGreatE11
import Derived.Test.YgvafwGreatV14
import Derived.Test.YgvafwGreatV15
import Derived.Test.YgvafwGreatV6d
import Derived.Test.YgvafwGreatY24
set_option exponentiation.threshold 1000
set_option maxRecDepth 100000
set_option maxHeartbeats 4000000
set_option linter.unusedVariables false
set_option linter.unusedSimpArgs false
-- v2
-- v4
-- v5
-- v6
-- v7
namespace Go.Proofs.YgvafwGreat
open Go.HL Go.Proofs
theorem _root_.Go.HL.QuG.neV {C : Cfg} {e : Env} {S : St} {q : Value → Prop} {ty : TypeId} (hC : C.Ok) {t u : TypeId} {x y : Operand} {i j : TI} {xs ys : List Nat} {p : Bool} (hp : (!decide (xs = ys)) = p) (k : IntKind) (hD : C.D t = some i) (hk : i.kind = 5) (hj : C.D i.elem = some j) (hjk : j.kind = 1) (hs : j.size = 1) (hg : C.P.eqGuardType C.P.depth t = false)
    (hx : ev e x = .agg (ivs k xs).toArray) (hy : ev e y = .agg (ivs k ys).toArray) (lx : xs.length = i.len) (ly : ys.length = i.len) (h : q (.bool p)) : QuG C.P (.binOp .neq t x y u) ty e S q := by
  subst hp; exact QuG.neA hC k hD hk hj hjk hs hg hx hy lx ly h
theorem _root_.Go.HL.QuG.eqV {C : Cfg} {e : Env} {S : St} {q : Value → Prop} {ty : TypeId} (hC : C.Ok) {t u : TypeId} {x y : Operand} {i j : TI} {xs ys : List Nat} {p : Bool} (hp : decide (xs = ys) = p) (k : IntKind) (hD : C.D t = some i) (hk : i.kind = 5) (hj : C.D i.elem = some j) (hjk : j.kind = 1) (hs : j.size = 1) (hg : C.P.eqGuardType C.P.depth t = false)
    (hx : ev e x = .agg (ivs k xs).toArray) (hy : ev e y = .agg (ivs k ys).toArray) (lx : xs.length = i.len) (ly : ys.length = i.len) (h : q (.bool p)) : QuG C.P (.binOp .eql t x y u) ty e S q := by
  subst hp; exact QuG.eqA hC k hD hk hj hjk hs hg hx hy lx ly h
theorem wlT {a b : Nat} (ha : a < 115792089237316195423570985008687907853269984665640564039457584007913129639936) (hb : b < 115792089237316195423570985008687907853269984665640564039457584007913129639936) (h : a = b) : decide (wl a = wl b) = true := by rw [h]; exact decide_eq_true rfl
theorem wlF {a b : Nat} (ha : a < 115792089237316195423570985008687907853269984665640564039457584007913129639936) (hb : b < 115792089237316195423570985008687907853269984665640564039457584007913129639936) (h : a ≠ b) : decide (wl a = wl b) = false := decide_eq_false fun e => h (wl_inj ha hb e)
theorem sst_A {v n : Nat} {cold : Bool} (h : n = v) : sstN 0 v n cold = (100 + (if cold then 2100 else 0), 0, 0) := by unfold sstN; simp [h]
theorem sst_B {v n : Nat} {cold : Bool} (h : n ≠ v) (h2 : v = 0) : sstN 0 v n cold = (20000 + (if cold then 2100 else 0), 0, 0) := by unfold sstN; subst h2; simp [h]
theorem sst_C {v n : Nat} {cold : Bool} (h : n ≠ v) (h2 : v ≠ 0) (h3 : n = 0) : sstN 0 v n cold = (100 + (if cold then 2100 else 0), 19900, 0) := by unfold sstN; subst h3; simp [h, h2]
theorem sst_D {v n : Nat} {cold : Bool} (h : n ≠ v) (h2 : v ≠ 0) (h3 : n ≠ 0) : sstN 0 v n cold = (100 + (if cold then 2100 else 0), 0, 0) := by unfold sstN; simp [h, h2, h3]
/-- What mach.Sstore answers where the slot was zero at the start. -/
theorem mSstore {S : St} {v n : Nat} {cold : Bool} (hv : v < 115792089237316195423570985008687907853269984665640564039457584007913129639936) (hn : n < 115792089237316195423570985008687907853269984665640564039457584007913129639936) : CallG Hvaf.prog 315 #[wordV 0, wordV v, wordV n, .bool cold] S fun r S' => S = S' ∧ r = .tuple #[.int .u64 ((sstN 0 v n cold).1 : Nat), .int .u64 ((sstN 0 v n cold).2.1 : Nat), .int .u64 ((sstN 0 v n cold).2.2 : Nat)] := by
  have h0 : (0 : Nat) < 115792089237316195423570985008687907853269984665640564039457584007913129639936 := zero_lt
  have hz := fun S => UIsZero_spec (S := S) h0
  rw [decide_eq_true rfl] at hz
  by_cases c1 : n = v
  · have e1 := wlT hn hv c1
    rw [sst_A c1]
    cases cold
    all_goals (
      refine CallG.start (C := mkC Hvaf.prog) cok (args := [wordV 0, wordV v, wordV n, .bool _]) Hvaf.func315 rfl Hvaf.ntmps315 (by simp) (by kernel_rfl) ?_
      intro x1 x2 x3
      repeat (first | (refine QuG.keep ?_; refine QuG.eqV cok (xs := wl n) (ys := wl v) e1 .u64 rfl rfl rfl rfl rfl (by decide +kernel) rfl rfl rfl rfl ?_) | refine SeqS.go cok ?_ | refine CondS.t rfl ?_ | refine CondS.f rfl ?_ | (refine ValS.keep ?_; first | (with_reducible refine ValS.kU64 ?_; first | (with_reducible refine ValS.addU64_LL ?_ ?_ ; omega))) | (refine QuG.keep ?_; first | refine QuG.lN cok 0 rfl rfl rfl rfl rfl (by first | exact Nat.le_of_ble_eq_true rfl | omega | (dsimp only; omega) | (simp only [addS_eq, mulS_eq]; omega)) ?_ | refine QuG.lN cok 1 rfl rfl rfl rfl rfl (by first | exact Nat.le_of_ble_eq_true rfl | omega | (dsimp only; omega) | (simp only [addS_eq, mulS_eq]; omega)) ?_))
      exact Fin.drop S.G [_, _, _] ⟨rfl, rfl⟩)
  · have e1 := wlF hn hv c1
    by_cases c2 : v = 0
    · have e2 := wlT hv h0 c2
      rw [sst_B c1 c2]
      cases cold
      all_goals (
        refine CallG.start (C := mkC Hvaf.prog) cok (args := [wordV 0, wordV v, wordV n, .bool _]) Hvaf.func315 rfl Hvaf.ntmps315 (by simp) (by kernel_rfl) ?_
        intro x1 x2 x3
        repeat (first | (refine QuG.keep ?_; refine QuG.eqV cok (xs := wl n) (ys := wl v) e1 .u64 rfl rfl rfl rfl rfl (by decide +kernel) rfl rfl rfl rfl ?_) | (refine QuG.keep ?_; refine QuG.eqV cok (xs := wl v) (ys := wl 0) e2 .u64 rfl rfl rfl rfl rfl (by decide +kernel) rfl rfl rfl rfl ?_) | refine SeqS.go cok ?_ | refine CondS.t rfl ?_ | refine CondS.f rfl ?_ | (refine QuG.keep ?_; first | refine QuG.lN cok 0 rfl rfl rfl rfl rfl (by first | exact Nat.le_of_ble_eq_true rfl | omega | (dsimp only; omega) | (simp only [addS_eq, mulS_eq]; omega)) ?_ | refine QuG.lN cok 1 rfl rfl rfl rfl rfl (by first | exact Nat.le_of_ble_eq_true rfl | omega | (dsimp only; omega) | (simp only [addS_eq, mulS_eq]; omega)) ?_ | refine QuG.lN cok 2 rfl rfl rfl rfl rfl (by first | exact Nat.le_of_ble_eq_true rfl | omega | (dsimp only; omega) | (simp only [addS_eq, mulS_eq]; omega)) ?_))
        refine (hz _).mono ?_
        rintro r _ - ⟨rfl, rfl⟩
        repeat (first | refine SeqS.go cok ?_ | refine CondS.t rfl ?_ | (refine ValS.keep ?_; first | (with_reducible refine ValS.kU64 ?_; first | (with_reducible refine ValS.addU64_LL ?_ ?_ ; omega))))
        exact Fin.drop S.G [_, _, _] ⟨rfl, rfl⟩)
    · have e2 := wlF hv h0 c2
      by_cases c3 : n = 0
      · have e3 := wlT hn h0 c3
        rw [sst_C c1 c2 c3]
        cases cold
        all_goals (
          refine CallG.start (C := mkC Hvaf.prog) cok (args := [wordV 0, wordV v, wordV n, .bool _]) Hvaf.func315 rfl Hvaf.ntmps315 (by simp) (by kernel_rfl) ?_
          intro x1 x2 x3
          repeat (first | (refine QuG.keep ?_; refine QuG.eqV cok (xs := wl n) (ys := wl v) e1 .u64 rfl rfl rfl rfl rfl (by decide +kernel) rfl rfl rfl rfl ?_) | (refine QuG.keep ?_; refine QuG.eqV cok (xs := wl v) (ys := wl 0) e2 .u64 rfl rfl rfl rfl rfl (by decide +kernel) rfl rfl rfl rfl ?_) | refine SeqS.go cok ?_ | refine CondS.t rfl ?_ | refine CondS.f rfl ?_ | (refine QuG.keep ?_; first | refine QuG.lN cok 0 rfl rfl rfl rfl rfl (by first | exact Nat.le_of_ble_eq_true rfl | omega | (dsimp only; omega) | (simp only [addS_eq, mulS_eq]; omega)) ?_ | refine QuG.lN cok 1 rfl rfl rfl rfl rfl (by first | exact Nat.le_of_ble_eq_true rfl | omega | (dsimp only; omega) | (simp only [addS_eq, mulS_eq]; omega)) ?_ | refine QuG.lN cok 2 rfl rfl rfl rfl rfl (by first | exact Nat.le_of_ble_eq_true rfl | omega | (dsimp only; omega) | (simp only [addS_eq, mulS_eq]; omega)) ?_))
          refine (hz _).mono ?_
          rintro r _ - ⟨rfl, rfl⟩
          repeat (first | (refine QuG.keep ?_; refine QuG.eqV cok (xs := wl n) (ys := wl 0) e3 .u64 rfl rfl rfl rfl rfl (by decide +kernel) rfl rfl rfl rfl ?_) | refine SeqS.go cok ?_ | refine CondS.t rfl ?_ | refine CondS.f rfl ?_ | (refine QuG.keep ?_; first | refine QuG.lN cok 0 rfl rfl rfl rfl rfl (by first | exact Nat.le_of_ble_eq_true rfl | omega | (dsimp only; omega) | (simp only [addS_eq, mulS_eq]; omega)) ?_ | refine QuG.lN cok 2 rfl rfl rfl rfl rfl (by first | exact Nat.le_of_ble_eq_true rfl | omega | (dsimp only; omega) | (simp only [addS_eq, mulS_eq]; omega)) ?_))
          refine (hz _).mono ?_
          rintro r _ - ⟨rfl, rfl⟩
          repeat (first | refine SeqS.go cok ?_ | refine CondS.t rfl ?_ | (refine ValS.keep ?_; first | (with_reducible refine ValS.kU64 ?_; first | (with_reducible refine ValS.addU64_LL ?_ ?_ ; omega))))
          exact Fin.drop S.G [_, _, _] ⟨rfl, rfl⟩)
      · have e3 := wlF hn h0 c3
        rw [sst_D c1 c2 c3]
        cases cold
        all_goals (
          refine CallG.start (C := mkC Hvaf.prog) cok (args := [wordV 0, wordV v, wordV n, .bool _]) Hvaf.func315 rfl Hvaf.ntmps315 (by simp) (by kernel_rfl) ?_
          intro x1 x2 x3
          repeat (first | (refine QuG.keep ?_; refine QuG.eqV cok (xs := wl n) (ys := wl v) e1 .u64 rfl rfl rfl rfl rfl (by decide +kernel) rfl rfl rfl rfl ?_) | (refine QuG.keep ?_; refine QuG.eqV cok (xs := wl v) (ys := wl 0) e2 .u64 rfl rfl rfl rfl rfl (by decide +kernel) rfl rfl rfl rfl ?_) | refine SeqS.go cok ?_ | refine CondS.t rfl ?_ | refine CondS.f rfl ?_ | (refine QuG.keep ?_; first | refine QuG.lN cok 0 rfl rfl rfl rfl rfl (by first | exact Nat.le_of_ble_eq_true rfl | omega | (dsimp only; omega) | (simp only [addS_eq, mulS_eq]; omega)) ?_ | refine QuG.lN cok 1 rfl rfl rfl rfl rfl (by first | exact Nat.le_of_ble_eq_true rfl | omega | (dsimp only; omega) | (simp only [addS_eq, mulS_eq]; omega)) ?_ | refine QuG.lN cok 2 rfl rfl rfl rfl rfl (by first | exact Nat.le_of_ble_eq_true rfl | omega | (dsimp only; omega) | (simp only [addS_eq, mulS_eq]; omega)) ?_))
          refine (hz _).mono ?_
          rintro r _ - ⟨rfl, rfl⟩
          repeat (first | (refine QuG.keep ?_; refine QuG.eqV cok (xs := wl n) (ys := wl 0) e3 .u64 rfl rfl rfl rfl rfl (by decide +kernel) rfl rfl rfl rfl ?_) | refine SeqS.go cok ?_ | refine CondS.f rfl ?_ | (refine ValS.keep ?_; first | (with_reducible refine ValS.kU64 ?_; first | (with_reducible refine ValS.addU64_LL ?_ ?_ ; omega))) | (refine QuG.keep ?_; first | refine QuG.lN cok 0 rfl rfl rfl rfl rfl (by first | exact Nat.le_of_ble_eq_true rfl | omega | (dsimp only; omega) | (simp only [addS_eq, mulS_eq]; omega)) ?_ | refine QuG.lN cok 2 rfl rfl rfl rfl rfl (by first | exact Nat.le_of_ble_eq_true rfl | omega | (dsimp only; omega) | (simp only [addS_eq, mulS_eq]; omega)) ?_))
          exact Fin.drop S.G [_, _, _] ⟨rfl, rfl⟩)
theorem Vl.tmp_lt {V : Vl} (h : VOk V) (k : Nat) : (V.tmp k).val < 2 ^ 256 := by
  unfold Vl.tmp
  by_cases hi : V.it k < V.tp.length
  · exact h.tbd _ (getD_mem hi)
  · rw [List.getD_eq_getElem?_getD, List.getElem?_eq_none (by omega)]; exact zero_lt
theorem Vl.slt_lt {V : Vl} (h : VOk V) (k : Nat) : (V.slt k).val < 2 ^ 256 := by
  unfold Vl.slt
  by_cases hi : V.is k < V.sl.length
  · exact (h.sbd _ (getD_mem hi)).1
  · rw [List.getD_eq_getElem?_getD, List.getElem?_eq_none (by omega)]; exact zero_lt
/-- mach.Machine.OpTransient, 92 -/
theorem mTr92 {I : Ent → Prop} {G : List Ent} {cb sz pc gas : Nat} {T : TypeId} {c : Nat → Value} {K : YK} {s : List Nat} {R : List Ent} {V : Vl} (hV : VI I c V G) (hO : VOk V) (h0 : V.ix K.self = 0) (h1 : 0 < V.ac.length) (hsz : 27019 ≤ sz) (hK : MK I cb c K) (hM : MV c pc gas s) (hpb : pc + 1 < 60000) (ho : K.code.getD pc 0 = 92) (hs2 : 1 ≤ s.length) (h64 : s.length - 1 < 64) :
    CallG Hvaf.prog 211 #[ptr cb 0] ⟨I, ⟨cb, sz, T, c⟩ :: (R ++ G)⟩ (SetP I (R ++ G) cb sz T c (pc + 1) gas (s.take (s.length - 1) ++ [(V.tmp (argN s 0)).val])) := by
  have hsz' : 2435 ≤ sz := by omega
  have hrn := mRunning (I := I) (G := R ++ G) (cb := cb) (T := T) hsz' hK
  have hop := mOpcode (I := I) (G := R ++ G) (cb := cb) (T := T) hsz' hK hM
  rw [ho] at hop
  have hmS := hK.mS
  have hrow := hK.fself
  have hA := hK.kb.kself
  have hwl : (bvs K.self).length = 20 := by rw [bvs_len]; exact hA.len
  have hfit : 1812 + 20 ≤ sz := by omega
  have ha0 := mArg (I := I) (G := R ++ G) (cb := cb) (T := T) (i := 0) hsz' hK.fsb hM (by decide)
  have hb0 : argN s 0 < 115792089237316195423570985008687907853269984665640564039457584007913129639936 := argN_lt hM.sb
  have hlt : (V.tmp (argN s 0)).val < 115792089237316195423570985008687907853269984665640564039457584007913129639936 := Vl.tmp_lt hO _
  have htl := vTLoad (R := R) (cb := cb) (T := T) hsz hV hO hA h0 h1 hb0
  have hse := mSettleG (I := I) (G := R ++ G) (cb := cb) (T := T) (t := 1) (step := 1) (w := (V.tmp (argN s 0)).val) hsz' hK.fsb hM hs2 hpb h64 hlt

  rw [wcs_word] at hse
  generalize (V.tmp (argN s 0)).val = w at *
  generalize argN s 0 = a0 at *
  generalize s.take (s.length - 1) ++ [(V.tmp (argN s 0)).val] = s' at *
  have hrd2 : ∀ y : Ent, Rd ⟨I, y :: ⟨cb, sz, T, c⟩ :: (R ++ G)⟩ ⟨cb, sz, T, c⟩ := fun y => .inr (List.mem_cons_of_mem _ List.mem_cons_self)
  refine CallG.start (C := mkC Hvaf.prog) cok (args := [ptr cb 0]) Hvaf.func211 rfl Hvaf.ntmps211 (by simp) (by kernel_rfl) ?_
  skip
  refine CallG.sameL [] hrn ?_
  repeat (first | refine SeqS.go cok ?_ | refine CondS.f rfl ?_)
  refine CallG.sameL [] ha0 ?_
  intro x1
  repeat (first | (refine QuG.keep ?_; refine QuG.rowE cok hrow (hrd2 _) rfl rfl rfl rfl rfl hwl hfit ?_) | (refine QuG.keep ?_; first | refine QuG.l1E cok 1 rfl rfl rfl rfl rfl (by first | exact Nat.le_of_ble_eq_true rfl | omega | (dsimp only; omega) | (simp only [addS_eq, mulS_eq]; omega)) (by assumption) ?_) | refine SeqS.go cok ?_ | (refine QuG.keep ?_; first | refine QuG.lN cok 0 rfl rfl rfl rfl rfl (by first | exact Nat.le_of_ble_eq_true rfl | omega | (dsimp only; omega) | (simp only [addS_eq, mulS_eq]; omega)) ?_) | (refine OpG.keep ?_; first | refine OpG.sL cok 0 rfl rfl rfl rfl rfl rfl rfl (by first | exact Nat.le_of_ble_eq_true rfl | omega | (dsimp only; omega) | (simp only [addS_eq, mulS_eq]; omega)) ?_) | refine W.drawI 3 cok [0, 1, 3, 7, 0, 16, 48, 112, 0, 511, 0, 2047] [0, 1, 2, 3, 4, 5, 6, 7, 8, 9, 10, 11] [3, 7, 8] (by kernel_rfl) (by kernel_rfl) ?_)
  refine CallG.sameL [_] htl ?_
  repeat (first | (refine still_in ?_; first | refine still_nil ?_ | refine still_drop (by decide) ?_))
  intro x2
  repeat (first | refine SeqS.go cok ?_ | (refine still_in ?_; first | refine still_drop (by decide) ?_) | (refine OpG.keep ?_; first | refine OpG.sL cok 0 rfl rfl rfl rfl rfl rfl rfl (by first | exact Nat.le_of_ble_eq_true rfl | omega | (dsimp only; omega) | (simp only [addS_eq, mulS_eq]; omega)) ?_))
  refine CallG.sameL [_, _] hop ?_
  repeat (first | refine SeqS.go cok ?_ | refine CondS.t rfl ?_ | (refine QuG.keep ?_; first | refine QuG.lN cok 0 rfl rfl rfl rfl rfl (by first | exact Nat.le_of_ble_eq_true rfl | omega | (dsimp only; omega) | (simp only [addS_eq, mulS_eq]; omega)) ?_))
  refine CallG.behind [_, _] hse ?_
  rintro r J G1 hs ⟨c', hS, h1, h2⟩
  cases hS
  repeat (first | refine SeqS.go cok ?_)
  exact Fin.drop (⟨cb, sz, T, c'⟩ :: (R ++ G)) [_, _] ⟨c', rfl, h1, h2⟩
/-- mach.Machine.OpTransient, 93, the value stays -/
theorem mTr93e {I : Ent → Prop} {R G : List Ent} {cb sz pc gas : Nat} {T : TypeId} {c : Nat → Value} {K : YK} {V : Vl} {s : List Nat} (hV : VI I c V G) (hO : VOk V) (h0 : V.ix K.self = 0) (h1 : 0 < V.ac.length) (hsz : 27019 ≤ sz) (hK : MK I cb c K) (hM : MV c pc gas s) (hpb : pc + 1 < 60000) (ho : K.code.getD pc 0 = 93) (hs2 : 2 ≤ s.length) (hq : argN s 1 = (V.tmp (argN s 0)).val) :
    CallG Hvaf.prog 211 #[ptr cb 0] ⟨I, ⟨cb, sz, T, c⟩ :: (R ++ G)⟩ (SetP I (R ++ G) cb sz T c (pc + 1) gas (s.take (s.length - 2))) := by
  have hsz' : 2435 ≤ sz := by omega
  have hrn := mRunning (I := I) (G := R ++ G) (cb := cb) (T := T) hsz' hK
  have hop := mOpcode (I := I) (G := R ++ G) (cb := cb) (T := T) hsz' hK hM
  rw [ho] at hop
  have hmS := hK.mS
  have hrow := hK.fself
  have hA := hK.kb.kself
  have hwl : (bvs K.self).length = 20 := by rw [bvs_len]; exact hA.len
  have hfit : 1812 + 20 ≤ sz := by omega
  have ha0 := mArg (I := I) (G := R ++ G) (cb := cb) (T := T) (i := 0) hsz' hK.fsb hM (by decide)
  have hb0 : argN s 0 < 115792089237316195423570985008687907853269984665640564039457584007913129639936 := argN_lt hM.sb
  have ha1 := mArg (I := I) (G := R ++ G) (cb := cb) (T := T) (i := 1) hsz' hK.fsb hM (by decide)
  have hb1 : argN s 1 < 115792089237316195423570985008687907853269984665640564039457584007913129639936 := argN_lt hM.sb
  have hlt : (V.tmp (argN s 0)).val < 115792089237316195423570985008687907853269984665640564039457584007913129639936 := Vl.tmp_lt hO _
  have htl := vTLoad (R := R) (cb := cb) (T := T) hsz hV hO hA h0 h1 hb0
  have hne : (!decide (wl (argN s 1) = wl (V.tmp (argN s 0)).val)) = false := by rw [wlT hb1 hlt hq]; rfl
  have hse := mSettleN (I := I) (G := R ++ G) (cb := cb) (T := T) (t := 2) (step := 1) (ws := [.int .u64 0, .int .u64 0, .int .u64 0, .int .u64 0]) hsz' hM hs2 hpb rfl
  generalize s.take (s.length - 2) = s' at *
  generalize (V.tmp (argN s 0)).val = w at *
  generalize argN s 0 = a0 at *
  generalize argN s 1 = a1 at *
  have hrd2 : ∀ y : Ent, Rd ⟨I, y :: ⟨cb, sz, T, c⟩ :: (R ++ G)⟩ ⟨cb, sz, T, c⟩ := fun y => .inr (List.mem_cons_of_mem _ List.mem_cons_self)
  have hrd4 : ∀ x y z : Ent, Rd ⟨I, x :: y :: z :: ⟨cb, sz, T, c⟩ :: (R ++ G)⟩ ⟨cb, sz, T, c⟩ := fun x y z => .inr (by simp)
  refine CallG.start (C := mkC Hvaf.prog) cok (args := [ptr cb 0]) Hvaf.func211 rfl Hvaf.ntmps211 (by simp) (by kernel_rfl) ?_
  skip
  refine CallG.sameL [] hrn ?_
  repeat (first | refine SeqS.go cok ?_ | refine CondS.f rfl ?_)
  refine CallG.sameL [] ha0 ?_
  intro x1
  repeat (first | (refine QuG.keep ?_; refine QuG.rowE cok hrow (hrd2 _) rfl rfl rfl rfl rfl hwl hfit ?_) | (refine QuG.keep ?_; first | refine QuG.l1E cok 1 rfl rfl rfl rfl rfl (by first | exact Nat.le_of_ble_eq_true rfl | omega | (dsimp only; omega) | (simp only [addS_eq, mulS_eq]; omega)) (by assumption) ?_) | refine SeqS.go cok ?_ | (refine QuG.keep ?_; first | refine QuG.lN cok 0 rfl rfl rfl rfl rfl (by first | exact Nat.le_of_ble_eq_true rfl | omega | (dsimp only; omega) | (simp only [addS_eq, mulS_eq]; omega)) ?_) | (refine OpG.keep ?_; first | refine OpG.sL cok 0 rfl rfl rfl rfl rfl rfl rfl (by first | exact Nat.le_of_ble_eq_true rfl | omega | (dsimp only; omega) | (simp only [addS_eq, mulS_eq]; omega)) ?_) | refine W.drawI 3 cok [0, 1, 3, 7, 0, 16, 48, 112, 0, 511, 0, 2047] [0, 1, 2, 3, 4, 5, 6, 7, 8, 9, 10, 11] [3, 7, 8] (by kernel_rfl) (by kernel_rfl) ?_)
  refine CallG.sameL [_] htl ?_
  repeat (first | (refine still_in ?_; first | refine still_nil ?_ | refine still_drop (by decide) ?_))
  intro x2
  repeat (first | refine SeqS.go cok ?_ | (refine still_in ?_; first | refine still_drop (by decide) ?_) | (refine OpG.keep ?_; first | refine OpG.sL cok 0 rfl rfl rfl rfl rfl rfl rfl (by first | exact Nat.le_of_ble_eq_true rfl | omega | (dsimp only; omega) | (simp only [addS_eq, mulS_eq]; omega)) ?_))
  refine CallG.sameL [_, _] hop ?_
  repeat (first | refine SeqS.go cok ?_ | refine CondS.f rfl ?_)
  refine CallG.sameL [_, _] ha1 ?_
  intro x3
  repeat (first | (refine QuG.keep ?_; refine QuG.neV cok (xs := wl a1) (ys := wl w) hne .u64 rfl rfl rfl rfl rfl (by decide +kernel) rfl rfl rfl rfl ?_) | refine SeqS.go cok ?_ | refine GuardS.no rfl ?_ | refine CondS.f rfl ?_ | refine And.intro (fillOk_of (Eq.refl true)) ?_ | (refine QuG.keep ?_; first | refine QuG.lN cok 0 rfl rfl rfl rfl rfl (by first | exact Nat.le_of_ble_eq_true rfl | omega | (dsimp only; omega) | (simp only [addS_eq, mulS_eq]; omega)) ?_ | refine QuG.lN cok 1 rfl rfl rfl rfl rfl (by first | exact Nat.le_of_ble_eq_true rfl | omega | (dsimp only; omega) | (simp only [addS_eq, mulS_eq]; omega)) ?_) | (refine OpG.keep ?_; first | refine OpG.sL cok 0 rfl rfl rfl rfl rfl rfl rfl (by first | exact Nat.le_of_ble_eq_true rfl | omega | (dsimp only; omega) | (simp only [addS_eq, mulS_eq]; omega)) ?_) | refine W.drawI 7 cok [0, 0, 3, 7, 15, 31, 63, 127, 15, 271, 783, 1807, 15, 15, 16383, 32767, 65535] [0, 1, 2, 3, 4, 5, 6, 7, 8, 9, 10, 11, 12, 13, 14, 15, 16] [0, 1, 7, 11, 12, 13] (by kernel_rfl) (by kernel_rfl) ?_)
  refine CallG.behind [_, _, _] hse ?_
  rintro r J G1 hs ⟨c', hS, h1, h2⟩
  cases hS
  skip
  exact Fin.drop (⟨cb, sz, T, c'⟩ :: (R ++ G)) [_, _, _] ⟨c', rfl, h1, h2⟩
/-- mach.Machine.OpTransient, 93, the value changes -/
theorem mTr93n {I : Ent → Prop} {R G : List Ent} {cb sz pc gas : Nat} {T : TypeId} {c : Nat → Value} {K : YK} {V : Vl} {s : List Nat} (hV : VI I c V G) (hO : VOk V) (h0 : V.ix K.self = 0) (h1 : 0 < V.ac.length) (hsz : 27019 ≤ sz) (hK : MK I cb c K) (hM : MV c pc gas s) (hpb : pc + 1 < 60000) (ho : K.code.getD pc 0 = 93) (hs2 : 2 ≤ s.length) (hq : argN s 1 ≠ (V.tmp (argN s 0)).val) (hroom : V.tp.length < 11990) (hj : V.jr.length < 59990) :
    CallG Hvaf.prog 211 #[ptr cb 0] ⟨I, ⟨cb, sz, T, c⟩ :: (R ++ G)⟩ (SetV I R cb sz T c (pc + 1) gas (s.take (s.length - 2)) fun V' => ∃ t, V' = V.setT (argN s 0) t { V.tmp' (argN s 0) with val := argN s 1 } ⟨8, V.it (argN s 0), 0, (V.tmp' (argN s 0)).val, false⟩) := by
  have hsz' : 2435 ≤ sz := by omega
  have hrn := mRunning (I := I) (G := R ++ G) (cb := cb) (T := T) hsz' hK
  have hop := mOpcode (I := I) (G := R ++ G) (cb := cb) (T := T) hsz' hK hM
  rw [ho] at hop
  have hmS := hK.mS
  have hrow := hK.fself
  have hA := hK.kb.kself
  have hwl : (bvs K.self).length = 20 := by rw [bvs_len]; exact hA.len
  have hfit : 1812 + 20 ≤ sz := by omega
  have ha0 := mArg (I := I) (G := R ++ G) (cb := cb) (T := T) (i := 0) hsz' hK.fsb hM (by decide)
  have hb0 : argN s 0 < 115792089237316195423570985008687907853269984665640564039457584007913129639936 := argN_lt hM.sb
  have ha1 := mArg (I := I) (G := R ++ G) (cb := cb) (T := T) (i := 1) hsz' hK.fsb hM (by decide)
  have hb1 : argN s 1 < 115792089237316195423570985008687907853269984665640564039457584007913129639936 := argN_lt hM.sb
  have hlt : (V.tmp (argN s 0)).val < 115792089237316195423570985008687907853269984665640564039457584007913129639936 := Vl.tmp_lt hO _
  have htl := vTLoad (R := R) (cb := cb) (T := T) hsz hV hO hA h0 h1 hb0
  have hne : (!decide (wl (argN s 1) = wl (V.tmp (argN s 0)).val)) = true := by rw [wlF hb1 hlt hq]; rfl
  have hts := vTStore (R := R) (cb := cb) (T := T) (v := argN s 1) hsz hV hO hA h0 h1 hb0 hroom hj hb1
  rw [wcs_word, wcs_word] at hts
  have hse := fun c1 G1 (ho : Out c c1) => mSettleN (I := I) (G := R ++ G1) (cb := cb) (T := T) (t := 2) (step := 1) (ws := [.int .u64 0, .int .u64 0, .int .u64 0, .int .u64 0]) hsz' (hM.out ho) hs2 hpb rfl
  generalize s.take (s.length - 2) = s' at *
  generalize (V.tmp (argN s 0)).val = w at *
  generalize argN s 0 = a0 at *
  generalize argN s 1 = a1 at *
  have hrd2 : ∀ y : Ent, Rd ⟨I, y :: ⟨cb, sz, T, c⟩ :: (R ++ G)⟩ ⟨cb, sz, T, c⟩ := fun y => .inr (List.mem_cons_of_mem _ List.mem_cons_self)
  have hrd4 : ∀ x y z : Ent, Rd ⟨I, x :: y :: z :: ⟨cb, sz, T, c⟩ :: (R ++ G)⟩ ⟨cb, sz, T, c⟩ := fun x y z => .inr (by simp)
  refine CallG.start (C := mkC Hvaf.prog) cok (args := [ptr cb 0]) Hvaf.func211 rfl Hvaf.ntmps211 (by simp) (by kernel_rfl) ?_
  skip
  refine CallG.sameL [] hrn ?_
  repeat (first | refine SeqS.go cok ?_ | refine CondS.f rfl ?_)
  refine CallG.sameL [] ha0 ?_
  intro x1
  repeat (first | (refine QuG.keep ?_; refine QuG.rowE cok hrow (hrd2 _) rfl rfl rfl rfl rfl hwl hfit ?_) | (refine QuG.keep ?_; first | refine QuG.l1E cok 1 rfl rfl rfl rfl rfl (by first | exact Nat.le_of_ble_eq_true rfl | omega | (dsimp only; omega) | (simp only [addS_eq, mulS_eq]; omega)) (by assumption) ?_) | refine SeqS.go cok ?_ | (refine QuG.keep ?_; first | refine QuG.lN cok 0 rfl rfl rfl rfl rfl (by first | exact Nat.le_of_ble_eq_true rfl | omega | (dsimp only; omega) | (simp only [addS_eq, mulS_eq]; omega)) ?_) | (refine OpG.keep ?_; first | refine OpG.sL cok 0 rfl rfl rfl rfl rfl rfl rfl (by first | exact Nat.le_of_ble_eq_true rfl | omega | (dsimp only; omega) | (simp only [addS_eq, mulS_eq]; omega)) ?_) | refine W.drawI 3 cok [0, 1, 3, 7, 0, 16, 48, 112, 0, 511, 0, 2047] [0, 1, 2, 3, 4, 5, 6, 7, 8, 9, 10, 11] [3, 7, 8] (by kernel_rfl) (by kernel_rfl) ?_)
  refine CallG.sameL [_] htl ?_
  repeat (first | (refine still_in ?_; first | refine still_nil ?_ | refine still_drop (by decide) ?_))
  intro x2
  repeat (first | refine SeqS.go cok ?_ | (refine still_in ?_; first | refine still_drop (by decide) ?_) | (refine OpG.keep ?_; first | refine OpG.sL cok 0 rfl rfl rfl rfl rfl rfl rfl (by first | exact Nat.le_of_ble_eq_true rfl | omega | (dsimp only; omega) | (simp only [addS_eq, mulS_eq]; omega)) ?_))
  refine CallG.sameL [_, _] hop ?_
  repeat (first | refine SeqS.go cok ?_ | refine CondS.f rfl ?_)
  refine CallG.sameL [_, _] ha1 ?_
  intro x3
  repeat (first | (refine QuG.keep ?_; refine QuG.neV cok (xs := wl a1) (ys := wl w) hne .u64 rfl rfl rfl rfl rfl (by decide +kernel) rfl rfl rfl rfl ?_) | (refine QuG.keep ?_; refine QuG.rowE cok hrow (hrd4 _ _ _) rfl rfl rfl rfl rfl hwl hfit ?_) | (refine QuG.keep ?_; first | refine QuG.l1E cok 3 rfl rfl rfl rfl rfl (by first | exact Nat.le_of_ble_eq_true rfl | omega | (dsimp only; omega) | (simp only [addS_eq, mulS_eq]; omega)) (by assumption) ?_) | refine SeqS.go cok ?_ | refine GuardS.yes rfl ?_ | (refine QuG.keep ?_; first | refine QuG.lN cok 0 rfl rfl rfl rfl rfl (by first | exact Nat.le_of_ble_eq_true rfl | omega | (dsimp only; omega) | (simp only [addS_eq, mulS_eq]; omega)) ?_ | refine QuG.lN cok 1 rfl rfl rfl rfl rfl (by first | exact Nat.le_of_ble_eq_true rfl | omega | (dsimp only; omega) | (simp only [addS_eq, mulS_eq]; omega)) ?_ | refine QuG.lN cok 2 rfl rfl rfl rfl rfl (by first | exact Nat.le_of_ble_eq_true rfl | omega | (dsimp only; omega) | (simp only [addS_eq, mulS_eq]; omega)) ?_) | (refine OpG.keep ?_; first | refine OpG.sL cok 0 rfl rfl rfl rfl rfl rfl rfl (by first | exact Nat.le_of_ble_eq_true rfl | omega | (dsimp only; omega) | (simp only [addS_eq, mulS_eq]; omega)) ?_) | refine W.drawI 7 cok [0, 0, 3, 7, 15, 31, 63, 127, 15, 271, 783, 1807, 15, 15, 16383, 32767, 65535] [0, 1, 2, 3, 4, 5, 6, 7, 8, 9, 10, 11, 12, 13, 14, 15, 16] [0, 1, 7, 11, 12, 13] (by kernel_rfl) (by kernel_rfl) ?_)
  refine CallG.behind [_, _, _] hts ?_
  rintro r J G1 hs ⟨rfl, c1, G2, t, hS, g1, g2, g3⟩
  cases hS
  repeat (first | refine SeqS.go cok ?_ | refine GuardS.yes rfl ?_ | refine CondS.f rfl ?_ | refine And.intro (fillOk_of (Eq.refl true)) ?_ | (refine still_in ?_; first | refine still_drop (by decide) ?_))
  refine CallG.behind [_, _, _] (hse c1 G2 g3) ?_
  rintro r J G1 hs ⟨c', hS, k1, k2⟩
  cases hS
  skip
  exact Fin.drop (⟨cb, sz, T, c'⟩ :: (R ++ G2)) [_, _, _] ⟨c', G2, _, rfl, k1, StkV.mk g3 k2, g1.stk k2, g2, t, rfl⟩
end Go.Proofs.YgvafwGreat
