import Derived.Test.YgvafwGreatE44
import Derived.Test.YgvafwGreatE42
import Derived.Test.YgvafwGreatE41
import Derived.Test.YgvafwGreatS2
set_option exponentiation.threshold 1000
set_option maxRecDepth 100000
set_option maxHeartbeats 4000000
set_option linter.unusedVariables false
set_option linter.unusedSimpArgs false
-- v2
-- v4
-- v5
-- v6
-- v7
namespace Go.Proofs.YgvafwGreat
open Go.HL Go.Proofs

/-- mach.Machine.reaches, CREATE -/
theorem mRs240Y {I : Ent → Prop} {G : List Ent} {cb sz pc gas : Nat} {T : TypeId} {c : Nat → Value} {K : YK} {s : List Nat} (hsz : 2435 ≤ sz) (hK : MK I cb c K) (hM : MV c pc gas s) (h : endN (argN s 1) (argN s 2) ≤ 717280) :
    CallG Hvaf.prog 277 #[ptr cb 0, ptr cb 1803, .int .u8 ((240 : Nat) : Int)] ⟨I, ⟨cb, sz, T, c⟩ :: G⟩ fun r S' => ⟨I, ⟨cb, sz, T, c⟩ :: G⟩ = S' ∧ r = .tuple #[.int .u64 (((endN (argN s 1) (argN s 2) + 31) / 32 : Nat) : Int), .bool true] := by
  have ha := mArg (I := I) (G := G) (cb := cb) (T := T) (i := 1) hsz hK.fsb hM (by decide)
  have hb := mArg (I := I) (G := G) (cb := cb) (T := T) (i := 2) hsz hK.fsb hM (by decide)
  have hb1 : argN s 1 < 115792089237316195423570985008687907853269984665640564039457584007913129639936 := argN_lt hM.sb
  have hb2 : argN s 2 < 115792089237316195423570985008687907853269984665640564039457584007913129639936 := argN_lt hM.sb
  have hre := fun S => mReachY (S := S) hb1 hb2 h
  generalize (endN (argN s 1) (argN s 2) + 31) / 32 = res at *
  generalize argN s 1 = a at *
  generalize argN s 2 = b at *
  refine CallG.start (C := mkC Hvaf.prog) cok (args := [ptr cb 0, ptr cb 1803, .int .u8 ((240 : Nat) : Int)]) Hvaf.func277 rfl Hvaf.ntmps277 (by simp) (by kernel_rfl) ?_
  repeat (first | refine SeqS.go cok ?_ | refine CondS.t rfl ?_ | refine CondS.f rfl ?_)
  refine CallG.sameL [] ha ?_
  skip
  refine CallG.sameL [] hb ?_
  skip
  refine (hre _).mono ?_
  rintro r _ - ⟨rfl, rfl⟩
  repeat (first | refine SeqS.go cok ?_)
  exact Fin.same ⟨rfl, rfl⟩
/-- mach.Machine.reaches, CREATE beyond the memory -/
theorem mRs240N {I : Ent → Prop} {G : List Ent} {cb sz pc gas : Nat} {T : TypeId} {c : Nat → Value} {K : YK} {s : List Nat} (hsz : 2435 ≤ sz) (hK : MK I cb c K) (hM : MV c pc gas s) (h : 717280 < endN (argN s 1) (argN s 2)) :
    CallG Hvaf.prog 277 #[ptr cb 0, ptr cb 1803, .int .u8 ((240 : Nat) : Int)] ⟨I, ⟨cb, sz, T, c⟩ :: G⟩ fun r S' => ⟨I, ⟨cb, sz, T, c⟩ :: G⟩ = S' ∧ ∃ v, r = .tuple #[v, .bool false] := by
  have ha := mArg (I := I) (G := G) (cb := cb) (T := T) (i := 1) hsz hK.fsb hM (by decide)
  have hb := mArg (I := I) (G := G) (cb := cb) (T := T) (i := 2) hsz hK.fsb hM (by decide)
  have hb1 : argN s 1 < 115792089237316195423570985008687907853269984665640564039457584007913129639936 := argN_lt hM.sb
  have hb2 : argN s 2 < 115792089237316195423570985008687907853269984665640564039457584007913129639936 := argN_lt hM.sb
  have hre := fun S => mReachN (S := S) hb1 hb2 h
  generalize argN s 1 = a at *
  generalize argN s 2 = b at *
  refine CallG.start (C := mkC Hvaf.prog) cok (args := [ptr cb 0, ptr cb 1803, .int .u8 ((240 : Nat) : Int)]) Hvaf.func277 rfl Hvaf.ntmps277 (by simp) (by kernel_rfl) ?_
  repeat (first | refine SeqS.go cok ?_ | refine CondS.t rfl ?_ | refine CondS.f rfl ?_)
  refine CallG.sameL [] ha ?_
  skip
  refine CallG.sameL [] hb ?_
  skip
  refine (hre _).mono ?_
  rintro r _ - ⟨rfl, rfl⟩
  repeat (first | refine SeqS.go cok ?_)
  exact Fin.same ⟨rfl, _, rfl⟩
/-- mach.Machine.reaches, SELFDESTRUCT -/
theorem mRs255 {I : Ent → Prop} {G : List Ent} {cb sz : Nat} {T : TypeId} {c : Nat → Value} :
    CallG Hvaf.prog 277 #[ptr cb 0, ptr cb 1803, .int .u8 ((255 : Nat) : Int)] ⟨I, ⟨cb, sz, T, c⟩ :: G⟩ fun r S' => ⟨I, ⟨cb, sz, T, c⟩ :: G⟩ = S' ∧ r = .tuple #[.int .u64 ((0 : Nat) : Int), .bool true] := by
  refine CallG.start (C := mkC Hvaf.prog) cok (args := [ptr cb 0, ptr cb 1803, .int .u8 ((255 : Nat) : Int)]) Hvaf.func277 rfl Hvaf.ntmps277 (by simp) (by kernel_rfl) ?_
  repeat (first | refine SeqS.go cok ?_ | refine CondS.f rfl ?_)
  exact Fin.same ⟨rfl, rfl⟩
/-- mach.Machine.dynamic, CREATE -/
theorem mDy240 {I : Ent → Prop} {R G : List Ent} {cb sz pc gas : Nat} {T : TypeId} {c : Nat → Value} {K : YK} {s : List Nat} (hsz : 27019 ≤ sz) (hK : MK I cb c K) (hM : MV c pc gas s) (hn : argN s 2 ≤ 512) :
    CallG Hvaf.prog 279 #[ptr cb 0, ptr cb 1803, .int .u8 ((240 : Nat) : Int)] ⟨I, ⟨cb, sz, T, c⟩ :: (R ++ G)⟩ fun r S' => ⟨I, ⟨cb, sz, T, c⟩ :: (R ++ G)⟩ = S' ∧ r = .int .u64 ((2 * ((argN s 2 + 31) / 32) : Nat) : Int) := by
  have hsz' : 2435 ≤ sz := by omega
  have ha := mArg (I := I) (G := R ++ G) (cb := cb) (T := T) (i := 2) hsz' hK.fsb hM (by decide)
  have hl := fun S => mLength (S := S) (n := argN s 2) (by omega)
  have hw := fun S => Words_spec (S := S) (n := argN s 2) (by omega)
  have hlt : (argN s 2 + 31) / 32 < 100000 := by omega
  generalize (argN s 2 + 31) / 32 = q at *
  generalize argN s 2 = a at *
  refine CallG.start (C := mkC Hvaf.prog) cok (args := [ptr cb 0, ptr cb 1803, .int .u8 ((240 : Nat) : Int)]) Hvaf.func279 rfl Hvaf.ntmps279 (by simp) (by kernel_rfl) ?_
  repeat (first | refine SeqS.go cok ?_ | refine CondS.t rfl ?_ | refine CondS.f rfl ?_)
  refine CallG.sameL [] ha ?_
  skip
  refine (hl _).mono ?_
  rintro r _ - ⟨rfl, rfl⟩
  skip
  refine (hw _).mono ?_
  rintro r _ - ⟨rfl, rfl⟩
  skip
  repeat (first | refine SeqS.go cok ?_ | (refine ValS.keep ?_; first | (with_reducible refine ValS.kU64 ?_; first | (with_reducible refine ValS.mulU64_M ?_ ?_ ; omega))))
  exact Fin.same ⟨rfl, rfl⟩
/-- mach.Machine.destroyCost where the own balance is 0 -/
theorem mDstCost {I : Ent → Prop} {R G : List Ent} {cb sz pc gas : Nat} {T : TypeId} {c : Nat → Value} {K : YK} {V : Vl} {s : List Nat} (hsz : 27019 ≤ sz) (hK : MK I cb c K) (hM : MV c pc gas s) (hV : VI I c V G) (hO : VOk V) (hb : (V.acc K.self).bal = 0) (wm : Bool) (hw : (V.acc (adN (argN s 0))).warm = wm) :
    CallG Hvaf.prog 379 #[ptr cb 0, ptr cb 1803] ⟨I, ⟨cb, sz, T, c⟩ :: (R ++ G)⟩ fun r S' => ⟨I, ⟨cb, sz, T, c⟩ :: (R ++ G)⟩ = S' ∧ r = .int .u64 ((if wm = true then 0 else 2600 : Nat) : Int) := by
  have hsz' : 2435 ≤ sz := by omega
  have hmS := hK.mS
  have ha := mArg (I := I) (G := R ++ G) (cb := cb) (T := T) (i := 0) hsz' hK.fsb hM (by decide)
  have hba : argN s 0 < 115792089237316195423570985008687907853269984665640564039457584007913129639936 := argN_lt hM.sb
  have had := fun S => mAddrOf (S := S) hba
  have hal := (adN_ok (argN s 0)).len
  have hab := (adN_ok (argN s 0)).bv
  have hwa := vIsWarmAcct (R := R) (cb := cb) (T := T) hsz hV hO (adN_ok (argN s 0))
  have hbl := vBalance (R := R) (cb := cb) (T := T) hsz hV hO hK.kb.kself
  rw [hb] at hbl
  rw [hw] at hwa
  have hz := fun S => UIsZero_spec (S := S) (a := 0) (by decide)
  have hrow := hK.fself
  have hwl : (bvs K.self).length = 20 := by rw [bvs_len]; exact hK.kb.kself.len
  have hfit : 1812 + 20 ≤ sz := by omega
  have hrd2 : ∀ y : Ent, Rd ⟨I, y :: ⟨cb, sz, T, c⟩ :: (R ++ G)⟩ ⟨cb, sz, T, c⟩ := fun y => .inr (List.mem_cons_of_mem _ List.mem_cons_self)
  generalize adN (argN s 0) = ad at *
  generalize argN s 0 = a at *
  cases wm
  all_goals (
    refine CallG.start (C := mkC Hvaf.prog) cok (args := [ptr cb 0, ptr cb 1803]) Hvaf.func379 rfl Hvaf.ntmps379 (by simp) (by kernel_rfl) ?_
    repeat (first | refine SeqS.go cok ?_)
    refine CallG.sameL [] ha ?_
    skip
    refine (had _).mono ?_
    rintro r _ - ⟨rfl, rfl⟩
    intro x1
    repeat (first | (refine QuG.keep ?_; first | refine QuG.l1E cok 1 rfl rfl rfl rfl rfl (by first | exact Nat.le_of_ble_eq_true rfl | omega | (dsimp only; omega) | (simp only [addS_eq, mulS_eq]; omega)) (by assumption) ?_ | refine QuG.upL cok 0 rfl rfl rfl rfl rfl rfl (by assumption) (by first | exact Nat.le_of_ble_eq_true rfl | omega) ?_) | (refine OpG.keep ?_; first | refine OpG.upS cok 0 rfl rfl rfl rfl rfl (by assumption) (by first | assumption | exact one_bvs _) (by first | exact Nat.le_of_ble_eq_true rfl | omega) ?_) | refine SeqS.go cok ?_ | refine W.drawI 3 cok [0, 1, 3, 7, 0, 31, 63] [0, 1, 2, 3, 4, 5, 6] [3, 4] (by kernel_rfl) (by kernel_rfl) ?_)
    refine CallG.sameL [_] hwa ?_
    repeat (first | (refine QuG.keep ?_; refine QuG.rowE cok hrow (hrd2 _) rfl rfl rfl rfl rfl hwl hfit ?_) | (refine QuG.keep ?_; first | refine QuG.l1E cok 1 rfl rfl rfl rfl rfl (by first | exact Nat.le_of_ble_eq_true rfl | omega | (dsimp only; omega) | (simp only [addS_eq, mulS_eq]; omega)) (by assumption) ?_) | refine SeqS.go cok ?_ | refine CondS.t rfl ?_ | refine CondS.f rfl ?_ | (refine still_in ?_; first | refine still_drop (by decide) ?_) | refine W.drawI 5 cok [0, 1, 3, 7, 0, 16, 48, 112, 255, 0, 1023] [0, 1, 2, 3, 4, 5, 6, 7, 8, 9, 10] [3, 7] (by kernel_rfl) (by kernel_rfl) ?_)
    refine CallG.sameL [_] hbl ?_
    repeat (first | (refine still_in ?_; first | refine still_nil ?_ | refine still_drop (by decide) ?_))
    intro x2
    repeat (first | refine SeqS.go cok ?_ | (refine QuG.keep ?_; first | refine QuG.lN cok 0 rfl rfl rfl rfl rfl (by first | exact Nat.le_of_ble_eq_true rfl | omega | (dsimp only; omega) | (simp only [addS_eq, mulS_eq]; omega)) ?_) | (refine still_in ?_; first | refine still_drop (by decide) ?_) | (refine OpG.keep ?_; first | refine OpG.sL cok 0 rfl rfl rfl rfl rfl rfl rfl (by first | exact Nat.le_of_ble_eq_true rfl | omega | (dsimp only; omega) | (simp only [addS_eq, mulS_eq]; omega)) ?_) | refine W.drawI 6 cok [0, 1, 3, 7, 15, 31, 63, 127, 15, 511, 1023] [0, 1, 2, 3, 4, 5, 6, 7, 8, 9, 10] [0, 7, 8] (by kernel_rfl) (by kernel_rfl) ?_)
    refine (hz _).mono ?_
    rintro r _ - ⟨rfl, rfl⟩
    repeat (first | refine SeqS.go cok ?_ | refine GuardS.no rfl ?_ | refine CondS.f rfl ?_ | (refine still_in ?_; first | refine still_drop (by decide) ?_))
    exact Fin.drop (⟨cb, sz, T, c⟩ :: (R ++ G)) [_, _] ⟨rfl, rfl⟩)
/-- mach.Machine.dynamic, SELFDESTRUCT -/
theorem mDy255 {I : Ent → Prop} {R G : List Ent} {cb sz pc gas : Nat} {T : TypeId} {c : Nat → Value} {K : YK} {V : Vl} {s : List Nat} (hsz : 27019 ≤ sz) (hK : MK I cb c K) (hM : MV c pc gas s) (hV : VI I c V G) (hO : VOk V) (hb : (V.acc K.self).bal = 0) (wm : Bool) (hw : (V.acc (adN (argN s 0))).warm = wm) :
    CallG Hvaf.prog 279 #[ptr cb 0, ptr cb 1803, .int .u8 ((255 : Nat) : Int)] ⟨I, ⟨cb, sz, T, c⟩ :: (R ++ G)⟩ fun r S' => ⟨I, ⟨cb, sz, T, c⟩ :: (R ++ G)⟩ = S' ∧ r = .int .u64 ((if wm = true then 0 else 2600 : Nat) : Int) := by
  have hd := mDstCost (R := R) (cb := cb) (T := T) hsz hK hM hV hO hb wm hw
  generalize (if wm = true then 0 else 2600) = q at *
  refine CallG.start (C := mkC Hvaf.prog) cok (args := [ptr cb 0, ptr cb 1803, .int .u8 ((255 : Nat) : Int)]) Hvaf.func279 rfl Hvaf.ntmps279 (by simp) (by kernel_rfl) ?_
  repeat (first | refine SeqS.go cok ?_ | refine CondS.t rfl ?_ | refine CondS.f rfl ?_)
  refine CallG.sameL [] hd ?_
  repeat (first | refine SeqS.go cok ?_)
  exact Fin.same ⟨rfl, rfl⟩
/-- mach.Machine.Pass, CREATE -/
theorem mPsRNc {I : Ent → Prop} {cb sz : Nat} {T : TypeId} {c : Nat → Value} {K : YK} {V : Vl} {pc gas : Nat} {s mem : List Nat} {M G : List Ent} (h : EI I cb sz c K V pc gas s mem M G) (h512 : argN s 2 ≤ 512) (hre : CallG Hvaf.prog 277 #[ptr cb 0, ptr cb 1803, .int .u8 ((240 : Nat) : Int)] ⟨I, ⟨cb, sz, T, c⟩ :: (M ++ G)⟩ fun r S' => ⟨I, ⟨cb, sz, T, c⟩ :: (M ++ G)⟩ = S' ∧ ∃ v, r = .tuple #[v, .bool false]) :
    CallG Hvaf.prog 198 #[ptr cb 0, .int .u8 ((240 : Nat) : Int), .int .u16 ((32000 : Nat) : Int)] ⟨I, ⟨cb, sz, T, c⟩ :: (M ++ G)⟩ (FailP I M cb sz T c V 2) := by
  have hsz' : 2435 ≤ sz := by have := h.eS; omega
  have hrn := mRunning (I := I) (G := M ++ G) (cb := cb) (T := T) hsz' h.eK
  have hst := h.eK.fst
  have hgs := h.eM.fgas
  have hgb := h.eM.gb
  have hfl := fun S => Flat_spec (S := S) (o := 240) (by decide)
  rw [show flatB 240 = false by decide] at hfl
  have ha2 := mArg (I := I) (G := M ++ G) (cb := cb) (T := T) (i := 2) hsz' h.eK.fsb h.eM (by decide)
  have hgt := fun S => UGt_spec (S := S) (a := argN s 2) (b := 512) (argN_lt h.eM.sb) (by decide)
  rw [decide_eq_false (p := 512 < argN s 2) (by omega)] at hgt
  have hfa := h.fail (T := T) (st := 2) (by decide) (by decide)
  unfold FailP at *
  refine CallG.start (C := mkC Hvaf.prog) cok (args := [ptr cb 0, .int .u8 ((240 : Nat) : Int), .int .u16 ((32000 : Nat) : Int)]) Hvaf.func198 rfl Hvaf.ntmps198 (by simp) (by kernel_rfl) ?_
  repeat (first | refine SeqS.go cok ?_)
  refine CallG.sameL [] hrn ?_
  repeat (first | (refine QuG.keep ?_; first | refine QuG.l1E cok 0 rfl rfl rfl rfl rfl (by first | exact Nat.le_of_ble_eq_true rfl | omega | (dsimp only; omega) | (simp only [addS_eq, mulS_eq]; omega)) (by assumption) ?_) | refine SeqS.go cok ?_ | refine GuardS.yes rfl ?_ | refine GuardS.no rfl ?_ | refine CondS.f rfl ?_)
  refine CallG.sameL [] ha2 ?_
  repeat (first | refine GuardS.yes rfl ?_ | refine And.intro (fillOk_of (Eq.refl true)) ?_)
  refine (hgt _).mono ?_
  rintro r _ - ⟨rfl, rfl⟩
  repeat (first | refine SeqS.go cok ?_ | refine GuardS.no rfl ?_ | refine CondS.f rfl ?_)
  refine (hfl _).mono ?_
  rintro r _ - ⟨rfl, rfl⟩
  repeat (first | refine SeqS.go cok ?_ | refine CondS.f rfl ?_)
  refine CallG.behind [] hre ?_
  rintro r J G1 hs ⟨hS, v, rfl⟩
  cases hS
  repeat (first | refine SeqS.go cok ?_ | refine CondS.t rfl ?_)
  refine CallG.behind [] hfa ?_
  rintro r J G1 hs ⟨rfl, c0, G0, hS, g1, g2⟩
  cases hS
  repeat (first | refine SeqS.go cok ?_)
  exact Fin.same ⟨rfl, c0, G0, rfl, g1, g2⟩
/-- mach.Machine.Pass, CREATE -/
theorem mPsONc {I : Ent → Prop} {cb sz : Nat} {T : TypeId} {c : Nat → Value} {K : YK} {V : Vl} {pc gas : Nat} {s mem : List Nat} {M G : List Ent} {wd dy : Nat} (h : EI I cb sz c K V pc gas s mem M G) (h512 : argN s 2 ≤ 512) (hre : CallG Hvaf.prog 277 #[ptr cb 0, ptr cb 1803, .int .u8 ((240 : Nat) : Int)] ⟨I, ⟨cb, sz, T, c⟩ :: (M ++ G)⟩ fun r S' => ⟨I, ⟨cb, sz, T, c⟩ :: (M ++ G)⟩ = S' ∧ r = .tuple #[.int .u64 (wd : Nat), .bool true]) (hwd : wd ≤ 22415) (hdy : CallG Hvaf.prog 279 #[ptr cb 0, ptr cb 1803, .int .u8 ((240 : Nat) : Int)] ⟨I, ⟨cb, sz, T, c⟩ :: (M ++ G)⟩ fun r S' => ⟨I, ⟨cb, sz, T, c⟩ :: (M ++ G)⟩ = S' ∧ r = .int .u64 (dy : Nat)) (hdl : dy < 2 ^ 40) (hgr : wd ≤ mem.length / 32) (hg : gas < 32000 + dy) :
    CallG Hvaf.prog 198 #[ptr cb 0, .int .u8 ((240 : Nat) : Int), .int .u16 ((32000 : Nat) : Int)] ⟨I, ⟨cb, sz, T, c⟩ :: (M ++ G)⟩ (FailP I M cb sz T c V 2) := by
  have hsz' : 2435 ≤ sz := by have := h.eS; omega
  have hrn := mRunning (I := I) (G := M ++ G) (cb := cb) (T := T) hsz' h.eK
  have hst := h.eK.fst
  have hgs := h.eM.fgas
  have hgb := h.eM.gb
  have hfl := fun S => Flat_spec (S := S) (o := 240) (by decide)
  rw [show flatB 240 = false by decide] at hfl
  have ha2 := mArg (I := I) (G := M ++ G) (cb := cb) (T := T) (i := 2) hsz' h.eK.fsb h.eM (by decide)
  have hgt := fun S => UGt_spec (S := S) (a := argN s 2) (b := 512) (argN_lt h.eM.sb) (by decide)
  rw [decide_eq_false (p := 512 < argN s 2) (by omega)] at hgt
  have hlen := h.eA.bf.len
  have hln := mLen (I := I) (G := M ++ G) (cb := cb) (T := T) hsz' h.eA
  have hm1 := fun S => mMemCost (S := S) (w := wd) (by omega)
  have hm2 := fun S => mMemCost (S := S) (w := mem.length / 32) (by omega)
  have hc1 := memC_le hwd
  have hfa := h.fail (T := T) (st := 2) (by decide) (by decide)
  unfold FailP at *
  refine CallG.start (C := mkC Hvaf.prog) cok (args := [ptr cb 0, .int .u8 ((240 : Nat) : Int), .int .u16 ((32000 : Nat) : Int)]) Hvaf.func198 rfl Hvaf.ntmps198 (by simp) (by kernel_rfl) ?_
  repeat (first | refine SeqS.go cok ?_)
  refine CallG.sameL [] hrn ?_
  repeat (first | (refine QuG.keep ?_; first | refine QuG.l1E cok 0 rfl rfl rfl rfl rfl (by first | exact Nat.le_of_ble_eq_true rfl | omega | (dsimp only; omega) | (simp only [addS_eq, mulS_eq]; omega)) (by assumption) ?_) | refine SeqS.go cok ?_ | refine GuardS.yes rfl ?_ | refine GuardS.no rfl ?_ | refine CondS.f rfl ?_)
  refine CallG.sameL [] ha2 ?_
  repeat (first | refine GuardS.yes rfl ?_ | refine And.intro (fillOk_of (Eq.refl true)) ?_)
  refine (hgt _).mono ?_
  rintro r _ - ⟨rfl, rfl⟩
  repeat (first | refine SeqS.go cok ?_ | refine GuardS.no rfl ?_ | refine CondS.f rfl ?_)
  refine (hfl _).mono ?_
  rintro r _ - ⟨rfl, rfl⟩
  repeat (first | refine SeqS.go cok ?_ | refine CondS.f rfl ?_)
  refine CallG.sameL [] hre ?_
  repeat (first | refine SeqS.go cok ?_ | refine CondS.f rfl ?_)
  refine CallG.sameL [] hln ?_
  repeat (first | refine SeqS.go cok ?_ | refine And.intro (by omega) ?_ | (refine ValS.keep ?_; first | (with_reducible refine ValS.kU64 ?_; first | (with_reducible refine ValS.convU64 ?_ ?_ ; omega)) | (with_reducible refine ValS.kU32 ?_; first | (with_reducible refine ValS.quoU32_L ?_ ?_ ; omega))))
  refine CallG.sameL [] hdy ?_
  repeat (first | (refine QuG.keep ?_; first | refine QuG.l1E cok 0 rfl rfl rfl rfl rfl (by first | exact Nat.le_of_ble_eq_true rfl | omega | (dsimp only; omega) | (simp only [addS_eq, mulS_eq]; omega)) (by assumption) ?_) | refine SeqS.go cok ?_ | refine GuardS.no rfl ?_ | refine GuardS.U rfl ?_ | refine CondS.t rfl ?_ | (refine ValS.keep ?_; first | (with_reducible refine ValS.kU64 ?_; first | (with_reducible refine ValS.addU64 ?_ ?_ ; omega))) | (refine GuardS.keep ?_; first | refine GuardS.F1 rfl (by omega) ?_) | (refine CondS.keep ?_; first | refine CondS.d0 rfl (by omega) ?_))
  refine CallG.behind [] hfa ?_
  rintro r J G1 hs ⟨rfl, c0, G0, hS, g1, g2⟩
  cases hS
  repeat (first | refine SeqS.go cok ?_)
  exact Fin.same ⟨rfl, c0, G0, rfl, g1, g2⟩
/-- mach.Machine.Pass, CREATE -/
theorem mPsOGc {I : Ent → Prop} {cb sz : Nat} {T : TypeId} {c : Nat → Value} {K : YK} {V : Vl} {pc gas : Nat} {s mem : List Nat} {M G : List Ent} {wd dy : Nat} (h : EI I cb sz c K V pc gas s mem M G) (h512 : argN s 2 ≤ 512) (hre : CallG Hvaf.prog 277 #[ptr cb 0, ptr cb 1803, .int .u8 ((240 : Nat) : Int)] ⟨I, ⟨cb, sz, T, c⟩ :: (M ++ G)⟩ fun r S' => ⟨I, ⟨cb, sz, T, c⟩ :: (M ++ G)⟩ = S' ∧ r = .tuple #[.int .u64 (wd : Nat), .bool true]) (hwd : wd ≤ 22415) (hdy : CallG Hvaf.prog 279 #[ptr cb 0, ptr cb 1803, .int .u8 ((240 : Nat) : Int)] ⟨I, ⟨cb, sz, T, c⟩ :: (M ++ G)⟩ fun r S' => ⟨I, ⟨cb, sz, T, c⟩ :: (M ++ G)⟩ = S' ∧ r = .int .u64 (dy : Nat)) (hdl : dy < 2 ^ 40) (hgr : mem.length / 32 < wd) (hg : gas < 32000 + dy + (memC wd - memC (mem.length / 32))) :
    CallG Hvaf.prog 198 #[ptr cb 0, .int .u8 ((240 : Nat) : Int), .int .u16 ((32000 : Nat) : Int)] ⟨I, ⟨cb, sz, T, c⟩ :: (M ++ G)⟩ (FailP I M cb sz T c V 2) := by
  have hsz' : 2435 ≤ sz := by have := h.eS; omega
  have hrn := mRunning (I := I) (G := M ++ G) (cb := cb) (T := T) hsz' h.eK
  have hst := h.eK.fst
  have hgs := h.eM.fgas
  have hgb := h.eM.gb
  have hfl := fun S => Flat_spec (S := S) (o := 240) (by decide)
  rw [show flatB 240 = false by decide] at hfl
  have ha2 := mArg (I := I) (G := M ++ G) (cb := cb) (T := T) (i := 2) hsz' h.eK.fsb h.eM (by decide)
  have hgt := fun S => UGt_spec (S := S) (a := argN s 2) (b := 512) (argN_lt h.eM.sb) (by decide)
  rw [decide_eq_false (p := 512 < argN s 2) (by omega)] at hgt
  have hlen := h.eA.bf.len
  have hln := mLen (I := I) (G := M ++ G) (cb := cb) (T := T) hsz' h.eA
  have hm1 := fun S => mMemCost (S := S) (w := wd) (by omega)
  have hm2 := fun S => mMemCost (S := S) (w := mem.length / 32) (by omega)
  have hc1 := memC_le hwd
  have hfa := h.fail (T := T) (st := 2) (by decide) (by decide)
  have hc2 := memC_mono (Nat.le_of_lt hgr)
  generalize memC wd = m1 at *
  generalize memC (mem.length / 32) = m2 at *
  unfold FailP at *
  refine CallG.start (C := mkC Hvaf.prog) cok (args := [ptr cb 0, .int .u8 ((240 : Nat) : Int), .int .u16 ((32000 : Nat) : Int)]) Hvaf.func198 rfl Hvaf.ntmps198 (by simp) (by kernel_rfl) ?_
  repeat (first | refine SeqS.go cok ?_)
  refine CallG.sameL [] hrn ?_
  repeat (first | (refine QuG.keep ?_; first | refine QuG.l1E cok 0 rfl rfl rfl rfl rfl (by first | exact Nat.le_of_ble_eq_true rfl | omega | (dsimp only; omega) | (simp only [addS_eq, mulS_eq]; omega)) (by assumption) ?_) | refine SeqS.go cok ?_ | refine GuardS.yes rfl ?_ | refine GuardS.no rfl ?_ | refine CondS.f rfl ?_)
  refine CallG.sameL [] ha2 ?_
  repeat (first | refine GuardS.yes rfl ?_ | refine And.intro (fillOk_of (Eq.refl true)) ?_)
  refine (hgt _).mono ?_
  rintro r _ - ⟨rfl, rfl⟩
  repeat (first | refine SeqS.go cok ?_ | refine GuardS.no rfl ?_ | refine CondS.f rfl ?_)
  refine (hfl _).mono ?_
  rintro r _ - ⟨rfl, rfl⟩
  repeat (first | refine SeqS.go cok ?_ | refine CondS.f rfl ?_)
  refine CallG.sameL [] hre ?_
  repeat (first | refine SeqS.go cok ?_ | refine CondS.f rfl ?_)
  refine CallG.sameL [] hln ?_
  repeat (first | refine SeqS.go cok ?_ | refine And.intro (by omega) ?_ | (refine ValS.keep ?_; first | (with_reducible refine ValS.kU64 ?_; first | (with_reducible refine ValS.convU64 ?_ ?_ ; omega)) | (with_reducible refine ValS.kU32 ?_; first | (with_reducible refine ValS.quoU32_L ?_ ?_ ; omega))))
  refine CallG.sameL [] hdy ?_
  repeat (first | refine SeqS.go cok ?_ | (refine ValS.keep ?_; first | (with_reducible refine ValS.kU64 ?_; first | (with_reducible refine ValS.addU64 ?_ ?_ ; omega))) | (refine CondS.keep ?_; first | refine CondS.d1 rfl (by omega) ?_))
  refine (hm1 _).mono ?_
  rintro r _ - ⟨rfl, rfl⟩
  skip
  refine (hm2 _).mono ?_
  rintro r _ - ⟨rfl, rfl⟩
  repeat (first | (refine QuG.keep ?_; first | refine QuG.l1E cok 0 rfl rfl rfl rfl rfl (by first | exact Nat.le_of_ble_eq_true rfl | omega | (dsimp only; omega) | (simp only [addS_eq, mulS_eq]; omega)) (by assumption) ?_) | refine SeqS.go cok ?_ | refine GuardS.no rfl ?_ | refine GuardS.U rfl ?_ | refine CondS.t rfl ?_ | (refine ValS.keep ?_; first | (with_reducible refine ValS.kU64 ?_; first | (with_reducible refine ValS.addU64 ?_ ?_ ; omega) | (with_reducible refine ValS.subU64 ?_ ?_ ?_ ; omega; omega))) | (refine GuardS.keep ?_; first | refine GuardS.F1 rfl (by omega) ?_))
  refine CallG.behind [] hfa ?_
  rintro r J G1 hs ⟨rfl, c0, G0, hS, g1, g2⟩
  cases hS
  repeat (first | refine SeqS.go cok ?_)
  exact Fin.same ⟨rfl, c0, G0, rfl, g1, g2⟩
/-- mach.Machine.Pass, CREATE -/
theorem mPsYNc {I : Ent → Prop} {cb sz : Nat} {T : TypeId} {c : Nat → Value} {K : YK} {V : Vl} {pc gas : Nat} {s mem : List Nat} {M G : List Ent} {wd dy : Nat} (h : EI I cb sz c K V pc gas s mem M G) (h512 : argN s 2 ≤ 512) (hre : CallG Hvaf.prog 277 #[ptr cb 0, ptr cb 1803, .int .u8 ((240 : Nat) : Int)] ⟨I, ⟨cb, sz, T, c⟩ :: (M ++ G)⟩ fun r S' => ⟨I, ⟨cb, sz, T, c⟩ :: (M ++ G)⟩ = S' ∧ r = .tuple #[.int .u64 (wd : Nat), .bool true]) (hwd : wd ≤ 22415) (hdy : CallG Hvaf.prog 279 #[ptr cb 0, ptr cb 1803, .int .u8 ((240 : Nat) : Int)] ⟨I, ⟨cb, sz, T, c⟩ :: (M ++ G)⟩ fun r S' => ⟨I, ⟨cb, sz, T, c⟩ :: (M ++ G)⟩ = S' ∧ r = .int .u64 (dy : Nat)) (hdl : dy < 2 ^ 40) (hgr : wd ≤ mem.length / 32) (hg : 32000 + dy ≤ gas) :
    CallG Hvaf.prog 198 #[ptr cb 0, .int .u8 ((240 : Nat) : Int), .int .u16 ((32000 : Nat) : Int)] ⟨I, ⟨cb, sz, T, c⟩ :: (M ++ G)⟩ (PassP I G cb sz T c pc (gas - (32000 + dy)) s mem) := by
  have hsz' : 2435 ≤ sz := by have := h.eS; omega
  have hrn := mRunning (I := I) (G := M ++ G) (cb := cb) (T := T) hsz' h.eK
  have hst := h.eK.fst
  have hgs := h.eM.fgas
  have hgb := h.eM.gb
  have hfl := fun S => Flat_spec (S := S) (o := 240) (by decide)
  rw [show flatB 240 = false by decide] at hfl
  have ha2 := mArg (I := I) (G := M ++ G) (cb := cb) (T := T) (i := 2) hsz' h.eK.fsb h.eM (by decide)
  have hgt := fun S => UGt_spec (S := S) (a := argN s 2) (b := 512) (argN_lt h.eM.sb) (by decide)
  rw [decide_eq_false (p := 512 < argN s 2) (by omega)] at hgt
  have hlen := h.eA.bf.len
  have hln := mLen (I := I) (G := M ++ G) (cb := cb) (T := T) hsz' h.eA
  have hm1 := fun S => mMemCost (S := S) (w := wd) (by omega)
  have hm2 := fun S => mMemCost (S := S) (w := mem.length / 32) (by omega)
  have hc1 := memC_le hwd
  have hM2 := h.eM.setGas (gas' := gas - (32000 + dy)) (by omega)
  have hA2 := h.eA.cong (c' := upd c 1810 (.int .u64 ((gas - (32000 + dy) : Nat) : Int))) (updNe (by decide)) (updNe (by decide)) (updNe (by decide)) (updNe (by decide))
  refine CallG.start (C := mkC Hvaf.prog) cok (args := [ptr cb 0, .int .u8 ((240 : Nat) : Int), .int .u16 ((32000 : Nat) : Int)]) Hvaf.func198 rfl Hvaf.ntmps198 (by simp) (by kernel_rfl) ?_
  repeat (first | refine SeqS.go cok ?_)
  refine CallG.sameL [] hrn ?_
  repeat (first | (refine QuG.keep ?_; first | refine QuG.l1E cok 0 rfl rfl rfl rfl rfl (by first | exact Nat.le_of_ble_eq_true rfl | omega | (dsimp only; omega) | (simp only [addS_eq, mulS_eq]; omega)) (by assumption) ?_) | refine SeqS.go cok ?_ | refine GuardS.yes rfl ?_ | refine GuardS.no rfl ?_ | refine CondS.f rfl ?_)
  refine CallG.sameL [] ha2 ?_
  repeat (first | refine GuardS.yes rfl ?_ | refine And.intro (fillOk_of (Eq.refl true)) ?_)
  refine (hgt _).mono ?_
  rintro r _ - ⟨rfl, rfl⟩
  repeat (first | refine SeqS.go cok ?_ | refine GuardS.no rfl ?_ | refine CondS.f rfl ?_)
  refine (hfl _).mono ?_
  rintro r _ - ⟨rfl, rfl⟩
  repeat (first | refine SeqS.go cok ?_ | refine CondS.f rfl ?_)
  refine CallG.sameL [] hre ?_
  repeat (first | refine SeqS.go cok ?_ | refine CondS.f rfl ?_)
  refine CallG.sameL [] hln ?_
  repeat (first | refine SeqS.go cok ?_ | refine And.intro (by omega) ?_ | (refine ValS.keep ?_; first | (with_reducible refine ValS.kU64 ?_; first | (with_reducible refine ValS.convU64 ?_ ?_ ; omega)) | (with_reducible refine ValS.kU32 ?_; first | (with_reducible refine ValS.quoU32_L ?_ ?_ ; omega))))
  refine CallG.sameL [] hdy ?_
  repeat (first | (refine QuG.keep ?_; first | refine QuG.l1E cok 0 rfl rfl rfl rfl rfl (by first | exact Nat.le_of_ble_eq_true rfl | omega | (dsimp only; omega) | (simp only [addS_eq, mulS_eq]; omega)) (by assumption) ?_) | refine SeqS.go cok ?_ | refine GuardS.yes rfl ?_ | refine GuardS.no rfl ?_ | refine CondS.f rfl ?_ | (refine ValS.keep ?_; first | (with_reducible refine ValS.kU64 ?_; first | (with_reducible refine ValS.addU64 ?_ ?_ ; omega) | (with_reducible refine ValS.subU64 ?_ ?_ ?_ ; omega; omega))) | (refine OpG.keep ?_; first | refine OpG.s1 cok 0 rfl rfl rfl rfl rfl (by first | exact Nat.le_of_ble_eq_true rfl | omega | (dsimp only; omega) | (simp only [addS_eq, mulS_eq]; omega)) rfl rfl ?_) | (refine GuardS.keep ?_; first | refine GuardS.T0 rfl (by omega) ?_ | refine GuardS.F0 rfl (by omega) ?_) | (refine CondS.keep ?_; first | refine CondS.d0 rfl (by omega) ?_))
  exact Fin.same ⟨rfl, _, M, rfl, hA2, hM2, fun k _ _ hk => updNe hk⟩
/-- mach.Machine.Pass, CREATE -/
theorem mPsYGc {I : Ent → Prop} {cb sz : Nat} {T : TypeId} {c : Nat → Value} {K : YK} {V : Vl} {pc gas : Nat} {s mem : List Nat} {M G : List Ent} {wd dy : Nat} (h : EI I cb sz c K V pc gas s mem M G) (h512 : argN s 2 ≤ 512) (hre : CallG Hvaf.prog 277 #[ptr cb 0, ptr cb 1803, .int .u8 ((240 : Nat) : Int)] ⟨I, ⟨cb, sz, T, c⟩ :: (M ++ G)⟩ fun r S' => ⟨I, ⟨cb, sz, T, c⟩ :: (M ++ G)⟩ = S' ∧ r = .tuple #[.int .u64 (wd : Nat), .bool true]) (hwd : wd ≤ 22415) (hdy : CallG Hvaf.prog 279 #[ptr cb 0, ptr cb 1803, .int .u8 ((240 : Nat) : Int)] ⟨I, ⟨cb, sz, T, c⟩ :: (M ++ G)⟩ fun r S' => ⟨I, ⟨cb, sz, T, c⟩ :: (M ++ G)⟩ = S' ∧ r = .int .u64 (dy : Nat)) (hdl : dy < 2 ^ 40) (hgr : mem.length / 32 < wd) (hg : 32000 + dy + (memC wd - memC (mem.length / 32)) ≤ gas) :
    CallG Hvaf.prog 198 #[ptr cb 0, .int .u8 ((240 : Nat) : Int), .int .u16 ((32000 : Nat) : Int)] ⟨I, ⟨cb, sz, T, c⟩ :: (M ++ G)⟩ (PassP I G cb sz T c pc (gas - (32000 + dy + (memC wd - memC (mem.length / 32)))) s (growL mem wd)) := by
  have hsz' : 2435 ≤ sz := by have := h.eS; omega
  have hrn := mRunning (I := I) (G := M ++ G) (cb := cb) (T := T) hsz' h.eK
  have hst := h.eK.fst
  have hgs := h.eM.fgas
  have hgb := h.eM.gb
  have hfl := fun S => Flat_spec (S := S) (o := 240) (by decide)
  rw [show flatB 240 = false by decide] at hfl
  have ha2 := mArg (I := I) (G := M ++ G) (cb := cb) (T := T) (i := 2) hsz' h.eK.fsb h.eM (by decide)
  have hgt := fun S => UGt_spec (S := S) (a := argN s 2) (b := 512) (argN_lt h.eM.sb) (by decide)
  rw [decide_eq_false (p := 512 < argN s 2) (by omega)] at hgt
  have hlen := h.eA.bf.len
  have hln := mLen (I := I) (G := M ++ G) (cb := cb) (T := T) hsz' h.eA
  have hm1 := fun S => mMemCost (S := S) (w := wd) (by omega)
  have hm2 := fun S => mMemCost (S := S) (w := mem.length / 32) (by omega)
  have hc1 := memC_le hwd
  have hc2 := memC_mono (Nat.le_of_lt hgr)
  have hM2 := h.eM.setGas (gas' := gas - (32000 + dy + (memC wd - memC (mem.length / 32)))) (by omega)
  have hA2 := h.eA.cong (c' := upd c 1810 (.int .u64 ((gas - (32000 + dy + (memC wd - memC (mem.length / 32))) : Nat) : Int))) (updNe (by decide)) (updNe (by decide)) (updNe (by decide)) (updNe (by decide))
  have hgrw := mGrowQ (I := I) (G := G) (cb := cb) (T := T) (w := wd) hsz' hA2 (by omega) hwd
  generalize growL mem wd = mem' at *
  generalize memC wd = m1 at *
  generalize memC (mem.length / 32) = m2 at *
  refine CallG.start (C := mkC Hvaf.prog) cok (args := [ptr cb 0, .int .u8 ((240 : Nat) : Int), .int .u16 ((32000 : Nat) : Int)]) Hvaf.func198 rfl Hvaf.ntmps198 (by simp) (by kernel_rfl) ?_
  repeat (first | refine SeqS.go cok ?_)
  refine CallG.sameL [] hrn ?_
  repeat (first | (refine QuG.keep ?_; first | refine QuG.l1E cok 0 rfl rfl rfl rfl rfl (by first | exact Nat.le_of_ble_eq_true rfl | omega | (dsimp only; omega) | (simp only [addS_eq, mulS_eq]; omega)) (by assumption) ?_) | refine SeqS.go cok ?_ | refine GuardS.yes rfl ?_ | refine GuardS.no rfl ?_ | refine CondS.f rfl ?_)
  refine CallG.sameL [] ha2 ?_
  repeat (first | refine GuardS.yes rfl ?_ | refine And.intro (fillOk_of (Eq.refl true)) ?_)
  refine (hgt _).mono ?_
  rintro r _ - ⟨rfl, rfl⟩
  repeat (first | refine SeqS.go cok ?_ | refine GuardS.no rfl ?_ | refine CondS.f rfl ?_)
  refine (hfl _).mono ?_
  rintro r _ - ⟨rfl, rfl⟩
  repeat (first | refine SeqS.go cok ?_ | refine CondS.f rfl ?_)
  refine CallG.sameL [] hre ?_
  repeat (first | refine SeqS.go cok ?_ | refine CondS.f rfl ?_)
  refine CallG.sameL [] hln ?_
  repeat (first | refine SeqS.go cok ?_ | refine And.intro (by omega) ?_ | (refine ValS.keep ?_; first | (with_reducible refine ValS.kU64 ?_; first | (with_reducible refine ValS.convU64 ?_ ?_ ; omega)) | (with_reducible refine ValS.kU32 ?_; first | (with_reducible refine ValS.quoU32_L ?_ ?_ ; omega))))
  refine CallG.sameL [] hdy ?_
  repeat (first | refine SeqS.go cok ?_ | (refine ValS.keep ?_; first | (with_reducible refine ValS.kU64 ?_; first | (with_reducible refine ValS.addU64 ?_ ?_ ; omega))) | (refine CondS.keep ?_; first | refine CondS.d1 rfl (by omega) ?_))
  refine (hm1 _).mono ?_
  rintro r _ - ⟨rfl, rfl⟩
  skip
  refine (hm2 _).mono ?_
  rintro r _ - ⟨rfl, rfl⟩
  repeat (first | (refine QuG.keep ?_; first | refine QuG.l1E cok 0 rfl rfl rfl rfl rfl (by first | exact Nat.le_of_ble_eq_true rfl | omega | (dsimp only; omega) | (simp only [addS_eq, mulS_eq]; omega)) (by assumption) ?_) | refine SeqS.go cok ?_ | refine GuardS.yes rfl ?_ | refine GuardS.no rfl ?_ | refine CondS.f rfl ?_ | (refine ValS.keep ?_; first | (with_reducible refine ValS.kU64 ?_; first | (with_reducible refine ValS.addU64 ?_ ?_ ; omega) | (with_reducible refine ValS.subU64 ?_ ?_ ?_ ; omega; omega)) | (with_reducible refine ValS.kU32 ?_; first | (with_reducible refine ValS.convU32 ?_ ?_ ; omega))) | (refine OpG.keep ?_; first | refine OpG.s1 cok 0 rfl rfl rfl rfl rfl (by first | exact Nat.le_of_ble_eq_true rfl | omega | (dsimp only; omega) | (simp only [addS_eq, mulS_eq]; omega)) rfl rfl ?_) | (refine GuardS.keep ?_; first | refine GuardS.T1 rfl (by omega) ?_ | refine GuardS.F0 rfl (by omega) ?_))
  refine CallG.behind [] hgrw ?_
  rintro r J G1 hs ⟨rfl, c', M', hS, g1, g2⟩
  cases hS
  have hM3 := hM2.congr (c' := c') fun k h1 h2 => g2 k (by omega) (by omega)
  repeat (first | refine SeqS.go cok ?_ | refine GuardS.yes rfl ?_ | refine CondS.f rfl ?_)
  exact Fin.same ⟨rfl, c', M', rfl, g1, hM3, fun k k1 k3 hk => (g2 k k1 k3).trans (updNe hk)⟩
/-- mach.Machine.Pass, CREATE of too much -/
theorem mPsIc {I : Ent → Prop} {cb sz : Nat} {T : TypeId} {c : Nat → Value} {K : YK} {V : Vl} {pc gas : Nat} {s mem : List Nat} {M G : List Ent} (h : EI I cb sz c K V pc gas s mem M G) (h512 : 512 < argN s 2) :
    CallG Hvaf.prog 198 #[ptr cb 0, .int .u8 ((240 : Nat) : Int), .int .u16 ((32000 : Nat) : Int)] ⟨I, ⟨cb, sz, T, c⟩ :: (M ++ G)⟩ (FailP I M cb sz T c V 9) := by
  have hsz' : 2435 ≤ sz := by have := h.eS; omega
  have hrn := mRunning (I := I) (G := M ++ G) (cb := cb) (T := T) hsz' h.eK
  have hst := h.eK.fst
  have hgs := h.eM.fgas
  have hgb := h.eM.gb
  have ha2 := mArg (I := I) (G := M ++ G) (cb := cb) (T := T) (i := 2) hsz' h.eK.fsb h.eM (by decide)
  have hgt := fun S => UGt_spec (S := S) (a := argN s 2) (b := 512) (argN_lt h.eM.sb) (by decide)
  rw [decide_eq_true (p := 512 < argN s 2) (by omega)] at hgt
  have hfa := h.fail (T := T) (st := 9) (by decide) (by decide)
  unfold FailP at *
  refine CallG.start (C := mkC Hvaf.prog) cok (args := [ptr cb 0, .int .u8 ((240 : Nat) : Int), .int .u16 ((32000 : Nat) : Int)]) Hvaf.func198 rfl Hvaf.ntmps198 (by simp) (by kernel_rfl) ?_
  repeat (first | refine SeqS.go cok ?_)
  refine CallG.sameL [] hrn ?_
  repeat (first | (refine QuG.keep ?_; first | refine QuG.l1E cok 0 rfl rfl rfl rfl rfl (by first | exact Nat.le_of_ble_eq_true rfl | omega | (dsimp only; omega) | (simp only [addS_eq, mulS_eq]; omega)) (by assumption) ?_) | refine SeqS.go cok ?_ | refine GuardS.yes rfl ?_ | refine GuardS.no rfl ?_ | refine CondS.f rfl ?_)
  refine CallG.sameL [] ha2 ?_
  repeat (first | refine GuardS.yes rfl ?_ | refine And.intro (fillOk_of (Eq.refl true)) ?_)
  refine (hgt _).mono ?_
  rintro r _ - ⟨rfl, rfl⟩
  repeat (first | refine SeqS.go cok ?_ | refine CondS.t rfl ?_)
  refine CallG.behind [] hfa ?_
  rintro r J G1 hs ⟨rfl, c0, G0, hS, g1, g2⟩
  cases hS
  repeat (first | refine SeqS.go cok ?_)
  exact Fin.same ⟨rfl, c0, G0, rfl, g1, g2⟩
end Go.Proofs.YgvafwGreat
