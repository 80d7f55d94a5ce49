import Derived.Test.YgvafwGreatE38
import Derived.Test.YgvafwGreatE31
set_option exponentiation.threshold 1000
set_option maxRecDepth 100000
set_option maxHeartbeats 4000000
set_option linter.unusedVariables false
set_option linter.unusedSimpArgs false
-- v2
-- v4
-- v5
-- v6
-- v7
namespace Go.Proofs.YgvafwGreat
open Go.HL Go.Proofs
theorem max_int {a b : Nat} : (max (a : Int) (b : Int)) = ((max a b : Nat) : Int) := by omega
/-- mach.reach2, within the bound -/
theorem mReach2Y {S : St} {a b d e : Nat} (ha : a < 115792089237316195423570985008687907853269984665640564039457584007913129639936) (hb : b < 115792089237316195423570985008687907853269984665640564039457584007913129639936) (hd : d < 115792089237316195423570985008687907853269984665640564039457584007913129639936) (he : e < 115792089237316195423570985008687907853269984665640564039457584007913129639936) (h1 : endN a b ≤ 717280) (h2 : endN d e ≤ 717280) : CallG Hvaf.prog 372 #[wordV a, wordV b, wordV d, wordV e] S fun r S' => S = S' ∧ r = .tuple #[.int .u64 (((max (endN a b) (endN d e) + 31) / 32 : Nat) : Int), .bool true] := by
  have r1 := fun S => mReachY (S := S) ha hb h1
  have r2 := fun S => mReachY (S := S) hd he h2
  have hm : (max (endN a b) (endN d e) + 31) / 32 = max ((endN a b + 31) / 32) ((endN d e + 31) / 32) := by omega
  rw [hm]
  generalize (endN a b + 31) / 32 = p at *
  generalize (endN d e + 31) / 32 = q at *
  refine CallG.start (C := mkC Hvaf.prog) cok (args := [wordV a, wordV b, wordV d, wordV e]) Hvaf.func372 rfl Hvaf.ntmps372 (by simp) (by kernel_rfl) ?_
  intro x1 x2 x3 x4
  repeat (first | refine SeqS.go cok ?_ | (refine QuG.keep ?_; first | refine QuG.lN cok 2 rfl rfl rfl rfl rfl (by first | exact Nat.le_of_ble_eq_true rfl | omega | (dsimp only; omega) | (simp only [addS_eq, mulS_eq]; omega)) ?_ | refine QuG.lN cok 3 rfl rfl rfl rfl rfl (by first | exact Nat.le_of_ble_eq_true rfl | omega | (dsimp only; omega) | (simp only [addS_eq, mulS_eq]; omega)) ?_))
  refine (r1 _).mono ?_
  rintro r _ - ⟨rfl, rfl⟩
  repeat (first | refine SeqS.go cok ?_ | (refine QuG.keep ?_; first | refine QuG.lN cok 0 rfl rfl rfl rfl rfl (by first | exact Nat.le_of_ble_eq_true rfl | omega | (dsimp only; omega) | (simp only [addS_eq, mulS_eq]; omega)) ?_ | refine QuG.lN cok 1 rfl rfl rfl rfl rfl (by first | exact Nat.le_of_ble_eq_true rfl | omega | (dsimp only; omega) | (simp only [addS_eq, mulS_eq]; omega)) ?_))
  refine (r2 _).mono ?_
  rintro r _ - ⟨rfl, rfl⟩
  repeat (first | refine SeqS.go cok ?_ | refine GuardS.yes rfl ?_ | (refine ValS.keep ?_; first | (with_reducible refine ValS.kU64 ?_; first | with_reducible refine ValS.maxN ?_)))
  exact Fin.drop S.G [_, _, _, _] ⟨rfl, rfl⟩
/-- mach.reach2, beyond the bound -/
theorem mReach2N {S : St} {a b d e : Nat} (ha : a < 115792089237316195423570985008687907853269984665640564039457584007913129639936) (hb : b < 115792089237316195423570985008687907853269984665640564039457584007913129639936) (hd : d < 115792089237316195423570985008687907853269984665640564039457584007913129639936) (he : e < 115792089237316195423570985008687907853269984665640564039457584007913129639936) (h : 717280 < endN a b ∨ 717280 < endN d e) : CallG Hvaf.prog 372 #[wordV a, wordV b, wordV d, wordV e] S fun r S' => S = S' ∧ ∃ v, r = .tuple #[v, .bool false] := by
  by_cases h1 : 717280 < endN a b
  · have r1 := fun S => mReachN (S := S) ha hb h1
    have r2 : ∃ q p, ∀ S, CallG Hvaf.prog 371 #[wordV d, wordV e] S fun r S' => S = S' ∧ r = .tuple #[.int .u64 (q : Nat), .bool p] := by
      by_cases h2 : 717280 < endN d e
      · exact ⟨0, false, fun S => mReachN hd he h2⟩
      · exact ⟨_, true, fun S => mReachY hd he (by omega)⟩
    obtain ⟨q, p, r2⟩ := r2
    refine CallG.start (C := mkC Hvaf.prog) cok (args := [wordV a, wordV b, wordV d, wordV e]) Hvaf.func372 rfl Hvaf.ntmps372 (by simp) (by kernel_rfl) ?_
    intro x1 x2 x3 x4
    repeat (first | refine SeqS.go cok ?_ | (refine QuG.keep ?_; first | refine QuG.lN cok 2 rfl rfl rfl rfl rfl (by first | exact Nat.le_of_ble_eq_true rfl | omega | (dsimp only; omega) | (simp only [addS_eq, mulS_eq]; omega)) ?_ | refine QuG.lN cok 3 rfl rfl rfl rfl rfl (by first | exact Nat.le_of_ble_eq_true rfl | omega | (dsimp only; omega) | (simp only [addS_eq, mulS_eq]; omega)) ?_))
    refine (r1 _).mono ?_
    rintro r _ - ⟨rfl, rfl⟩
    repeat (first | refine SeqS.go cok ?_ | (refine QuG.keep ?_; first | refine QuG.lN cok 0 rfl rfl rfl rfl rfl (by first | exact Nat.le_of_ble_eq_true rfl | omega | (dsimp only; omega) | (simp only [addS_eq, mulS_eq]; omega)) ?_ | refine QuG.lN cok 1 rfl rfl rfl rfl rfl (by first | exact Nat.le_of_ble_eq_true rfl | omega | (dsimp only; omega) | (simp only [addS_eq, mulS_eq]; omega)) ?_))
    refine (r2 _).mono ?_
    rintro r _ - ⟨rfl, rfl⟩
    repeat (first | refine SeqS.go cok ?_ | refine GuardS.no rfl ?_ | (refine ValS.keep ?_; first | (with_reducible refine ValS.kU64 ?_; first | with_reducible refine ValS.maxN ?_)))
    exact Fin.drop S.G [_, _, _, _] ⟨rfl, _, rfl⟩
  · have r1 := fun S => mReachY (S := S) ha hb (by omega)
    have r2 := fun S => mReachN (S := S) hd he (by omega)
    generalize (endN a b + 31) / 32 = q at *
    refine CallG.start (C := mkC Hvaf.prog) cok (args := [wordV a, wordV b, wordV d, wordV e]) Hvaf.func372 rfl Hvaf.ntmps372 (by simp) (by kernel_rfl) ?_
    intro x1 x2 x3 x4
    repeat (first | refine SeqS.go cok ?_ | (refine QuG.keep ?_; first | refine QuG.lN cok 2 rfl rfl rfl rfl rfl (by first | exact Nat.le_of_ble_eq_true rfl | omega | (dsimp only; omega) | (simp only [addS_eq, mulS_eq]; omega)) ?_ | refine QuG.lN cok 3 rfl rfl rfl rfl rfl (by first | exact Nat.le_of_ble_eq_true rfl | omega | (dsimp only; omega) | (simp only [addS_eq, mulS_eq]; omega)) ?_))
    refine (r1 _).mono ?_
    rintro r _ - ⟨rfl, rfl⟩
    repeat (first | refine SeqS.go cok ?_ | (refine QuG.keep ?_; first | refine QuG.lN cok 0 rfl rfl rfl rfl rfl (by first | exact Nat.le_of_ble_eq_true rfl | omega | (dsimp only; omega) | (simp only [addS_eq, mulS_eq]; omega)) ?_ | refine QuG.lN cok 1 rfl rfl rfl rfl rfl (by first | exact Nat.le_of_ble_eq_true rfl | omega | (dsimp only; omega) | (simp only [addS_eq, mulS_eq]; omega)) ?_))
    refine (r2 _).mono ?_
    rintro r _ - ⟨rfl, rfl⟩
    repeat (first | refine SeqS.go cok ?_ | refine GuardS.yes rfl ?_ | (refine ValS.keep ?_; first | (with_reducible refine ValS.kU64 ?_; first | with_reducible refine ValS.maxN ?_)))
    exact Fin.drop S.G [_, _, _, _] ⟨rfl, _, rfl⟩
/-- mach.Machine.sstore -/
theorem mSstoreM {I : Ent → Prop} {R G : List Ent} {cb sz pc gas : Nat} {T : TypeId} {c : Nat → Value} {K : YK} {V : Vl} {s : List Nat} (hV : VI I c V G) (hO : VOk V) (h0 : V.ix K.self = 0) (h1 : 0 < V.ac.length) (hor : (V.slt (argN s 0)).orig = 0) (hsz : 27019 ≤ sz) (hK : MK I cb c K) (hM : MV c pc gas s) :
    CallG Hvaf.prog 378 #[ptr cb 0, ptr cb 1803] ⟨I, ⟨cb, sz, T, c⟩ :: (R ++ G)⟩ fun r S' => ⟨I, ⟨cb, sz, T, c⟩ :: (R ++ G)⟩ = S' ∧ r = .tuple #[.int .u64 ((sstN 0 (V.slt (argN s 0)).val (argN s 1) (!(V.slt (argN s 0)).warm)).1 : Nat), .int .u64 ((sstN 0 (V.slt (argN s 0)).val (argN s 1) (!(V.slt (argN s 0)).warm)).2.1 : Nat), .int .u64 ((sstN 0 (V.slt (argN s 0)).val (argN s 1) (!(V.slt (argN s 0)).warm)).2.2 : Nat)] := by
  have hsz' : 2435 ≤ sz := by omega
  have hmS := hK.mS
  have hrow := hK.fself
  have hA := hK.kb.kself
  have hwl : (bvs K.self).length = 20 := by rw [bvs_len]; exact hA.len
  have hfit : 1812 + 20 ≤ sz := by omega
  have ha0 := mArg (I := I) (G := R ++ G) (cb := cb) (T := T) (i := 0) hsz' hK.fsb hM (by decide)
  have ha1 := mArg (I := I) (G := R ++ G) (cb := cb) (T := T) (i := 1) hsz' hK.fsb hM (by decide)
  have hb0 : argN s 0 < 115792089237316195423570985008687907853269984665640564039457584007913129639936 := argN_lt hM.sb
  have hb1 : argN s 1 < 115792089237316195423570985008687907853269984665640564039457584007913129639936 := argN_lt hM.sb
  have hpk := vPeek (R := R) (cb := cb) (T := T) hsz hV hO hA h0 h1 hb0
  rw [hor] at hpk
  have hlt : (V.slt (argN s 0)).val < 115792089237316195423570985008687907853269984665640564039457584007913129639936 := Vl.slt_lt hO _
  have hss := fun S => mSstore (S := S) (cold := !(V.slt (argN s 0)).warm) hlt hb1
  generalize sstN 0 (V.slt (argN s 0)).val (argN s 1) (!(V.slt (argN s 0)).warm) = tt at *
  generalize (V.slt (argN s 0)).warm = wm at *
  generalize (V.slt (argN s 0)).val = w at *
  generalize argN s 0 = a0 at *
  generalize argN s 1 = a1 at *
  have hrd2 : ∀ y : Ent, Rd ⟨I, y :: ⟨cb, sz, T, c⟩ :: (R ++ G)⟩ ⟨cb, sz, T, c⟩ := fun y => .inr (List.mem_cons_of_mem _ List.mem_cons_self)
  refine CallG.start (C := mkC Hvaf.prog) cok (args := [ptr cb 0, ptr cb 1803]) Hvaf.func378 rfl Hvaf.ntmps378 (by simp) (by kernel_rfl) ?_
  repeat (first | refine SeqS.go cok ?_)
  refine CallG.sameL [] ha0 ?_
  intro x1
  repeat (first | (refine QuG.keep ?_; refine QuG.rowE cok hrow (hrd2 _) rfl rfl rfl rfl rfl hwl hfit ?_) | (refine QuG.keep ?_; first | refine QuG.l1E cok 1 rfl rfl rfl rfl rfl (by first | exact Nat.le_of_ble_eq_true rfl | omega | (dsimp only; omega) | (simp only [addS_eq, mulS_eq]; omega)) (by assumption) ?_) | refine SeqS.go cok ?_ | (refine QuG.keep ?_; first | refine QuG.lN cok 0 rfl rfl rfl rfl rfl (by first | exact Nat.le_of_ble_eq_true rfl | omega | (dsimp only; omega) | (simp only [addS_eq, mulS_eq]; omega)) ?_) | (refine OpG.keep ?_; first | refine OpG.sL cok 0 rfl rfl rfl rfl rfl rfl rfl (by first | exact Nat.le_of_ble_eq_true rfl | omega | (dsimp only; omega) | (simp only [addS_eq, mulS_eq]; omega)) ?_) | refine W.drawI 2 cok [0, 1, 3, 7, 0, 16, 48, 112, 0, 511, 1023, 2047, 2047, 2047, 0, 0, 53247, 122879, 262143] [0, 1, 2, 3, 4, 5, 6, 7, 8, 9, 10, 11, 12, 13, 14, 15, 16, 17, 18] [3, 7, 8] (by kernel_rfl) (by kernel_rfl) ?_)
  refine CallG.sameL [_] hpk ?_
  repeat (first | (refine still_in ?_; first | refine still_nil ?_ | refine still_drop (by decide) ?_))
  intro x2 x3
  repeat (first | refine SeqS.go cok ?_ | (refine QuG.keep ?_; first | refine QuG.lN cok 0 rfl rfl rfl rfl rfl (by first | exact Nat.le_of_ble_eq_true rfl | omega | (dsimp only; omega) | (simp only [addS_eq, mulS_eq]; omega)) ?_ | refine QuG.lN cok 1 rfl rfl rfl rfl rfl (by first | exact Nat.le_of_ble_eq_true rfl | omega | (dsimp only; omega) | (simp only [addS_eq, mulS_eq]; omega)) ?_) | (refine still_in ?_; first | refine still_nil ?_ | refine still_drop (by decide) ?_) | (refine OpG.keep ?_; first | refine OpG.sL cok 0 rfl rfl rfl rfl rfl rfl rfl (by first | exact Nat.le_of_ble_eq_true rfl | omega | (dsimp only; omega) | (simp only [addS_eq, mulS_eq]; omega)) ?_ | refine OpG.sL cok 1 rfl rfl rfl rfl rfl rfl rfl (by first | exact Nat.le_of_ble_eq_true rfl | omega | (dsimp only; omega) | (simp only [addS_eq, mulS_eq]; omega)) ?_) | refine W.drawI 3 cok [0, 0, 0, 0, 12, 0, 32, 127, 255, 255, 255, 2047, 4095, 8191] [0, 1, 2, 3, 5, 6, 4, 7, 8, 9, 10, 11, 12, 13] [0, 1] (by kernel_rfl) (by kernel_rfl) ?_)
  refine CallG.sameL [_, _, _] ha1 ?_
  repeat (first | (refine still_in ?_; first | refine still_nil ?_ | (refine still_keep (by decide) rfl ?_ ?_; first | exact QuV.lN cok 0 rfl rfl rfl rfl rfl (by first | exact Nat.le_of_ble_eq_true rfl | omega | (dsimp only; omega) | (simp only [addS_eq, mulS_eq]; omega)) rfl | exact QuV.lN cok 1 rfl rfl rfl rfl rfl (by first | exact Nat.le_of_ble_eq_true rfl | omega | (dsimp only; omega) | (simp only [addS_eq, mulS_eq]; omega)) rfl)))
  refine (hss _).mono ?_
  rintro r _ - ⟨rfl, rfl⟩
  repeat (first | refine SeqS.go cok ?_ | (refine still_in ?_; first | refine still_drop (by decide) ?_))
  exact Fin.drop (⟨cb, sz, T, c⟩ :: (R ++ G)) [_, _, _] ⟨rfl, rfl⟩
/-- mach.Machine.access -/
theorem mAccess {I : Ent → Prop} {R G : List Ent} {cb sz n : Nat} {T : TypeId} {c : Nat → Value} {V : Vl} (hsz : 27019 ≤ sz) (hmS : c 0 = ptr cb 2435) (hV : VI I c V G) (hO : VOk V) (hn : n < 115792089237316195423570985008687907853269984665640564039457584007913129639936) :
    CallG Hvaf.prog 377 #[ptr cb 0, wordV n] ⟨I, ⟨cb, sz, T, c⟩ :: (R ++ G)⟩ fun r S' => ⟨I, ⟨cb, sz, T, c⟩ :: (R ++ G)⟩ = S' ∧ r = .int .u64 ((if (V.acc (adN n)).warm = true then 100 else 2600 : Nat) : Int) := by
  have hwa := vIsWarmAcct (R := R) (cb := cb) (T := T) hsz hV hO (adN_ok n)
  have had := fun S => mAddrOf (S := S) hn
  have hal := (adN_ok n).len
  have hab := (adN_ok n).bv
  cases hw : (V.acc (adN n)).warm with
  | true =>
    rw [hw] at hwa
    rw [if_pos rfl]
    refine CallG.start (C := mkC Hvaf.prog) cok (args := [ptr cb 0, wordV n]) Hvaf.func377 rfl Hvaf.ntmps377 (by simp) (by kernel_rfl) ?_
    intro x1
    repeat (first | (refine QuG.keep ?_; first | refine QuG.l1E cok 1 rfl rfl rfl rfl rfl (by first | exact Nat.le_of_ble_eq_true rfl | omega | (dsimp only; omega) | (simp only [addS_eq, mulS_eq]; omega)) (by assumption) ?_) | refine SeqS.go cok ?_ | (refine QuG.keep ?_; first | refine QuG.lN cok 0 rfl rfl rfl rfl rfl (by first | exact Nat.le_of_ble_eq_true rfl | omega | (dsimp only; omega) | (simp only [addS_eq, mulS_eq]; omega)) ?_) | refine W.drawI 1 cok [0, 1, 3, 7, 0, 16, 63] [0, 1, 2, 3, 4, 5, 6] [3, 4] (by kernel_rfl) (by kernel_rfl) ?_)
    refine (had _).mono ?_
    rintro r _ - ⟨rfl, rfl⟩
    repeat (first | (refine still_in ?_; first | refine still_nil ?_ | refine still_drop (by decide) ?_ | (refine still_keep (by decide) rfl ?_ ?_; first | exact QuV.l1 cok 1 rfl rfl rfl rfl rfl (by first | exact Nat.le_of_ble_eq_true rfl | omega | (dsimp only; omega) | (simp only [addS_eq, mulS_eq]; omega)) (by assumption))))
    refine CallG.sameL [_] hwa ?_
    repeat (first | refine SeqS.go cok ?_ | refine CondS.t rfl ?_ | (refine still_in ?_; first | refine still_drop (by decide) ?_))
    exact Fin.drop (⟨cb, sz, T, c⟩ :: (R ++ G)) [_] ⟨rfl, rfl⟩
  | false =>
    rw [hw] at hwa
    rw [if_neg (by decide)]
    refine CallG.start (C := mkC Hvaf.prog) cok (args := [ptr cb 0, wordV n]) Hvaf.func377 rfl Hvaf.ntmps377 (by simp) (by kernel_rfl) ?_
    intro x1
    repeat (first | (refine QuG.keep ?_; first | refine QuG.l1E cok 1 rfl rfl rfl rfl rfl (by first | exact Nat.le_of_ble_eq_true rfl | omega | (dsimp only; omega) | (simp only [addS_eq, mulS_eq]; omega)) (by assumption) ?_) | refine SeqS.go cok ?_ | (refine QuG.keep ?_; first | refine QuG.lN cok 0 rfl rfl rfl rfl rfl (by first | exact Nat.le_of_ble_eq_true rfl | omega | (dsimp only; omega) | (simp only [addS_eq, mulS_eq]; omega)) ?_) | refine W.drawI 1 cok [0, 1, 3, 7, 0, 16, 63] [0, 1, 2, 3, 4, 5, 6] [3, 4] (by kernel_rfl) (by kernel_rfl) ?_)
    refine (had _).mono ?_
    rintro r _ - ⟨rfl, rfl⟩
    repeat (first | (refine still_in ?_; first | refine still_nil ?_ | refine still_drop (by decide) ?_ | (refine still_keep (by decide) rfl ?_ ?_; first | exact QuV.l1 cok 1 rfl rfl rfl rfl rfl (by first | exact Nat.le_of_ble_eq_true rfl | omega | (dsimp only; omega) | (simp only [addS_eq, mulS_eq]; omega)) (by assumption))))
    refine CallG.sameL [_] hwa ?_
    repeat (first | refine SeqS.go cok ?_ | refine CondS.f rfl ?_ | (refine still_in ?_; first | refine still_drop (by decide) ?_))
    exact Fin.drop (⟨cb, sz, T, c⟩ :: (R ++ G)) [_] ⟨rfl, rfl⟩
end Go.Proofs.YgvafwGreat
