import Derived.Test.YgvafwGreatE41
set_option exponentiation.threshold 1000
set_option maxRecDepth 100000
set_option maxHeartbeats 4000000
set_option linter.unusedVariables false
set_option linter.unusedSimpArgs false
-- v2
-- v4
-- v5
-- v6
-- v7
namespace Go.Proofs.YgvafwGreat
open Go.HL Go.Proofs
theorem nb_le {n : Nat} (h : n < 115792089237316195423570985008687907853269984665640564039457584007913129639936) : (blen n + 7) / 8 ≤ 32 := by
  have : blen n ≤ 256 := blen_le h
  omega
/-- mach.Machine.dynamic, [10] -/
theorem mDyExp {I : Ent → Prop} {R G : List Ent} {cb sz pc gas o : Nat} {T : TypeId} {c : Nat → Value} {K : YK} {V : Vl} {s : List Nat} (hsz : 27019 ≤ sz) (hK : MK I cb c K) (hM : MV c pc gas s) (hV : VI I c V G) (hO : VOk V) (ho : o ∈ [10]) :
    CallG Hvaf.prog 279 #[ptr cb 0, ptr cb 1803, .int .u8 (o : Nat)] ⟨I, ⟨cb, sz, T, c⟩ :: (R ++ G)⟩ fun r S' => ⟨I, ⟨cb, sz, T, c⟩ :: (R ++ G)⟩ = S' ∧ r = .int .u64 ((50 * ((blen (argN s 1) + 7) / 8) : Nat) : Int) := by
  have hsz' : 2435 ≤ sz := by omega
  have hmS := hK.mS
  have ha := mArg (I := I) (G := R ++ G) (cb := cb) (T := T) (i := 1) hsz' hK.fsb hM (by decide)
  have hb : argN s 1 < 115792089237316195423570985008687907853269984665640564039457584007913129639936 := argN_lt hM.sb
  have he := fun S => mExpCost (S := S) hb
  have hle : (blen (argN s 1) + 7) / 8 ≤ 32 := nb_le hb
  have e10 : 10 + 50 * ((blen (argN s 1) + 7) / 8) - 10 = 50 * ((blen (argN s 1) + 7) / 8) := by omega
  generalize (blen (argN s 1) + 7) / 8 = q at *
  generalize argN s 1 = a at *
  simp only [List.mem_cons, List.not_mem_nil, or_false] at ho
  subst ho
  all_goals (
    refine CallG.start (C := mkC Hvaf.prog) cok (args := [ptr cb 0, ptr cb 1803, .int .u8 ((_ : Nat) : Int)]) Hvaf.func279 rfl Hvaf.ntmps279 (by simp) (by kernel_rfl) ?_
    repeat (first | refine SeqS.go cok ?_ | refine CondS.t rfl ?_)
    refine CallG.sameL [] ha ?_
    skip
    refine (he _).mono ?_
    rintro r _ - ⟨rfl, rfl⟩
    skip
    repeat (first | refine SeqS.go cok ?_ | (refine ValS.keep ?_; first | (with_reducible refine ValS.kU64 ?_; first | (with_reducible refine ValS.subU64_L ?_ ?_ ?_ ; omega; omega))))
    exact Fin.same ⟨rfl, congrArg (fun k : Nat => Value.int .u64 (k : Int)) e10⟩)
/-- mach.Machine.dynamic, [32] -/
theorem mDyKec {I : Ent → Prop} {R G : List Ent} {cb sz pc gas o : Nat} {T : TypeId} {c : Nat → Value} {K : YK} {V : Vl} {s : List Nat} (hsz : 27019 ≤ sz) (hK : MK I cb c K) (hM : MV c pc gas s) (hV : VI I c V G) (hO : VOk V) (ho : o ∈ [32]) (hn : argN s 1 ≤ 717280) :
    CallG Hvaf.prog 279 #[ptr cb 0, ptr cb 1803, .int .u8 (o : Nat)] ⟨I, ⟨cb, sz, T, c⟩ :: (R ++ G)⟩ fun r S' => ⟨I, ⟨cb, sz, T, c⟩ :: (R ++ G)⟩ = S' ∧ r = .int .u64 ((6 * ((argN s 1 + 31) / 32) : Nat) : Int) := by
  have hsz' : 2435 ≤ sz := by omega
  have hmS := hK.mS
  have ha := mArg (I := I) (G := R ++ G) (cb := cb) (T := T) (i := 1) hsz' hK.fsb hM (by decide)
  have hl := fun S => mLength (S := S) (n := argN s 1) (by omega)
  have hw := fun S => Words_spec (S := S) (n := argN s 1) (by omega)
  have hlt : (argN s 1 + 31) / 32 < 100000 := by omega
  generalize (argN s 1 + 31) / 32 = q at *
  generalize argN s 1 = a at *
  simp only [List.mem_cons, List.not_mem_nil, or_false] at ho
  subst ho
  all_goals (
    refine CallG.start (C := mkC Hvaf.prog) cok (args := [ptr cb 0, ptr cb 1803, .int .u8 ((_ : Nat) : Int)]) Hvaf.func279 rfl Hvaf.ntmps279 (by simp) (by kernel_rfl) ?_
    repeat (first | refine SeqS.go cok ?_ | refine CondS.t rfl ?_ | refine CondS.f rfl ?_)
    refine CallG.sameL [] ha ?_
    skip
    refine (hl _).mono ?_
    rintro r _ - ⟨rfl, rfl⟩
    skip
    refine (hw _).mono ?_
    rintro r _ - ⟨rfl, rfl⟩
    skip
    repeat (first | refine SeqS.go cok ?_ | (refine ValS.keep ?_; first | (with_reducible refine ValS.kU64 ?_; first | (with_reducible refine ValS.mulU64_M ?_ ?_ ; omega))))
    exact Fin.same ⟨rfl, rfl⟩)
/-- mach.Machine.dynamic, [55, 57, 62, 94] -/
theorem mDyCpy {I : Ent → Prop} {R G : List Ent} {cb sz pc gas o : Nat} {T : TypeId} {c : Nat → Value} {K : YK} {V : Vl} {s : List Nat} (hsz : 27019 ≤ sz) (hK : MK I cb c K) (hM : MV c pc gas s) (hV : VI I c V G) (hO : VOk V) (ho : o ∈ [55, 57, 62, 94]) (hn : argN s 2 ≤ 717280) :
    CallG Hvaf.prog 279 #[ptr cb 0, ptr cb 1803, .int .u8 (o : Nat)] ⟨I, ⟨cb, sz, T, c⟩ :: (R ++ G)⟩ fun r S' => ⟨I, ⟨cb, sz, T, c⟩ :: (R ++ G)⟩ = S' ∧ r = .int .u64 ((3 * ((argN s 2 + 31) / 32) : Nat) : Int) := by
  have hsz' : 2435 ≤ sz := by omega
  have hmS := hK.mS
  have ha := mArg (I := I) (G := R ++ G) (cb := cb) (T := T) (i := 2) hsz' hK.fsb hM (by decide)
  have hl := fun S => mLength (S := S) (n := argN s 2) (by omega)
  have hw := fun S => mCopyCost (S := S) (n := argN s 2) (by omega)
  generalize 3 * ((argN s 2 + 31) / 32) = q at *
  generalize argN s 2 = a at *
  simp only [List.mem_cons, List.not_mem_nil, or_false] at ho
  rcases ho with rfl | rfl | rfl | rfl
  all_goals (
    refine CallG.start (C := mkC Hvaf.prog) cok (args := [ptr cb 0, ptr cb 1803, .int .u8 ((_ : Nat) : Int)]) Hvaf.func279 rfl Hvaf.ntmps279 (by simp) (by kernel_rfl) ?_
    repeat (first | refine SeqS.go cok ?_ | refine CondS.t rfl ?_ | refine CondS.f rfl ?_)
    refine CallG.sameL [] ha ?_
    skip
    refine (hl _).mono ?_
    rintro r _ - ⟨rfl, rfl⟩
    skip
    refine (hw _).mono ?_
    rintro r _ - ⟨rfl, rfl⟩
    repeat (first | refine SeqS.go cok ?_)
    skip
    exact Fin.same ⟨rfl, rfl⟩)
/-- mach.Machine.dynamic, [49, 59, 63] -/
theorem mDyAcc {I : Ent → Prop} {R G : List Ent} {cb sz pc gas o : Nat} {T : TypeId} {c : Nat → Value} {K : YK} {V : Vl} {s : List Nat} (hsz : 27019 ≤ sz) (hK : MK I cb c K) (hM : MV c pc gas s) (hV : VI I c V G) (hO : VOk V) (ho : o ∈ [49, 59, 63]) :
    CallG Hvaf.prog 279 #[ptr cb 0, ptr cb 1803, .int .u8 (o : Nat)] ⟨I, ⟨cb, sz, T, c⟩ :: (R ++ G)⟩ fun r S' => ⟨I, ⟨cb, sz, T, c⟩ :: (R ++ G)⟩ = S' ∧ r = .int .u64 ((if (V.acc (adN (argN s 0))).warm = true then 100 else 2600 : Nat) : Int) := by
  have hsz' : 2435 ≤ sz := by omega
  have hmS := hK.mS
  have ha := mArg (I := I) (G := R ++ G) (cb := cb) (T := T) (i := 0) hsz' hK.fsb hM (by decide)
  have hb : argN s 0 < 115792089237316195423570985008687907853269984665640564039457584007913129639936 := argN_lt hM.sb
  have hac := mAccess (R := R) (cb := cb) (T := T) hsz hmS hV hO hb
  generalize (if (V.acc (adN (argN s 0))).warm = true then 100 else 2600) = q at *
  generalize argN s 0 = a at *
  simp only [List.mem_cons, List.not_mem_nil, or_false] at ho
  rcases ho with rfl | rfl | rfl
  all_goals (
    refine CallG.start (C := mkC Hvaf.prog) cok (args := [ptr cb 0, ptr cb 1803, .int .u8 ((_ : Nat) : Int)]) Hvaf.func279 rfl Hvaf.ntmps279 (by simp) (by kernel_rfl) ?_
    repeat (first | refine SeqS.go cok ?_ | refine CondS.t rfl ?_ | refine CondS.f rfl ?_)
    refine CallG.sameL [] ha ?_
    skip
    refine CallG.sameL [] hac ?_
    repeat (first | refine SeqS.go cok ?_)
    skip
    exact Fin.same ⟨rfl, rfl⟩)
/-- mach.Machine.dynamic, [60] -/
theorem mDyExt {I : Ent → Prop} {R G : List Ent} {cb sz pc gas o : Nat} {T : TypeId} {c : Nat → Value} {K : YK} {V : Vl} {s : List Nat} (hsz : 27019 ≤ sz) (hK : MK I cb c K) (hM : MV c pc gas s) (hV : VI I c V G) (hO : VOk V) (ho : o ∈ [60]) (hn : argN s 3 ≤ 717280) :
    CallG Hvaf.prog 279 #[ptr cb 0, ptr cb 1803, .int .u8 (o : Nat)] ⟨I, ⟨cb, sz, T, c⟩ :: (R ++ G)⟩ fun r S' => ⟨I, ⟨cb, sz, T, c⟩ :: (R ++ G)⟩ = S' ∧ r = .int .u64 (((if (V.acc (adN (argN s 0))).warm = true then 100 else 2600) + 3 * ((argN s 3 + 31) / 32) : Nat) : Int) := by
  have hsz' : 2435 ≤ sz := by omega
  have hmS := hK.mS
  have ha := mArg (I := I) (G := R ++ G) (cb := cb) (T := T) (i := 0) hsz' hK.fsb hM (by decide)
  have ha3 := mArg (I := I) (G := R ++ G) (cb := cb) (T := T) (i := 3) hsz' hK.fsb hM (by decide)
  have hb : argN s 0 < 115792089237316195423570985008687907853269984665640564039457584007913129639936 := argN_lt hM.sb
  have hac := mAccess (R := R) (cb := cb) (T := T) hsz hmS hV hO hb
  have hl := fun S => mLength (S := S) (n := argN s 3) (by omega)
  have hw := fun S => mCopyCost (S := S) (n := argN s 3) (by omega)
  have hq1 : (if (V.acc (adN (argN s 0))).warm = true then 100 else 2600) ≤ 2600 := by split <;> omega
  have hq2 : 3 * ((argN s 3 + 31) / 32) ≤ 100000 := by omega
  generalize (if (V.acc (adN (argN s 0))).warm = true then 100 else 2600) = q at *
  generalize 3 * ((argN s 3 + 31) / 32) = q2 at *
  generalize argN s 0 = a at *
  generalize argN s 3 = a3 at *
  simp only [List.mem_cons, List.not_mem_nil, or_false] at ho
  subst ho
  all_goals (
    refine CallG.start (C := mkC Hvaf.prog) cok (args := [ptr cb 0, ptr cb 1803, .int .u8 ((_ : Nat) : Int)]) Hvaf.func279 rfl Hvaf.ntmps279 (by simp) (by kernel_rfl) ?_
    repeat (first | refine SeqS.go cok ?_ | refine CondS.t rfl ?_ | refine CondS.f rfl ?_)
    refine CallG.sameL [] ha ?_
    skip
    refine CallG.sameL [] hac ?_
    skip
    refine CallG.sameL [] ha3 ?_
    skip
    refine (hl _).mono ?_
    rintro r _ - ⟨rfl, rfl⟩
    skip
    refine (hw _).mono ?_
    rintro r _ - ⟨rfl, rfl⟩
    skip
    repeat (first | refine SeqS.go cok ?_ | (refine ValS.keep ?_; first | (with_reducible refine ValS.kU64 ?_; first | (with_reducible refine ValS.addU64 ?_ ?_ ; omega))))
    exact Fin.same ⟨rfl, rfl⟩)
/-- mach.Machine.dynamic, [160, 161, 162, 163, 164] -/
theorem mDyLog {I : Ent → Prop} {R G : List Ent} {cb sz pc gas o : Nat} {T : TypeId} {c : Nat → Value} {K : YK} {V : Vl} {s : List Nat} (hsz : 27019 ≤ sz) (hK : MK I cb c K) (hM : MV c pc gas s) (hV : VI I c V G) (hO : VOk V) (ho : o ∈ [160, 161, 162, 163, 164]) (hn : argN s 1 ≤ 717280) :
    CallG Hvaf.prog 279 #[ptr cb 0, ptr cb 1803, .int .u8 (o : Nat)] ⟨I, ⟨cb, sz, T, c⟩ :: (R ++ G)⟩ fun r S' => ⟨I, ⟨cb, sz, T, c⟩ :: (R ++ G)⟩ = S' ∧ r = .int .u64 ((8 * argN s 1 : Nat) : Int) := by
  have hsz' : 2435 ≤ sz := by omega
  have hmS := hK.mS
  have ha := mArg (I := I) (G := R ++ G) (cb := cb) (T := T) (i := 1) hsz' hK.fsb hM (by decide)
  have hl := fun S => mLength (S := S) (n := argN s 1) (by omega)
  generalize argN s 1 = a at *
  simp only [List.mem_cons, List.not_mem_nil, or_false] at ho
  rcases ho with rfl | rfl | rfl | rfl | rfl
  all_goals (
    refine CallG.start (C := mkC Hvaf.prog) cok (args := [ptr cb 0, ptr cb 1803, .int .u8 ((_ : Nat) : Int)]) Hvaf.func279 rfl Hvaf.ntmps279 (by simp) (by kernel_rfl) ?_
    repeat (first | refine SeqS.go cok ?_ | refine CondS.t rfl ?_ | refine CondS.f rfl ?_)
    refine CallG.sameL [] ha ?_
    skip
    refine (hl _).mono ?_
    rintro r _ - ⟨rfl, rfl⟩
    skip
    repeat (first | refine SeqS.go cok ?_ | (refine ValS.keep ?_; first | (with_reducible refine ValS.kU64 ?_; first | (with_reducible refine ValS.mulU64_M ?_ ?_ ; omega))))
    exact Fin.same ⟨rfl, rfl⟩)
theorem sst_le (o v n : Nat) (cold : Bool) : (sstN o v n cold).1 ≤ 22100 := by
  unfold sstN; dsimp only; repeat' split
  all_goals omega
/-- mach.Machine.dynamic, [84] -/
theorem mDyLd {I : Ent → Prop} {R G : List Ent} {cb sz pc gas o : Nat} {T : TypeId} {c : Nat → Value} {K : YK} {V : Vl} {s : List Nat} (hsz : 27019 ≤ sz) (hK : MK I cb c K) (hM : MV c pc gas s) (hV : VI I c V G) (hO : VOk V) (ho : o ∈ [84]) (h0 : V.ix K.self = 0) (h1 : 0 < V.ac.length) :
    CallG Hvaf.prog 279 #[ptr cb 0, ptr cb 1803, .int .u8 (o : Nat)] ⟨I, ⟨cb, sz, T, c⟩ :: (R ++ G)⟩ fun r S' => ⟨I, ⟨cb, sz, T, c⟩ :: (R ++ G)⟩ = S' ∧ r = .int .u64 ((if (V.slt (argN s 0)).warm = true then 100 else 2100 : Nat) : Int) := by
  have hsz' : 2435 ≤ sz := by omega
  have hmS := hK.mS
  have ha := mArg (I := I) (G := R ++ G) (cb := cb) (T := T) (i := 0) hsz' hK.fsb hM (by decide)
  have hb : argN s 0 < 115792089237316195423570985008687907853269984665640564039457584007913129639936 := argN_lt hM.sb
  have hrow := hK.fself
  have hA := hK.kb.kself
  have hwl : (bvs K.self).length = 20 := by rw [bvs_len]; exact hA.len
  have hfit : 1812 + 20 ≤ sz := by omega
  have hrd1 : Rd ⟨I, ⟨cb, sz, T, c⟩ :: (R ++ G)⟩ ⟨cb, sz, T, c⟩ := .inr List.mem_cons_self
  have hws := vIsWarmSlot (R := R) (cb := cb) (T := T) hsz hV hO hA h0 h1 hb
  generalize (V.slt (argN s 0)).warm = wm at *
  generalize argN s 0 = a at *
  simp only [List.mem_cons, List.not_mem_nil, or_false] at ho
  subst ho
  cases wm
  all_goals (
    refine CallG.start (C := mkC Hvaf.prog) cok (args := [ptr cb 0, ptr cb 1803, .int .u8 ((_ : Nat) : Int)]) Hvaf.func279 rfl Hvaf.ntmps279 (by simp) (by kernel_rfl) ?_
    repeat (first | (refine QuG.keep ?_; refine QuG.rowE cok hrow hrd1 rfl rfl rfl rfl rfl hwl hfit ?_) | (refine QuG.keep ?_; first | refine QuG.l1E cok 0 rfl rfl rfl rfl rfl (by first | exact Nat.le_of_ble_eq_true rfl | omega | (dsimp only; omega) | (simp only [addS_eq, mulS_eq]; omega)) (by assumption) ?_) | refine SeqS.go cok ?_ | refine CondS.t rfl ?_ | refine CondS.f rfl ?_ | refine W.drawI 24 cok [0, 1, 3, 7, 0, 16, 48, 112, 0, 0, 768, 2047] [0, 1, 2, 3, 4, 5, 6, 7, 8, 9, 10, 11] [3, 7] (by kernel_rfl) (by kernel_rfl) ?_)
    refine CallG.sameL [] ha ?_
    repeat (first | (refine still_in ?_; first | refine still_nil ?_ | (refine still_keep (by decide) rfl ?_ ?_; first | exact QuV.l1 cok 0 rfl rfl rfl rfl rfl (by first | exact Nat.le_of_ble_eq_true rfl | omega | (dsimp only; omega) | (simp only [addS_eq, mulS_eq]; omega)) (by assumption) | exact QuV.of (QuG.rowA cok 0 rfl rfl rfl rfl rfl (by assumption) (by assumption) (by first | exact Nat.le_of_ble_eq_true rfl | omega | (dsimp only; omega)) rfl))))
    refine CallG.sameL [] hws ?_
    repeat (first | refine SeqS.go cok ?_ | refine CondS.t rfl ?_ | refine CondS.f rfl ?_ | (refine still_in ?_; first | refine still_drop (by decide) ?_))
    exact Fin.same ⟨rfl, rfl⟩)
/-- mach.Machine.dynamic, [85] -/
theorem mDySst {I : Ent → Prop} {R G : List Ent} {cb sz pc gas o : Nat} {T : TypeId} {c : Nat → Value} {K : YK} {V : Vl} {s : List Nat} (hsz : 27019 ≤ sz) (hK : MK I cb c K) (hM : MV c pc gas s) (hV : VI I c V G) (hO : VOk V) (ho : o ∈ [85]) (h0 : V.ix K.self = 0) (h1 : 0 < V.ac.length) (hor : (V.slt (argN s 0)).orig = 0) :
    CallG Hvaf.prog 279 #[ptr cb 0, ptr cb 1803, .int .u8 (o : Nat)] ⟨I, ⟨cb, sz, T, c⟩ :: (R ++ G)⟩ fun r S' => ⟨I, ⟨cb, sz, T, c⟩ :: (R ++ G)⟩ = S' ∧ r = .int .u64 (((sstN 0 (V.slt (argN s 0)).val (argN s 1) (!(V.slt (argN s 0)).warm)).1 : Nat) : Int) := by
  have hsz' : 2435 ≤ sz := by omega
  have hmS := hK.mS
  have hst := mSstoreM (R := R) (cb := cb) (T := T) hV hO h0 h1 hor hsz hK hM
  generalize sstN 0 (V.slt (argN s 0)).val (argN s 1) (!(V.slt (argN s 0)).warm) = q at *
  simp only [List.mem_cons, List.not_mem_nil, or_false] at ho
  subst ho
  all_goals (
    refine CallG.start (C := mkC Hvaf.prog) cok (args := [ptr cb 0, ptr cb 1803, .int .u8 ((_ : Nat) : Int)]) Hvaf.func279 rfl Hvaf.ntmps279 (by simp) (by kernel_rfl) ?_
    repeat (first | refine SeqS.go cok ?_ | refine CondS.t rfl ?_ | refine CondS.f rfl ?_)
    refine CallG.sameL [] hst ?_
    repeat (first | refine SeqS.go cok ?_)
    skip
    exact Fin.same ⟨rfl, rfl⟩)
/-- mach.Machine.dynamic, [48, 50, 51, 52, 53, 54, 56, 58, 61, 64, 65, 66, 67, 68, 69, 70, 71, 72, 80, 81, 82, 83, 86, 87, 92, 93, 243, 253] -/
theorem mDyZ {I : Ent → Prop} {R G : List Ent} {cb sz pc gas o : Nat} {T : TypeId} {c : Nat → Value} {K : YK} {V : Vl} {s : List Nat} (hsz : 27019 ≤ sz) (hK : MK I cb c K) (hM : MV c pc gas s) (hV : VI I c V G) (hO : VOk V) (ho : o ∈ [48, 50, 51, 52, 53, 54, 56, 58, 61, 64, 65, 66, 67, 68, 69, 70, 71, 72, 80, 81, 82, 83, 86, 87, 92, 93, 243, 253]) :
    CallG Hvaf.prog 279 #[ptr cb 0, ptr cb 1803, .int .u8 (o : Nat)] ⟨I, ⟨cb, sz, T, c⟩ :: (R ++ G)⟩ fun r S' => ⟨I, ⟨cb, sz, T, c⟩ :: (R ++ G)⟩ = S' ∧ r = .int .u64 ((0 : Nat) : Int) := by
  have hsz' : 2435 ≤ sz := by omega
  have hmS := hK.mS
  simp only [List.mem_cons, List.not_mem_nil, or_false] at ho
  rcases ho with rfl | rfl | rfl | rfl | rfl | rfl | rfl | rfl | rfl | rfl | rfl | rfl | rfl | rfl | rfl | rfl | rfl | rfl | rfl | rfl | rfl | rfl | rfl | rfl | rfl | rfl | rfl | rfl
  all_goals (
    refine CallG.start (C := mkC Hvaf.prog) cok (args := [ptr cb 0, ptr cb 1803, .int .u8 ((_ : Nat) : Int)]) Hvaf.func279 rfl Hvaf.ntmps279 (by simp) (by kernel_rfl) ?_
    repeat (first | refine SeqS.go cok ?_ | refine CondS.f rfl ?_)
    exact Fin.same ⟨rfl, rfl⟩)
end Go.Proofs.YgvafwGreat
