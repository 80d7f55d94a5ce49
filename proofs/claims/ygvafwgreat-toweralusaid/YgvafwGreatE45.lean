import Derived.Test.YgvafwGreatE44
import Derived.Test.YgvafwGreatE42
set_option exponentiation.threshold 1000
set_option maxRecDepth 100000
set_option maxHeartbeats 4000000
set_option linter.unusedVariables false
set_option linter.unusedSimpArgs false
-- v2
-- v4
-- v5
-- v6
-- v7
namespace Go.Proofs.YgvafwGreat
open Go.HL Go.Proofs
/-- mach.Machine.Pass, SSTORE with too little gas left -/
theorem mPs85N {I : Ent → Prop} {cb sz : Nat} {T : TypeId} {c : Nat → Value} {K : YK} {V : Vl} {pc gas : Nat} {s mem : List Nat} {M G : List Ent} (h : EI I cb sz c K V pc gas s mem M G) (h0 : V.ix K.self = 0) (h1 : 0 < V.ac.length) (hor : (V.slt (argN s 0)).orig = 0) (hg : (sstN 0 (V.slt (argN s 0)).val (argN s 1) (!(V.slt (argN s 0)).warm)).1 ≤ gas) (hg2 : gas ≤ 2300) :
    CallG Hvaf.prog 198 #[ptr cb 0, .int .u8 ((85 : Nat) : Int), .int .u16 ((0 : Nat) : Int)] ⟨I, ⟨cb, sz, T, c⟩ :: (M ++ G)⟩ (FailP I M cb sz T c V 2) := by
  have hsz' : 2435 ≤ sz := by have := h.eS; omega
  have hrn := mRunning (I := I) (G := M ++ G) (cb := cb) (T := T) hsz' h.eK
  have hst := h.eK.fst
  have hgs := h.eM.fgas
  have hgb := h.eM.gb
  have hfl := fun S => Flat_spec (S := S) (o := 85) (by decide)
  rw [show flatB 85 = false by decide] at hfl
  have hlen := h.eA.bf.len
  have hln := mLen (I := I) (G := M ++ G) (cb := cb) (T := T) hsz' h.eA
  have hre := mRsZ (I := I) (G := M ++ G) (cb := cb) (T := T) (o := 85) hsz' h.eK h.eM (by decide)
  have hdy := mDySst (R := M) (cb := cb) (T := T) (o := 85) h.eS h.eK h.eM h.eV h.eO (by decide) h0 h1 hor
  have hle := sst_le 0 (V.slt (argN s 0)).val (argN s 1) (!(V.slt (argN s 0)).warm)
  have hfa := h.fail (T := T) (st := 2) (by decide) (by decide)
  unfold FailP at *
  generalize (sstN 0 (V.slt (argN s 0)).val (argN s 1) (!(V.slt (argN s 0)).warm)).1 = dy at *
  refine CallG.start (C := mkC Hvaf.prog) cok (args := [ptr cb 0, .int .u8 ((85 : Nat) : Int), .int .u16 ((0 : Nat) : Int)]) Hvaf.func198 rfl Hvaf.ntmps198 (by simp) (by kernel_rfl) ?_
  repeat (first | refine SeqS.go cok ?_)
  refine CallG.sameL [] hrn ?_
  repeat (first | (refine QuG.keep ?_; first | refine QuG.l1E cok 0 rfl rfl rfl rfl rfl (by first | exact Nat.le_of_ble_eq_true rfl | omega | (dsimp only; omega) | (simp only [addS_eq, mulS_eq]; omega)) (by assumption) ?_) | refine SeqS.go cok ?_ | refine GuardS.yes rfl ?_ | refine GuardS.no rfl ?_ | refine CondS.f rfl ?_)
  refine (hfl _).mono ?_
  rintro r _ - ⟨rfl, rfl⟩
  repeat (first | refine SeqS.go cok ?_ | refine CondS.f rfl ?_)
  refine CallG.sameL [] hre ?_
  repeat (first | refine SeqS.go cok ?_ | refine CondS.f rfl ?_)
  refine CallG.sameL [] hln ?_
  repeat (first | refine SeqS.go cok ?_ | refine And.intro (by omega) ?_ | (refine ValS.keep ?_; first | (with_reducible refine ValS.kU64 ?_; first | (with_reducible refine ValS.convU64 ?_ ?_ ; omega)) | (with_reducible refine ValS.kU32 ?_; first | (with_reducible refine ValS.quoU32_L ?_ ?_ ; omega))))
  refine CallG.sameL [] hdy ?_
  repeat (first | (refine QuG.keep ?_; first | refine QuG.l1E cok 0 rfl rfl rfl rfl rfl (by first | exact Nat.le_of_ble_eq_true rfl | omega | (dsimp only; omega) | (simp only [addS_eq, mulS_eq]; omega)) (by assumption) ?_) | refine SeqS.go cok ?_ | refine GuardS.yes rfl ?_ | refine CondS.f rfl ?_ | (refine ValS.keep ?_; first | (with_reducible refine ValS.kU64 ?_; first | (with_reducible refine ValS.addU64 ?_ ?_ ; omega))) | (refine GuardS.keep ?_; first | refine GuardS.F0 rfl (by omega) ?_) | (refine CondS.keep ?_; first | refine CondS.d1 rfl (by omega) ?_))
  refine CallG.behind [] hfa ?_
  rintro r J G1 hs ⟨rfl, c0, G0, hS, g1, g2⟩
  cases hS
  repeat (first | refine SeqS.go cok ?_)
  exact Fin.same ⟨rfl, c0, G0, rfl, g1, g2⟩
/-- mach.Machine.Pass, SSTORE -/
theorem mPs85Y {I : Ent → Prop} {cb sz : Nat} {T : TypeId} {c : Nat → Value} {K : YK} {V : Vl} {pc gas : Nat} {s mem : List Nat} {M G : List Ent} (h : EI I cb sz c K V pc gas s mem M G) (h0 : V.ix K.self = 0) (h1 : 0 < V.ac.length) (hor : (V.slt (argN s 0)).orig = 0) (hg : (sstN 0 (V.slt (argN s 0)).val (argN s 1) (!(V.slt (argN s 0)).warm)).1 ≤ gas) (hg2 : 2300 < gas) :
    CallG Hvaf.prog 198 #[ptr cb 0, .int .u8 ((85 : Nat) : Int), .int .u16 ((0 : Nat) : Int)] ⟨I, ⟨cb, sz, T, c⟩ :: (M ++ G)⟩ (PassP I G cb sz T c pc (gas - (sstN 0 (V.slt (argN s 0)).val (argN s 1) (!(V.slt (argN s 0)).warm)).1) s mem) := by
  have hsz' : 2435 ≤ sz := by have := h.eS; omega
  have hrn := mRunning (I := I) (G := M ++ G) (cb := cb) (T := T) hsz' h.eK
  have hst := h.eK.fst
  have hgs := h.eM.fgas
  have hgb := h.eM.gb
  have hfl := fun S => Flat_spec (S := S) (o := 85) (by decide)
  rw [show flatB 85 = false by decide] at hfl
  have hlen := h.eA.bf.len
  have hln := mLen (I := I) (G := M ++ G) (cb := cb) (T := T) hsz' h.eA
  have hre := mRsZ (I := I) (G := M ++ G) (cb := cb) (T := T) (o := 85) hsz' h.eK h.eM (by decide)
  have hdy := mDySst (R := M) (cb := cb) (T := T) (o := 85) h.eS h.eK h.eM h.eV h.eO (by decide) h0 h1 hor
  have hle := sst_le 0 (V.slt (argN s 0)).val (argN s 1) (!(V.slt (argN s 0)).warm)
  generalize (sstN 0 (V.slt (argN s 0)).val (argN s 1) (!(V.slt (argN s 0)).warm)).1 = dy at *
  have hM2 := h.eM.setGas (gas' := gas - (0 + dy)) (by omega)
  have hA2 := h.eA.cong (c' := upd c 1810 (.int .u64 ((gas - (0 + dy) : Nat) : Int))) (updNe (by decide)) (updNe (by decide)) (updNe (by decide)) (updNe (by decide))
  have hM2 : MV (upd c 1810 (.int .u64 ((gas - (0 + dy) : Nat) : Int))) pc (gas - dy) s := by rw [Nat.zero_add]; exact h.eM.setGas (by omega)
  refine CallG.start (C := mkC Hvaf.prog) cok (args := [ptr cb 0, .int .u8 ((85 : Nat) : Int), .int .u16 ((0 : Nat) : Int)]) Hvaf.func198 rfl Hvaf.ntmps198 (by simp) (by kernel_rfl) ?_
  repeat (first | refine SeqS.go cok ?_)
  refine CallG.sameL [] hrn ?_
  repeat (first | (refine QuG.keep ?_; first | refine QuG.l1E cok 0 rfl rfl rfl rfl rfl (by first | exact Nat.le_of_ble_eq_true rfl | omega | (dsimp only; omega) | (simp only [addS_eq, mulS_eq]; omega)) (by assumption) ?_) | refine SeqS.go cok ?_ | refine GuardS.yes rfl ?_ | refine GuardS.no rfl ?_ | refine CondS.f rfl ?_)
  refine (hfl _).mono ?_
  rintro r _ - ⟨rfl, rfl⟩
  repeat (first | refine SeqS.go cok ?_ | refine CondS.f rfl ?_)
  refine CallG.sameL [] hre ?_
  repeat (first | refine SeqS.go cok ?_ | refine CondS.f rfl ?_)
  refine CallG.sameL [] hln ?_
  repeat (first | refine SeqS.go cok ?_ | refine And.intro (by omega) ?_ | (refine ValS.keep ?_; first | (with_reducible refine ValS.kU64 ?_; first | (with_reducible refine ValS.convU64 ?_ ?_ ; omega)) | (with_reducible refine ValS.kU32 ?_; first | (with_reducible refine ValS.quoU32_L ?_ ?_ ; omega))))
  refine CallG.sameL [] hdy ?_
  repeat (first | (refine QuG.keep ?_; first | refine QuG.l1E cok 0 rfl rfl rfl rfl rfl (by first | exact Nat.le_of_ble_eq_true rfl | omega | (dsimp only; omega) | (simp only [addS_eq, mulS_eq]; omega)) (by assumption) ?_) | refine SeqS.go cok ?_ | refine GuardS.yes rfl ?_ | refine GuardS.no rfl ?_ | refine CondS.f rfl ?_ | (refine ValS.keep ?_; first | (with_reducible refine ValS.kU64 ?_; first | (with_reducible refine ValS.addU64 ?_ ?_ ; omega) | (with_reducible refine ValS.subU64 ?_ ?_ ?_ ; omega; omega))) | (refine OpG.keep ?_; first | refine OpG.s1 cok 0 rfl rfl rfl rfl rfl (by first | exact Nat.le_of_ble_eq_true rfl | omega | (dsimp only; omega) | (simp only [addS_eq, mulS_eq]; omega)) rfl rfl ?_) | (refine GuardS.keep ?_; first | refine GuardS.F0 rfl (by omega) ?_) | (refine CondS.keep ?_; first | refine CondS.d0 rfl (by omega) ?_))
  exact Fin.same ⟨rfl, _, M, rfl, hA2, hM2, fun k _ _ hk => updNe hk⟩
/-- mach.Machine.Pass, 86 Y -/
theorem mPs86Y {I : Ent → Prop} {cb sz : Nat} {T : TypeId} {c : Nat → Value} {K : YK} {V : Vl} {pc gas : Nat} {s mem : List Nat} {M G : List Ent} (h : EI I cb sz c K V pc gas s mem M G) (hcd : K.code.length ≤ 512) (hd : destN K.code (argN s 0) = true) (hg : 8 ≤ gas) :
    CallG Hvaf.prog 198 #[ptr cb 0, .int .u8 ((86 : Nat) : Int), .int .u16 ((8 : Nat) : Int)] ⟨I, ⟨cb, sz, T, c⟩ :: (M ++ G)⟩ (PassP I G cb sz T c pc (gas - 8) s mem) := by
  have hsz' : 2435 ≤ sz := by have := h.eS; omega
  have hrn := mRunning (I := I) (G := M ++ G) (cb := cb) (T := T) hsz' h.eK
  have hst := h.eK.fst
  have hgs := h.eM.fgas
  have hgb := h.eM.gb
  have hfl := fun S => Flat_spec (S := S) (o := 86) (by decide)
  rw [show flatB 86 = false by decide] at hfl
  have hlen := h.eA.bf.len
  have hln := mLen (I := I) (G := M ++ G) (cb := cb) (T := T) hsz' h.eA
  have hre := mRsZ (I := I) (G := M ++ G) (cb := cb) (T := T) (o := 86) hsz' h.eK h.eM (by decide)
  have hdy := mDyZ (R := M) (cb := cb) (T := T) (o := 86) h.eS h.eK h.eM h.eV h.eO (by decide)
  have ha0 := mArg (I := I) (G := M ++ G) (cb := cb) (T := T) (i := 0) hsz' h.eK.fsb h.eM (by decide)
  have ha1 := mArg (I := I) (G := M ++ G) (cb := cb) (T := T) (i := 1) hsz' h.eK.fsb h.eM (by decide)
  have hb0 : argN s 0 < 115792089237316195423570985008687907853269984665640564039457584007913129639936 := argN_lt h.eM.sb
  have hb1 : argN s 1 < 115792089237316195423570985008687907853269984665640564039457584007913129639936 := argN_lt h.eM.sb
  have hgd := mGood (I := I) (G := M ++ G) (cb := cb) (T := T) hsz' h.eK hb0 hcd
  have hz := fun S => UIsZero_spec (S := S) hb1
  rw [hd] at hgd
  have hM2 := h.eM.setGas (gas' := gas - (8)) (by omega)
  have hA2 := h.eA.cong (c' := upd c 1810 (.int .u64 ((gas - (8) : Nat) : Int))) (updNe (by decide)) (updNe (by decide)) (updNe (by decide)) (updNe (by decide))
  generalize argN s 0 = a0 at *
  generalize argN s 1 = a1 at *
  refine CallG.start (C := mkC Hvaf.prog) cok (args := [ptr cb 0, .int .u8 ((86 : Nat) : Int), .int .u16 ((8 : Nat) : Int)]) Hvaf.func198 rfl Hvaf.ntmps198 (by simp) (by kernel_rfl) ?_
  repeat (first | refine SeqS.go cok ?_)
  refine CallG.sameL [] hrn ?_
  repeat (first | (refine QuG.keep ?_; first | refine QuG.l1E cok 0 rfl rfl rfl rfl rfl (by first | exact Nat.le_of_ble_eq_true rfl | omega | (dsimp only; omega) | (simp only [addS_eq, mulS_eq]; omega)) (by assumption) ?_) | refine SeqS.go cok ?_ | refine GuardS.yes rfl ?_ | refine GuardS.no rfl ?_ | refine CondS.f rfl ?_)
  refine (hfl _).mono ?_
  rintro r _ - ⟨rfl, rfl⟩
  repeat (first | refine SeqS.go cok ?_ | refine CondS.f rfl ?_)
  refine CallG.sameL [] hre ?_
  repeat (first | refine SeqS.go cok ?_ | refine CondS.f rfl ?_)
  refine CallG.sameL [] hln ?_
  repeat (first | refine SeqS.go cok ?_ | refine And.intro (by omega) ?_ | (refine ValS.keep ?_; first | (with_reducible refine ValS.kU64 ?_; first | (with_reducible refine ValS.convU64 ?_ ?_ ; omega)) | (with_reducible refine ValS.kU32 ?_; first | (with_reducible refine ValS.quoU32_L ?_ ?_ ; omega))))
  refine CallG.sameL [] hdy ?_
  repeat (first | (refine QuG.keep ?_; first | refine QuG.l1E cok 0 rfl rfl rfl rfl rfl (by first | exact Nat.le_of_ble_eq_true rfl | omega | (dsimp only; omega) | (simp only [addS_eq, mulS_eq]; omega)) (by assumption) ?_) | refine SeqS.go cok ?_ | refine GuardS.yes rfl ?_ | refine GuardS.no rfl ?_ | refine CondS.t rfl ?_ | refine CondS.f rfl ?_ | (refine ValS.keep ?_; first | (with_reducible refine ValS.kU64 ?_; first | (with_reducible refine ValS.addU64 ?_ ?_ ; omega))) | (refine GuardS.keep ?_; first | refine GuardS.F0 rfl (by omega) ?_))
  refine CallG.sameL [] ha1 ?_
  intro x1
  repeat (first | refine SeqS.go cok ?_ | refine GuardS.yes rfl ?_ | refine GuardS.no rfl ?_ | (refine OpG.keep ?_; first | refine OpG.sL cok 0 rfl rfl rfl rfl rfl rfl rfl (by first | exact Nat.le_of_ble_eq_true rfl | omega | (dsimp only; omega) | (simp only [addS_eq, mulS_eq]; omega)) ?_))
  refine CallG.sameL [_] ha0 ?_
  repeat (first | refine GuardS.yes rfl ?_)
  refine CallG.sameL [_] hgd ?_
  repeat (first | (refine QuG.keep ?_; first | refine QuG.l1E cok 1 rfl rfl rfl rfl rfl (by first | exact Nat.le_of_ble_eq_true rfl | omega | (dsimp only; omega) | (simp only [addS_eq, mulS_eq]; omega)) (by assumption) ?_) | refine SeqS.go cok ?_ | refine GuardS.yes rfl ?_ | refine GuardS.no rfl ?_ | refine CondS.f rfl ?_ | (refine ValS.keep ?_; first | (with_reducible refine ValS.kU64 ?_; first | (with_reducible refine ValS.subU64 ?_ ?_ ?_ ; omega; omega))) | (refine OpG.keep ?_; first | refine OpG.s1 cok 1 rfl rfl rfl rfl rfl (by first | exact Nat.le_of_ble_eq_true rfl | omega | (dsimp only; omega) | (simp only [addS_eq, mulS_eq]; omega)) rfl rfl ?_))
  exact Fin.drop (⟨cb, sz, T, upd c 1810 (.int .u64 ((gas - (8) : Nat) : Int))⟩ :: (M ++ G)) [_] ⟨rfl, _, M, rfl, hA2, hM2, fun k _ _ hk => updNe hk⟩
/-- mach.Machine.Pass, 86 N -/
theorem mPs86N {I : Ent → Prop} {cb sz : Nat} {T : TypeId} {c : Nat → Value} {K : YK} {V : Vl} {pc gas : Nat} {s mem : List Nat} {M G : List Ent} (h : EI I cb sz c K V pc gas s mem M G) (hcd : K.code.length ≤ 512) (hd : destN K.code (argN s 0) = false) (hg : 8 ≤ gas) :
    CallG Hvaf.prog 198 #[ptr cb 0, .int .u8 ((86 : Nat) : Int), .int .u16 ((8 : Nat) : Int)] ⟨I, ⟨cb, sz, T, c⟩ :: (M ++ G)⟩ (FailP I M cb sz T c V 6) := by
  have hsz' : 2435 ≤ sz := by have := h.eS; omega
  have hrn := mRunning (I := I) (G := M ++ G) (cb := cb) (T := T) hsz' h.eK
  have hst := h.eK.fst
  have hgs := h.eM.fgas
  have hgb := h.eM.gb
  have hfl := fun S => Flat_spec (S := S) (o := 86) (by decide)
  rw [show flatB 86 = false by decide] at hfl
  have hlen := h.eA.bf.len
  have hln := mLen (I := I) (G := M ++ G) (cb := cb) (T := T) hsz' h.eA
  have hre := mRsZ (I := I) (G := M ++ G) (cb := cb) (T := T) (o := 86) hsz' h.eK h.eM (by decide)
  have hdy := mDyZ (R := M) (cb := cb) (T := T) (o := 86) h.eS h.eK h.eM h.eV h.eO (by decide)
  have ha0 := mArg (I := I) (G := M ++ G) (cb := cb) (T := T) (i := 0) hsz' h.eK.fsb h.eM (by decide)
  have ha1 := mArg (I := I) (G := M ++ G) (cb := cb) (T := T) (i := 1) hsz' h.eK.fsb h.eM (by decide)
  have hb0 : argN s 0 < 115792089237316195423570985008687907853269984665640564039457584007913129639936 := argN_lt h.eM.sb
  have hb1 : argN s 1 < 115792089237316195423570985008687907853269984665640564039457584007913129639936 := argN_lt h.eM.sb
  have hgd := mGood (I := I) (G := M ++ G) (cb := cb) (T := T) hsz' h.eK hb0 hcd
  have hz := fun S => UIsZero_spec (S := S) hb1
  rw [hd] at hgd
  have hfa := h.fail (T := T) (st := 6) (by decide) (by decide)
  unfold FailP at *
  generalize argN s 0 = a0 at *
  generalize argN s 1 = a1 at *
  refine CallG.start (C := mkC Hvaf.prog) cok (args := [ptr cb 0, .int .u8 ((86 : Nat) : Int), .int .u16 ((8 : Nat) : Int)]) Hvaf.func198 rfl Hvaf.ntmps198 (by simp) (by kernel_rfl) ?_
  repeat (first | refine SeqS.go cok ?_)
  refine CallG.sameL [] hrn ?_
  repeat (first | (refine QuG.keep ?_; first | refine QuG.l1E cok 0 rfl rfl rfl rfl rfl (by first | exact Nat.le_of_ble_eq_true rfl | omega | (dsimp only; omega) | (simp only [addS_eq, mulS_eq]; omega)) (by assumption) ?_) | refine SeqS.go cok ?_ | refine GuardS.yes rfl ?_ | refine GuardS.no rfl ?_ | refine CondS.f rfl ?_)
  refine (hfl _).mono ?_
  rintro r _ - ⟨rfl, rfl⟩
  repeat (first | refine SeqS.go cok ?_ | refine CondS.f rfl ?_)
  refine CallG.sameL [] hre ?_
  repeat (first | refine SeqS.go cok ?_ | refine CondS.f rfl ?_)
  refine CallG.sameL [] hln ?_
  repeat (first | refine SeqS.go cok ?_ | refine And.intro (by omega) ?_ | (refine ValS.keep ?_; first | (with_reducible refine ValS.kU64 ?_; first | (with_reducible refine ValS.convU64 ?_ ?_ ; omega)) | (with_reducible refine ValS.kU32 ?_; first | (with_reducible refine ValS.quoU32_L ?_ ?_ ; omega))))
  refine CallG.sameL [] hdy ?_
  repeat (first | (refine QuG.keep ?_; first | refine QuG.l1E cok 0 rfl rfl rfl rfl rfl (by first | exact Nat.le_of_ble_eq_true rfl | omega | (dsimp only; omega) | (simp only [addS_eq, mulS_eq]; omega)) (by assumption) ?_) | refine SeqS.go cok ?_ | refine GuardS.yes rfl ?_ | refine GuardS.no rfl ?_ | refine CondS.t rfl ?_ | refine CondS.f rfl ?_ | (refine ValS.keep ?_; first | (with_reducible refine ValS.kU64 ?_; first | (with_reducible refine ValS.addU64 ?_ ?_ ; omega))) | (refine GuardS.keep ?_; first | refine GuardS.F0 rfl (by omega) ?_))
  refine CallG.sameL [] ha1 ?_
  intro x1
  repeat (first | refine SeqS.go cok ?_ | refine GuardS.yes rfl ?_ | refine GuardS.no rfl ?_ | (refine OpG.keep ?_; first | refine OpG.sL cok 0 rfl rfl rfl rfl rfl rfl rfl (by first | exact Nat.le_of_ble_eq_true rfl | omega | (dsimp only; omega) | (simp only [addS_eq, mulS_eq]; omega)) ?_))
  refine CallG.sameL [_] ha0 ?_
  repeat (first | refine GuardS.yes rfl ?_)
  refine CallG.sameL [_] hgd ?_
  repeat (first | refine SeqS.go cok ?_ | refine GuardS.yes rfl ?_ | refine CondS.t rfl ?_)
  refine CallG.behind [_] hfa ?_
  rintro r J G1 hs ⟨rfl, c0, G0, hS, g1, g2⟩
  cases hS
  repeat (first | refine SeqS.go cok ?_)
  exact Fin.drop (⟨cb, sz, T, endC c0 6 0 (.slice none 0 0)⟩ :: (M ++ G0)) [_] ⟨rfl, c0, G0, rfl, g1, g2⟩
/-- mach.Machine.Pass, 87 Z -/
theorem mPs87Z {I : Ent → Prop} {cb sz : Nat} {T : TypeId} {c : Nat → Value} {K : YK} {V : Vl} {pc gas : Nat} {s mem : List Nat} {M G : List Ent} (h : EI I cb sz c K V pc gas s mem M G) (hcd : K.code.length ≤ 512) (hz0 : argN s 1 = 0) (hg : 10 ≤ gas) :
    CallG Hvaf.prog 198 #[ptr cb 0, .int .u8 ((87 : Nat) : Int), .int .u16 ((10 : Nat) : Int)] ⟨I, ⟨cb, sz, T, c⟩ :: (M ++ G)⟩ (PassP I G cb sz T c pc (gas - 10) s mem) := by
  have hsz' : 2435 ≤ sz := by have := h.eS; omega
  have hrn := mRunning (I := I) (G := M ++ G) (cb := cb) (T := T) hsz' h.eK
  have hst := h.eK.fst
  have hgs := h.eM.fgas
  have hgb := h.eM.gb
  have hfl := fun S => Flat_spec (S := S) (o := 87) (by decide)
  rw [show flatB 87 = false by decide] at hfl
  have hlen := h.eA.bf.len
  have hln := mLen (I := I) (G := M ++ G) (cb := cb) (T := T) hsz' h.eA
  have hre := mRsZ (I := I) (G := M ++ G) (cb := cb) (T := T) (o := 87) hsz' h.eK h.eM (by decide)
  have hdy := mDyZ (R := M) (cb := cb) (T := T) (o := 87) h.eS h.eK h.eM h.eV h.eO (by decide)
  have ha0 := mArg (I := I) (G := M ++ G) (cb := cb) (T := T) (i := 0) hsz' h.eK.fsb h.eM (by decide)
  have ha1 := mArg (I := I) (G := M ++ G) (cb := cb) (T := T) (i := 1) hsz' h.eK.fsb h.eM (by decide)
  have hb0 : argN s 0 < 115792089237316195423570985008687907853269984665640564039457584007913129639936 := argN_lt h.eM.sb
  have hb1 : argN s 1 < 115792089237316195423570985008687907853269984665640564039457584007913129639936 := argN_lt h.eM.sb
  have hgd := mGood (I := I) (G := M ++ G) (cb := cb) (T := T) hsz' h.eK hb0 hcd
  have hz := fun S => UIsZero_spec (S := S) hb1
  rw [decide_eq_true hz0] at hz
  have hM2 := h.eM.setGas (gas' := gas - (10)) (by omega)
  have hA2 := h.eA.cong (c' := upd c 1810 (.int .u64 ((gas - (10) : Nat) : Int))) (updNe (by decide)) (updNe (by decide)) (updNe (by decide)) (updNe (by decide))
  generalize argN s 0 = a0 at *
  generalize argN s 1 = a1 at *
  refine CallG.start (C := mkC Hvaf.prog) cok (args := [ptr cb 0, .int .u8 ((87 : Nat) : Int), .int .u16 ((10 : Nat) : Int)]) Hvaf.func198 rfl Hvaf.ntmps198 (by simp) (by kernel_rfl) ?_
  repeat (first | refine SeqS.go cok ?_)
  refine CallG.sameL [] hrn ?_
  repeat (first | (refine QuG.keep ?_; first | refine QuG.l1E cok 0 rfl rfl rfl rfl rfl (by first | exact Nat.le_of_ble_eq_true rfl | omega | (dsimp only; omega) | (simp only [addS_eq, mulS_eq]; omega)) (by assumption) ?_) | refine SeqS.go cok ?_ | refine GuardS.yes rfl ?_ | refine GuardS.no rfl ?_ | refine CondS.f rfl ?_)
  refine (hfl _).mono ?_
  rintro r _ - ⟨rfl, rfl⟩
  repeat (first | refine SeqS.go cok ?_ | refine CondS.f rfl ?_)
  refine CallG.sameL [] hre ?_
  repeat (first | refine SeqS.go cok ?_ | refine CondS.f rfl ?_)
  refine CallG.sameL [] hln ?_
  repeat (first | refine SeqS.go cok ?_ | refine And.intro (by omega) ?_ | (refine ValS.keep ?_; first | (with_reducible refine ValS.kU64 ?_; first | (with_reducible refine ValS.convU64 ?_ ?_ ; omega)) | (with_reducible refine ValS.kU32 ?_; first | (with_reducible refine ValS.quoU32_L ?_ ?_ ; omega))))
  refine CallG.sameL [] hdy ?_
  repeat (first | (refine QuG.keep ?_; first | refine QuG.l1E cok 0 rfl rfl rfl rfl rfl (by first | exact Nat.le_of_ble_eq_true rfl | omega | (dsimp only; omega) | (simp only [addS_eq, mulS_eq]; omega)) (by assumption) ?_) | refine SeqS.go cok ?_ | refine GuardS.yes rfl ?_ | refine GuardS.no rfl ?_ | refine CondS.t rfl ?_ | refine CondS.f rfl ?_ | (refine ValS.keep ?_; first | (with_reducible refine ValS.kU64 ?_; first | (with_reducible refine ValS.addU64 ?_ ?_ ; omega))) | (refine GuardS.keep ?_; first | refine GuardS.F0 rfl (by omega) ?_))
  refine CallG.sameL [] ha1 ?_
  intro x1
  repeat (first | refine SeqS.go cok ?_ | refine GuardS.yes rfl ?_ | (refine QuG.keep ?_; first | refine QuG.lN cok 0 rfl rfl rfl rfl rfl (by first | exact Nat.le_of_ble_eq_true rfl | omega | (dsimp only; omega) | (simp only [addS_eq, mulS_eq]; omega)) ?_) | (refine OpG.keep ?_; first | refine OpG.sL cok 0 rfl rfl rfl rfl rfl rfl rfl (by first | exact Nat.le_of_ble_eq_true rfl | omega | (dsimp only; omega) | (simp only [addS_eq, mulS_eq]; omega)) ?_))
  refine (hz _).mono ?_
  rintro r _ - ⟨rfl, rfl⟩
  repeat (first | (refine QuG.keep ?_; first | refine QuG.l1E cok 1 rfl rfl rfl rfl rfl (by first | exact Nat.le_of_ble_eq_true rfl | omega | (dsimp only; omega) | (simp only [addS_eq, mulS_eq]; omega)) (by assumption) ?_) | refine SeqS.go cok ?_ | refine GuardS.yes rfl ?_ | refine GuardS.no rfl ?_ | refine CondS.f rfl ?_ | (refine ValS.keep ?_; first | (with_reducible refine ValS.kU64 ?_; first | (with_reducible refine ValS.subU64 ?_ ?_ ?_ ; omega; omega))) | (refine OpG.keep ?_; first | refine OpG.s1 cok 1 rfl rfl rfl rfl rfl (by first | exact Nat.le_of_ble_eq_true rfl | omega | (dsimp only; omega) | (simp only [addS_eq, mulS_eq]; omega)) rfl rfl ?_))
  exact Fin.drop (⟨cb, sz, T, upd c 1810 (.int .u64 ((gas - (10) : Nat) : Int))⟩ :: (M ++ G)) [_] ⟨rfl, _, M, rfl, hA2, hM2, fun k _ _ hk => updNe hk⟩
/-- mach.Machine.Pass, 87 Y -/
theorem mPs87Y {I : Ent → Prop} {cb sz : Nat} {T : TypeId} {c : Nat → Value} {K : YK} {V : Vl} {pc gas : Nat} {s mem : List Nat} {M G : List Ent} (h : EI I cb sz c K V pc gas s mem M G) (hcd : K.code.length ≤ 512) (hz0 : argN s 1 ≠ 0) (hd : destN K.code (argN s 0) = true) (hg : 10 ≤ gas) :
    CallG Hvaf.prog 198 #[ptr cb 0, .int .u8 ((87 : Nat) : Int), .int .u16 ((10 : Nat) : Int)] ⟨I, ⟨cb, sz, T, c⟩ :: (M ++ G)⟩ (PassP I G cb sz T c pc (gas - 10) s mem) := by
  have hsz' : 2435 ≤ sz := by have := h.eS; omega
  have hrn := mRunning (I := I) (G := M ++ G) (cb := cb) (T := T) hsz' h.eK
  have hst := h.eK.fst
  have hgs := h.eM.fgas
  have hgb := h.eM.gb
  have hfl := fun S => Flat_spec (S := S) (o := 87) (by decide)
  rw [show flatB 87 = false by decide] at hfl
  have hlen := h.eA.bf.len
  have hln := mLen (I := I) (G := M ++ G) (cb := cb) (T := T) hsz' h.eA
  have hre := mRsZ (I := I) (G := M ++ G) (cb := cb) (T := T) (o := 87) hsz' h.eK h.eM (by decide)
  have hdy := mDyZ (R := M) (cb := cb) (T := T) (o := 87) h.eS h.eK h.eM h.eV h.eO (by decide)
  have ha0 := mArg (I := I) (G := M ++ G) (cb := cb) (T := T) (i := 0) hsz' h.eK.fsb h.eM (by decide)
  have ha1 := mArg (I := I) (G := M ++ G) (cb := cb) (T := T) (i := 1) hsz' h.eK.fsb h.eM (by decide)
  have hb0 : argN s 0 < 115792089237316195423570985008687907853269984665640564039457584007913129639936 := argN_lt h.eM.sb
  have hb1 : argN s 1 < 115792089237316195423570985008687907853269984665640564039457584007913129639936 := argN_lt h.eM.sb
  have hgd := mGood (I := I) (G := M ++ G) (cb := cb) (T := T) hsz' h.eK hb0 hcd
  have hz := fun S => UIsZero_spec (S := S) hb1
  rw [decide_eq_false hz0] at hz
  rw [hd] at hgd
  have hM2 := h.eM.setGas (gas' := gas - (10)) (by omega)
  have hA2 := h.eA.cong (c' := upd c 1810 (.int .u64 ((gas - (10) : Nat) : Int))) (updNe (by decide)) (updNe (by decide)) (updNe (by decide)) (updNe (by decide))
  generalize argN s 0 = a0 at *
  generalize argN s 1 = a1 at *
  refine CallG.start (C := mkC Hvaf.prog) cok (args := [ptr cb 0, .int .u8 ((87 : Nat) : Int), .int .u16 ((10 : Nat) : Int)]) Hvaf.func198 rfl Hvaf.ntmps198 (by simp) (by kernel_rfl) ?_
  repeat (first | refine SeqS.go cok ?_)
  refine CallG.sameL [] hrn ?_
  repeat (first | (refine QuG.keep ?_; first | refine QuG.l1E cok 0 rfl rfl rfl rfl rfl (by first | exact Nat.le_of_ble_eq_true rfl | omega | (dsimp only; omega) | (simp only [addS_eq, mulS_eq]; omega)) (by assumption) ?_) | refine SeqS.go cok ?_ | refine GuardS.yes rfl ?_ | refine GuardS.no rfl ?_ | refine CondS.f rfl ?_)
  refine (hfl _).mono ?_
  rintro r _ - ⟨rfl, rfl⟩
  repeat (first | refine SeqS.go cok ?_ | refine CondS.f rfl ?_)
  refine CallG.sameL [] hre ?_
  repeat (first | refine SeqS.go cok ?_ | refine CondS.f rfl ?_)
  refine CallG.sameL [] hln ?_
  repeat (first | refine SeqS.go cok ?_ | refine And.intro (by omega) ?_ | (refine ValS.keep ?_; first | (with_reducible refine ValS.kU64 ?_; first | (with_reducible refine ValS.convU64 ?_ ?_ ; omega)) | (with_reducible refine ValS.kU32 ?_; first | (with_reducible refine ValS.quoU32_L ?_ ?_ ; omega))))
  refine CallG.sameL [] hdy ?_
  repeat (first | (refine QuG.keep ?_; first | refine QuG.l1E cok 0 rfl rfl rfl rfl rfl (by first | exact Nat.le_of_ble_eq_true rfl | omega | (dsimp only; omega) | (simp only [addS_eq, mulS_eq]; omega)) (by assumption) ?_) | refine SeqS.go cok ?_ | refine GuardS.yes rfl ?_ | refine GuardS.no rfl ?_ | refine CondS.t rfl ?_ | refine CondS.f rfl ?_ | (refine ValS.keep ?_; first | (with_reducible refine ValS.kU64 ?_; first | (with_reducible refine ValS.addU64 ?_ ?_ ; omega))) | (refine GuardS.keep ?_; first | refine GuardS.F0 rfl (by omega) ?_))
  refine CallG.sameL [] ha1 ?_
  intro x1
  repeat (first | refine SeqS.go cok ?_ | refine GuardS.yes rfl ?_ | (refine QuG.keep ?_; first | refine QuG.lN cok 0 rfl rfl rfl rfl rfl (by first | exact Nat.le_of_ble_eq_true rfl | omega | (dsimp only; omega) | (simp only [addS_eq, mulS_eq]; omega)) ?_) | (refine OpG.keep ?_; first | refine OpG.sL cok 0 rfl rfl rfl rfl rfl rfl rfl (by first | exact Nat.le_of_ble_eq_true rfl | omega | (dsimp only; omega) | (simp only [addS_eq, mulS_eq]; omega)) ?_))
  refine (hz _).mono ?_
  rintro r _ - ⟨rfl, rfl⟩
  repeat (first | refine GuardS.yes rfl ?_)
  refine CallG.sameL [_] ha0 ?_
  repeat (first | refine GuardS.yes rfl ?_)
  refine CallG.sameL [_] hgd ?_
  repeat (first | (refine QuG.keep ?_; first | refine QuG.l1E cok 1 rfl rfl rfl rfl rfl (by first | exact Nat.le_of_ble_eq_true rfl | omega | (dsimp only; omega) | (simp only [addS_eq, mulS_eq]; omega)) (by assumption) ?_) | refine SeqS.go cok ?_ | refine GuardS.yes rfl ?_ | refine GuardS.no rfl ?_ | refine CondS.f rfl ?_ | (refine ValS.keep ?_; first | (with_reducible refine ValS.kU64 ?_; first | (with_reducible refine ValS.subU64 ?_ ?_ ?_ ; omega; omega))) | (refine OpG.keep ?_; first | refine OpG.s1 cok 1 rfl rfl rfl rfl rfl (by first | exact Nat.le_of_ble_eq_true rfl | omega | (dsimp only; omega) | (simp only [addS_eq, mulS_eq]; omega)) rfl rfl ?_))
  exact Fin.drop (⟨cb, sz, T, upd c 1810 (.int .u64 ((gas - (10) : Nat) : Int))⟩ :: (M ++ G)) [_] ⟨rfl, _, M, rfl, hA2, hM2, fun k _ _ hk => updNe hk⟩
/-- mach.Machine.Pass, 87 N -/
theorem mPs87N {I : Ent → Prop} {cb sz : Nat} {T : TypeId} {c : Nat → Value} {K : YK} {V : Vl} {pc gas : Nat} {s mem : List Nat} {M G : List Ent} (h : EI I cb sz c K V pc gas s mem M G) (hcd : K.code.length ≤ 512) (hz0 : argN s 1 ≠ 0) (hd : destN K.code (argN s 0) = false) (hg : 10 ≤ gas) :
    CallG Hvaf.prog 198 #[ptr cb 0, .int .u8 ((87 : Nat) : Int), .int .u16 ((10 : Nat) : Int)] ⟨I, ⟨cb, sz, T, c⟩ :: (M ++ G)⟩ (FailP I M cb sz T c V 6) := by
  have hsz' : 2435 ≤ sz := by have := h.eS; omega
  have hrn := mRunning (I := I) (G := M ++ G) (cb := cb) (T := T) hsz' h.eK
  have hst := h.eK.fst
  have hgs := h.eM.fgas
  have hgb := h.eM.gb
  have hfl := fun S => Flat_spec (S := S) (o := 87) (by decide)
  rw [show flatB 87 = false by decide] at hfl
  have hlen := h.eA.bf.len
  have hln := mLen (I := I) (G := M ++ G) (cb := cb) (T := T) hsz' h.eA
  have hre := mRsZ (I := I) (G := M ++ G) (cb := cb) (T := T) (o := 87) hsz' h.eK h.eM (by decide)
  have hdy := mDyZ (R := M) (cb := cb) (T := T) (o := 87) h.eS h.eK h.eM h.eV h.eO (by decide)
  have ha0 := mArg (I := I) (G := M ++ G) (cb := cb) (T := T) (i := 0) hsz' h.eK.fsb h.eM (by decide)
  have ha1 := mArg (I := I) (G := M ++ G) (cb := cb) (T := T) (i := 1) hsz' h.eK.fsb h.eM (by decide)
  have hb0 : argN s 0 < 115792089237316195423570985008687907853269984665640564039457584007913129639936 := argN_lt h.eM.sb
  have hb1 : argN s 1 < 115792089237316195423570985008687907853269984665640564039457584007913129639936 := argN_lt h.eM.sb
  have hgd := mGood (I := I) (G := M ++ G) (cb := cb) (T := T) hsz' h.eK hb0 hcd
  have hz := fun S => UIsZero_spec (S := S) hb1
  rw [decide_eq_false hz0] at hz
  rw [hd] at hgd
  have hfa := h.fail (T := T) (st := 6) (by decide) (by decide)
  unfold FailP at *
  generalize argN s 0 = a0 at *
  generalize argN s 1 = a1 at *
  refine CallG.start (C := mkC Hvaf.prog) cok (args := [ptr cb 0, .int .u8 ((87 : Nat) : Int), .int .u16 ((10 : Nat) : Int)]) Hvaf.func198 rfl Hvaf.ntmps198 (by simp) (by kernel_rfl) ?_
  repeat (first | refine SeqS.go cok ?_)
  refine CallG.sameL [] hrn ?_
  repeat (first | (refine QuG.keep ?_; first | refine QuG.l1E cok 0 rfl rfl rfl rfl rfl (by first | exact Nat.le_of_ble_eq_true rfl | omega | (dsimp only; omega) | (simp only [addS_eq, mulS_eq]; omega)) (by assumption) ?_) | refine SeqS.go cok ?_ | refine GuardS.yes rfl ?_ | refine GuardS.no rfl ?_ | refine CondS.f rfl ?_)
  refine (hfl _).mono ?_
  rintro r _ - ⟨rfl, rfl⟩
  repeat (first | refine SeqS.go cok ?_ | refine CondS.f rfl ?_)
  refine CallG.sameL [] hre ?_
  repeat (first | refine SeqS.go cok ?_ | refine CondS.f rfl ?_)
  refine CallG.sameL [] hln ?_
  repeat (first | refine SeqS.go cok ?_ | refine And.intro (by omega) ?_ | (refine ValS.keep ?_; first | (with_reducible refine ValS.kU64 ?_; first | (with_reducible refine ValS.convU64 ?_ ?_ ; omega)) | (with_reducible refine ValS.kU32 ?_; first | (with_reducible refine ValS.quoU32_L ?_ ?_ ; omega))))
  refine CallG.sameL [] hdy ?_
  repeat (first | (refine QuG.keep ?_; first | refine QuG.l1E cok 0 rfl rfl rfl rfl rfl (by first | exact Nat.le_of_ble_eq_true rfl | omega | (dsimp only; omega) | (simp only [addS_eq, mulS_eq]; omega)) (by assumption) ?_) | refine SeqS.go cok ?_ | refine GuardS.yes rfl ?_ | refine GuardS.no rfl ?_ | refine CondS.t rfl ?_ | refine CondS.f rfl ?_ | (refine ValS.keep ?_; first | (with_reducible refine ValS.kU64 ?_; first | (with_reducible refine ValS.addU64 ?_ ?_ ; omega))) | (refine GuardS.keep ?_; first | refine GuardS.F0 rfl (by omega) ?_))
  refine CallG.sameL [] ha1 ?_
  intro x1
  repeat (first | refine SeqS.go cok ?_ | refine GuardS.yes rfl ?_ | (refine QuG.keep ?_; first | refine QuG.lN cok 0 rfl rfl rfl rfl rfl (by first | exact Nat.le_of_ble_eq_true rfl | omega | (dsimp only; omega) | (simp only [addS_eq, mulS_eq]; omega)) ?_) | (refine OpG.keep ?_; first | refine OpG.sL cok 0 rfl rfl rfl rfl rfl rfl rfl (by first | exact Nat.le_of_ble_eq_true rfl | omega | (dsimp only; omega) | (simp only [addS_eq, mulS_eq]; omega)) ?_))
  refine (hz _).mono ?_
  rintro r _ - ⟨rfl, rfl⟩
  repeat (first | refine GuardS.yes rfl ?_)
  refine CallG.sameL [_] ha0 ?_
  repeat (first | refine GuardS.yes rfl ?_)
  refine CallG.sameL [_] hgd ?_
  repeat (first | refine SeqS.go cok ?_ | refine GuardS.yes rfl ?_ | refine CondS.t rfl ?_)
  refine CallG.behind [_] hfa ?_
  rintro r J G1 hs ⟨rfl, c0, G0, hS, g1, g2⟩
  cases hS
  repeat (first | refine SeqS.go cok ?_)
  exact Fin.drop (⟨cb, sz, T, endC c0 6 0 (.slice none 0 0)⟩ :: (M ++ G0)) [_] ⟨rfl, c0, G0, rfl, g1, g2⟩
/-- mach.Machine.Pass, 62, past the end -/
theorem mPs62P {I : Ent → Prop} {cb sz : Nat} {T : TypeId} {c : Nat → Value} {K : YK} {V : Vl} {pc gas : Nat} {s mem : List Nat} {M G : List Ent} (h : EI I cb sz c K V pc gas s mem M G) (hp : argN s 1 + argN s 2 ≠ 0) :
    CallG Hvaf.prog 198 #[ptr cb 0, .int .u8 ((62 : Nat) : Int), .int .u16 ((3 : Nat) : Int)] ⟨I, ⟨cb, sz, T, c⟩ :: (M ++ G)⟩ (FailP I M cb sz T c V 8) := by
  have hsz' : 2435 ≤ sz := by have := h.eS; omega
  have hrn := mRunning (I := I) (G := M ++ G) (cb := cb) (T := T) hsz' h.eK
  have hst := h.eK.fst
  have hgs := h.eM.fgas
  have hgb := h.eM.gb
  have hfl := fun S => Flat_spec (S := S) (o := 62) (by decide)
  rw [show flatB 62 = false by decide] at hfl
  have hlen := h.eA.bf.len
  have hln := mLen (I := I) (G := M ++ G) (cb := cb) (T := T) hsz' h.eA
  have ha1 := mArg (I := I) (G := M ++ G) (cb := cb) (T := T) (i := 1) hsz' h.eK.fsb h.eM (by decide)
  have ha2 := mArg (I := I) (G := M ++ G) (cb := cb) (T := T) (i := 2) hsz' h.eK.fsb h.eM (by decide)
  have hb1 : argN s 1 < 115792089237316195423570985008687907853269984665640564039457584007913129639936 := argN_lt h.eM.sb
  have hb2 : argN s 2 < 115792089237316195423570985008687907853269984665640564039457584007913129639936 := argN_lt h.eM.sb
  have hpa := mPast (I := I) (G := M ++ G) (cb := cb) (T := T) hsz' h.eK hb1 hb2
  rw [decide_eq_true hp] at hpa
  have hfa := h.fail (T := T) (st := 8) (by decide) (by decide)
  unfold FailP at *
  generalize argN s 1 = a1 at *
  generalize argN s 2 = a2 at *
  refine CallG.start (C := mkC Hvaf.prog) cok (args := [ptr cb 0, .int .u8 ((62 : Nat) : Int), .int .u16 ((3 : Nat) : Int)]) Hvaf.func198 rfl Hvaf.ntmps198 (by simp) (by kernel_rfl) ?_
  repeat (first | refine SeqS.go cok ?_)
  refine CallG.sameL [] hrn ?_
  repeat (first | (refine QuG.keep ?_; first | refine QuG.l1E cok 0 rfl rfl rfl rfl rfl (by first | exact Nat.le_of_ble_eq_true rfl | omega | (dsimp only; omega) | (simp only [addS_eq, mulS_eq]; omega)) (by assumption) ?_) | refine SeqS.go cok ?_ | refine GuardS.yes rfl ?_ | refine GuardS.no rfl ?_ | refine CondS.f rfl ?_)
  refine CallG.sameL [] ha1 ?_
  repeat (first | refine GuardS.yes rfl ?_)
  refine CallG.sameL [] ha2 ?_
  repeat (first | refine GuardS.yes rfl ?_)
  refine CallG.sameL [] hpa ?_
  repeat (first | refine SeqS.go cok ?_ | refine CondS.t rfl ?_)
  refine CallG.behind [] hfa ?_
  rintro r J G1 hs ⟨rfl, c0, G0, hS, g1, g2⟩
  cases hS
  repeat (first | refine SeqS.go cok ?_)
  exact Fin.same ⟨rfl, c0, G0, rfl, g1, g2⟩
/-- mach.Machine.Pass, 62, Y -/
theorem mPs62Y {I : Ent → Prop} {cb sz : Nat} {T : TypeId} {c : Nat → Value} {K : YK} {V : Vl} {pc gas : Nat} {s mem : List Nat} {M G : List Ent} (h : EI I cb sz c K V pc gas s mem M G) (hp : argN s 1 + argN s 2 = 0) (hg : 3 ≤ gas) :
    CallG Hvaf.prog 198 #[ptr cb 0, .int .u8 ((62 : Nat) : Int), .int .u16 ((3 : Nat) : Int)] ⟨I, ⟨cb, sz, T, c⟩ :: (M ++ G)⟩ (PassP I G cb sz T c pc (gas - 3) s mem) := by
  have hsz' : 2435 ≤ sz := by have := h.eS; omega
  have hrn := mRunning (I := I) (G := M ++ G) (cb := cb) (T := T) hsz' h.eK
  have hst := h.eK.fst
  have hgs := h.eM.fgas
  have hgb := h.eM.gb
  have hfl := fun S => Flat_spec (S := S) (o := 62) (by decide)
  rw [show flatB 62 = false by decide] at hfl
  have hlen := h.eA.bf.len
  have hln := mLen (I := I) (G := M ++ G) (cb := cb) (T := T) hsz' h.eA
  have ha1 := mArg (I := I) (G := M ++ G) (cb := cb) (T := T) (i := 1) hsz' h.eK.fsb h.eM (by decide)
  have ha2 := mArg (I := I) (G := M ++ G) (cb := cb) (T := T) (i := 2) hsz' h.eK.fsb h.eM (by decide)
  have hb1 : argN s 1 < 115792089237316195423570985008687907853269984665640564039457584007913129639936 := argN_lt h.eM.sb
  have hb2 : argN s 2 < 115792089237316195423570985008687907853269984665640564039457584007913129639936 := argN_lt h.eM.sb
  have hpa := mPast (I := I) (G := M ++ G) (cb := cb) (T := T) hsz' h.eK hb1 hb2
  rw [decide_eq_false (by omega : ¬ argN s 1 + argN s 2 ≠ 0)] at hpa
  have hz2 : argN s 2 = 0 := by omega
  have hr0 : reachN s 62 = 0 := by show endN (argN s 0) (argN s 2) = 0; rw [hz2]; rfl
  have hre := mRsBY (I := I) (G := M ++ G) (cb := cb) (T := T) (o := 62) hsz' h.eK h.eM (by decide) (by rw [hr0]; decide)
  rw [hr0] at hre
  have hdy := mDyCpy (R := M) (cb := cb) (T := T) (o := 62) h.eS h.eK h.eM h.eV h.eO (by decide) (by rw [hz2]; decide)
  rw [hz2] at hdy
  have hM2 := h.eM.setGas (gas' := gas - (3)) (by omega)
  have hA2 := h.eA.cong (c' := upd c 1810 (.int .u64 ((gas - (3) : Nat) : Int))) (updNe (by decide)) (updNe (by decide)) (updNe (by decide)) (updNe (by decide))
  generalize argN s 1 = a1 at *
  generalize argN s 2 = a2 at *
  refine CallG.start (C := mkC Hvaf.prog) cok (args := [ptr cb 0, .int .u8 ((62 : Nat) : Int), .int .u16 ((3 : Nat) : Int)]) Hvaf.func198 rfl Hvaf.ntmps198 (by simp) (by kernel_rfl) ?_
  repeat (first | refine SeqS.go cok ?_)
  refine CallG.sameL [] hrn ?_
  repeat (first | (refine QuG.keep ?_; first | refine QuG.l1E cok 0 rfl rfl rfl rfl rfl (by first | exact Nat.le_of_ble_eq_true rfl | omega | (dsimp only; omega) | (simp only [addS_eq, mulS_eq]; omega)) (by assumption) ?_) | refine SeqS.go cok ?_ | refine GuardS.yes rfl ?_ | refine GuardS.no rfl ?_ | refine CondS.f rfl ?_)
  refine CallG.sameL [] ha1 ?_
  repeat (first | refine GuardS.yes rfl ?_)
  refine CallG.sameL [] ha2 ?_
  repeat (first | refine GuardS.yes rfl ?_)
  refine CallG.sameL [] hpa ?_
  repeat (first | refine SeqS.go cok ?_ | refine CondS.f rfl ?_)
  refine (hfl _).mono ?_
  rintro r _ - ⟨rfl, rfl⟩
  repeat (first | refine SeqS.go cok ?_ | refine CondS.f rfl ?_)
  refine CallG.sameL [] hre ?_
  repeat (first | refine SeqS.go cok ?_ | refine CondS.f rfl ?_)
  refine CallG.sameL [] hln ?_
  repeat (first | refine SeqS.go cok ?_ | refine And.intro (by omega) ?_ | (refine ValS.keep ?_; first | (with_reducible refine ValS.kU64 ?_; first | (with_reducible refine ValS.convU64 ?_ ?_ ; omega)) | (with_reducible refine ValS.kU32 ?_; first | (with_reducible refine ValS.quoU32_L ?_ ?_ ; omega))))
  refine CallG.sameL [] hdy ?_
  repeat (first | (refine QuG.keep ?_; first | refine QuG.l1E cok 0 rfl rfl rfl rfl rfl (by first | exact Nat.le_of_ble_eq_true rfl | omega | (dsimp only; omega) | (simp only [addS_eq, mulS_eq]; omega)) (by assumption) ?_) | refine SeqS.go cok ?_ | refine GuardS.yes rfl ?_ | refine GuardS.no rfl ?_ | refine CondS.f rfl ?_ | (refine ValS.keep ?_; first | (with_reducible refine ValS.kU64 ?_; first | (with_reducible refine ValS.addU64 ?_ ?_ ; omega) | (with_reducible refine ValS.subU64 ?_ ?_ ?_ ; omega; omega))) | (refine OpG.keep ?_; first | refine OpG.s1 cok 0 rfl rfl rfl rfl rfl (by first | exact Nat.le_of_ble_eq_true rfl | omega | (dsimp only; omega) | (simp only [addS_eq, mulS_eq]; omega)) rfl rfl ?_) | (refine GuardS.keep ?_; first | refine GuardS.F0 rfl (by omega) ?_))
  exact Fin.same ⟨rfl, _, M, rfl, hA2, hM2, fun k _ _ hk => updNe hk⟩
/-- mach.Machine.Pass, 62, N -/
theorem mPs62N {I : Ent → Prop} {cb sz : Nat} {T : TypeId} {c : Nat → Value} {K : YK} {V : Vl} {pc gas : Nat} {s mem : List Nat} {M G : List Ent} (h : EI I cb sz c K V pc gas s mem M G) (hp : argN s 1 + argN s 2 = 0) (hg : gas < 3) :
    CallG Hvaf.prog 198 #[ptr cb 0, .int .u8 ((62 : Nat) : Int), .int .u16 ((3 : Nat) : Int)] ⟨I, ⟨cb, sz, T, c⟩ :: (M ++ G)⟩ (FailP I M cb sz T c V 2) := by
  have hsz' : 2435 ≤ sz := by have := h.eS; omega
  have hrn := mRunning (I := I) (G := M ++ G) (cb := cb) (T := T) hsz' h.eK
  have hst := h.eK.fst
  have hgs := h.eM.fgas
  have hgb := h.eM.gb
  have hfl := fun S => Flat_spec (S := S) (o := 62) (by decide)
  rw [show flatB 62 = false by decide] at hfl
  have hlen := h.eA.bf.len
  have hln := mLen (I := I) (G := M ++ G) (cb := cb) (T := T) hsz' h.eA
  have ha1 := mArg (I := I) (G := M ++ G) (cb := cb) (T := T) (i := 1) hsz' h.eK.fsb h.eM (by decide)
  have ha2 := mArg (I := I) (G := M ++ G) (cb := cb) (T := T) (i := 2) hsz' h.eK.fsb h.eM (by decide)
  have hb1 : argN s 1 < 115792089237316195423570985008687907853269984665640564039457584007913129639936 := argN_lt h.eM.sb
  have hb2 : argN s 2 < 115792089237316195423570985008687907853269984665640564039457584007913129639936 := argN_lt h.eM.sb
  have hpa := mPast (I := I) (G := M ++ G) (cb := cb) (T := T) hsz' h.eK hb1 hb2
  rw [decide_eq_false (by omega : ¬ argN s 1 + argN s 2 ≠ 0)] at hpa
  have hz2 : argN s 2 = 0 := by omega
  have hr0 : reachN s 62 = 0 := by show endN (argN s 0) (argN s 2) = 0; rw [hz2]; rfl
  have hre := mRsBY (I := I) (G := M ++ G) (cb := cb) (T := T) (o := 62) hsz' h.eK h.eM (by decide) (by rw [hr0]; decide)
  rw [hr0] at hre
  have hdy := mDyCpy (R := M) (cb := cb) (T := T) (o := 62) h.eS h.eK h.eM h.eV h.eO (by decide) (by rw [hz2]; decide)
  rw [hz2] at hdy
  have hfa := h.fail (T := T) (st := 2) (by decide) (by decide)
  unfold FailP at *
  generalize argN s 1 = a1 at *
  generalize argN s 2 = a2 at *
  refine CallG.start (C := mkC Hvaf.prog) cok (args := [ptr cb 0, .int .u8 ((62 : Nat) : Int), .int .u16 ((3 : Nat) : Int)]) Hvaf.func198 rfl Hvaf.ntmps198 (by simp) (by kernel_rfl) ?_
  repeat (first | refine SeqS.go cok ?_)
  refine CallG.sameL [] hrn ?_
  repeat (first | (refine QuG.keep ?_; first | refine QuG.l1E cok 0 rfl rfl rfl rfl rfl (by first | exact Nat.le_of_ble_eq_true rfl | omega | (dsimp only; omega) | (simp only [addS_eq, mulS_eq]; omega)) (by assumption) ?_) | refine SeqS.go cok ?_ | refine GuardS.yes rfl ?_ | refine GuardS.no rfl ?_ | refine CondS.f rfl ?_)
  refine CallG.sameL [] ha1 ?_
  repeat (first | refine GuardS.yes rfl ?_)
  refine CallG.sameL [] ha2 ?_
  repeat (first | refine GuardS.yes rfl ?_)
  refine CallG.sameL [] hpa ?_
  repeat (first | refine SeqS.go cok ?_ | refine CondS.f rfl ?_)
  refine (hfl _).mono ?_
  rintro r _ - ⟨rfl, rfl⟩
  repeat (first | refine SeqS.go cok ?_ | refine CondS.f rfl ?_)
  refine CallG.sameL [] hre ?_
  repeat (first | refine SeqS.go cok ?_ | refine CondS.f rfl ?_)
  refine CallG.sameL [] hln ?_
  repeat (first | refine SeqS.go cok ?_ | refine And.intro (by omega) ?_ | (refine ValS.keep ?_; first | (with_reducible refine ValS.kU64 ?_; first | (with_reducible refine ValS.convU64 ?_ ?_ ; omega)) | (with_reducible refine ValS.kU32 ?_; first | (with_reducible refine ValS.quoU32_L ?_ ?_ ; omega))))
  refine CallG.sameL [] hdy ?_
  repeat (first | (refine QuG.keep ?_; first | refine QuG.l1E cok 0 rfl rfl rfl rfl rfl (by first | exact Nat.le_of_ble_eq_true rfl | omega | (dsimp only; omega) | (simp only [addS_eq, mulS_eq]; omega)) (by assumption) ?_) | refine SeqS.go cok ?_ | refine GuardS.no rfl ?_ | refine GuardS.U rfl ?_ | refine CondS.t rfl ?_ | refine CondS.f rfl ?_ | (refine ValS.keep ?_; first | (with_reducible refine ValS.kU64 ?_; first | (with_reducible refine ValS.addU64 ?_ ?_ ; omega))) | (refine GuardS.keep ?_; first | refine GuardS.F1 rfl (by omega) ?_))
  refine CallG.behind [] hfa ?_
  rintro r J G1 hs ⟨rfl, c0, G0, hS, g1, g2⟩
  cases hS
  repeat (first | refine SeqS.go cok ?_)
  exact Fin.same ⟨rfl, c0, G0, rfl, g1, g2⟩
end Go.Proofs.YgvafwGreat
