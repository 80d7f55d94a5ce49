import Derived.Test.YgvafwGreatE33
import Derived.Test.YgvafwGreatE34
import Derived.Test.YgvafwGreatV19
import Derived.Test.YgvafwGreatM1
set_option exponentiation.threshold 1000
set_option maxRecDepth 100000
set_option maxHeartbeats 4000000
set_option linter.unusedVariables false
set_option linter.unusedSimpArgs false
-- v2
-- v4
-- v5
-- v6
-- v7
namespace Go.Proofs.YgvafwGreat
open Go.HL Go.Proofs
/-- mem.Arena.Leave -/
theorem mLeave {I : Ent → Prop} {G : List Ent} {cb sz : Nat} {T : TypeId} {c : Nat → Value} (hsz : 2435 ≤ sz) (h10 : c 10 = .int .u8 ((1 : Nat) : Int)) :
    CallG Hvaf.prog 266 #[ptr cb 1] ⟨I, ⟨cb, sz, T, c⟩ :: G⟩ fun r S' => S' = ⟨I, ⟨cb, sz, T, upd c 10 (.int .u8 ((0 : Nat) : Int))⟩ :: G⟩ ∧ r = .bool true := by
  refine CallG.start (C := mkC Hvaf.prog) cok (args := [ptr cb 1]) Hvaf.func266 rfl Hvaf.ntmps266 (by simp) (by kernel_rfl) ?_
  repeat (first | (refine QuG.keep ?_; first | refine QuG.l1E cok 0 rfl rfl rfl rfl rfl (by first | exact Nat.le_of_ble_eq_true rfl | omega | (dsimp only; omega) | (simp only [addS_eq, mulS_eq]; omega)) (by assumption) ?_) | refine SeqS.go cok ?_ | refine CondS.f rfl ?_ | (refine ValS.keep ?_; first | (with_reducible refine ValS.kU8 ?_; first | (with_reducible refine ValS.subU8_L ?_ ?_ ?_ ; omega; omega))) | (refine OpG.keep ?_; first | refine OpG.s1 cok 0 rfl rfl rfl rfl rfl (by first | exact Nat.le_of_ble_eq_true rfl | omega | (dsimp only; omega) | (simp only [addS_eq, mulS_eq]; omega)) rfl rfl ?_))
  exact Fin.same ⟨rfl, rfl⟩
/-- The machine's cells once the frame has ended. -/
structure MD (c c' : Nat → Value) (st gas : Nat) (rv : Value) : Prop where
  ph : c' 2404 = .int .u8 ((2 : Nat) : Int)
  st : c' 2405 = .int .u8 (st : Nat)
  tp : c' 2258 = .int .i8 (-1)
  gs : c' 1810 = .int .u64 (gas : Nat)
  rt : c' 2259 = rv
  ar : c' 10 = .int .u8 ((0 : Nat) : Int)
  oth : ∀ k, k < 2435 → k ≠ 10 → k ≠ 1810 → k ≠ 2258 → k ≠ 2259 → k ≠ 2404 → k ≠ 2405 → c' k = c k
def endC (c : Nat → Value) (st gas : Nat) (rv : Value) : Nat → Value := upd (upd (upd (upd (upd (upd c 10 (.int .u8 ((0 : Nat) : Int))) 2259 rv) 2258 (.int .i8 (-1))) 2404 (.int .u8 ((2 : Nat) : Int))) 2405 (.int .u8 (st : Nat))) 1810 (.int .u64 (gas : Nat))
theorem endC_MD {c c0 : Nat → Value} {st gas : Nat} {rv : Value} (h : Out c c0) : MD c (endC c0 st gas rv) st gas rv := by
  unfold endC
  refine ⟨?_, ?_, ?_, ?_, ?_, ?_, fun k h1 h2 h3 h4 h5 h6 h7 => ?_⟩
  · rw [updNe (by decide), updNe (by decide), updEq]
  · rw [updNe (by decide), updEq]
  · rw [updNe (by decide), updNe (by decide), updNe (by decide), updEq]
  · rw [updEq]
  · rw [updNe (by decide), updNe (by decide), updNe (by decide), updNe (by decide), updEq]
  · rw [updNe (by decide), updNe (by decide), updNe (by decide), updNe (by decide), updNe (by decide), updEq]
  · rw [updNe h3, updNe h7, updNe h6, updNe h4, updNe h5, updNe h2]; exact h k (.inl h1)
theorem endC_VI {I : Ent → Prop} {c : Nat → Value} {V : Vl} {G : List Ent} {st gas : Nat} {rv : Value} (h : VI I c V G) : VI I (endC c st gas rv) V G := by
  refine h.congr fun k h1 h2 => ?_
  unfold endC
  rw [updNe (by omega), updNe (by omega), updNe (by omega), updNe (by omega), updNe (by omega), updNe (by omega)]
/-- mach.Machine.end, with success -/
theorem mEndS {I : Ent → Prop} {R G : List Ent} {cb sz pc gas : Nat} {T : TypeId} {c : Nat → Value} {K : YK} {s : List Nat} {ad : Option Addr} {n cap : Nat} (hsz : 2435 ≤ sz) (h10 : c 10 = .int .u8 ((1 : Nat) : Int)) (hK : MK I cb c K) (hM : MV c pc gas s) :
    CallG Hvaf.prog 196 #[ptr cb 0, .int .u8 ((0 : Nat) : Int), .slice ad n cap] ⟨I, ⟨cb, sz, T, c⟩ :: G⟩ fun r S' => S' = ⟨I, ⟨cb, sz, T, endC c 0 gas (.slice ad n cap)⟩ :: G⟩ := by
  have hrn := mRunning (I := I) (G := G) (cb := cb) (T := T) hsz hK
  have hlv := mLeave (I := I) (G := G) (cb := cb) (T := T) hsz h10
  have hgs := hM.fgas
  have hfk := hK.fk
  have htp := hK.mTop
  have hcr := fun S => mCreates0 (S := S)
  have ht2 : upd (upd c 10 (.int .u8 ((0 : Nat) : Int))) 2259 (.slice ad n cap) 2258 = .int .i8 0 := by rw [updNe (by decide), updNe (by decide)]; exact htp
  refine CallG.start (C := mkC Hvaf.prog) cok (args := [ptr cb 0, .int .u8 ((0 : Nat) : Int), .slice ad n cap]) Hvaf.func196 rfl Hvaf.ntmps196 (by simp) (by kernel_rfl) ?_
  skip
  refine CallG.sameL [] hrn ?_
  repeat (first | (refine QuG.keep ?_; first | refine QuG.l1E cok 0 rfl rfl rfl rfl rfl (by first | exact Nat.le_of_ble_eq_true rfl | omega | (dsimp only; omega) | (simp only [addS_eq, mulS_eq]; omega)) (by assumption) ?_) | refine SeqS.go cok ?_ | refine CondS.f rfl ?_)
  refine (hcr _).mono ?_
  rintro r _ - ⟨rfl, rfl⟩
  repeat (first | refine SeqS.go cok ?_ | refine GuardS.yes rfl ?_ | refine GuardS.no rfl ?_ | refine CondS.f rfl ?_ | refine W.drawI 14 cok [0, 1, 3, 7, 15, 31, 63, 7, 135, 391, 903, 2047, 4095, 8191, 16383, 32767, 65535, 131071, 262143, 524287, 1048575] [0, 1, 2, 3, 4, 5, 6, 7, 8, 9, 10, 11, 12, 13, 14, 15, 16, 17, 18, 19, 20] [6, 10] (by kernel_rfl) (by kernel_rfl) ?_)
  refine CallG.behind [] hlv ?_
  rintro r J G1 hs ⟨hS, rfl⟩
  cases hS
  repeat (first | (refine QuG.keep ?_; first | refine QuG.l1E cok 0 rfl rfl rfl rfl rfl (by first | exact Nat.le_of_ble_eq_true rfl | omega | (dsimp only; omega) | (simp only [addS_eq, mulS_eq]; omega)) (by assumption) ?_) | refine SeqS.go cok ?_ | refine GuardS.yes rfl ?_ | refine CondS.f rfl ?_ | (refine OpG.keep ?_; first | refine OpG.s1 cok 0 rfl rfl rfl rfl rfl (by first | exact Nat.le_of_ble_eq_true rfl | omega | (dsimp only; omega) | (simp only [addS_eq, mulS_eq]; omega)) rfl rfl ?_))
  refine ValS.any ?_
  repeat (first | refine SeqS.go cok ?_ | refine CondS.t rfl ?_ | refine And.intro (by dsimp only; omega) ?_ | (refine NatS.keep ?_; first | with_reducible refine NatS.lit ?_) | (refine QuG.keep ?_; first | refine QuG.l1 cok 0 rfl rfl rfl rfl rfl (by first | exact Nat.le_of_ble_eq_true rfl | omega | (dsimp only; omega) | (simp only [addS_eq, mulS_eq]; omega)) ?_) | (refine OpG.keep ?_; first | refine OpG.s1 cok 0 rfl rfl rfl rfl rfl (by first | exact Nat.le_of_ble_eq_true rfl | omega | (dsimp only; omega) | (simp only [addS_eq, mulS_eq]; omega)) rfl rfl ?_))
  exact Fin.same rfl
/-- mach.Machine.end, with a failure -/
theorem mEndF {I : Ent → Prop} {R G : List Ent} {cb sz pc gas st : Nat} {T : TypeId} {c : Nat → Value} {K : YK} {V : Vl} {s : List Nat} (hsz : 27019 ≤ sz) (h10 : c 10 = .int .u8 ((1 : Nat) : Int)) (hK : MK I cb c K) (hM : MV c pc gas s) (hV : VI I c V G) (hnm : 1 ≤ V.nm) (hmq : V.mq ≤ V.jr.length) (hP : PopOk (V.jr.length - V.mq) V) (hO : ∀ k, k ≤ V.jr.length - V.mq → VOk (popN k V)) (h2 : 2 ≤ st) (h256 : st < 256) :
    CallG Hvaf.prog 196 #[ptr cb 0, .int .u8 (st : Nat), .slice none 0 0] ⟨I, ⟨cb, sz, T, c⟩ :: (R ++ G)⟩ fun r S' => ∃ c0 G', S' = ⟨I, ⟨cb, sz, T, endC c0 st 0 (.slice none 0 0)⟩ :: (R ++ G')⟩ ∧ Out c c0 ∧ VI I c0 { popN (V.jr.length - V.mq) V with nm := 0 } G' := by
  have hsz' : 2435 ≤ sz := by omega
  have hrn := mRunning (I := I) (G := R ++ G) (cb := cb) (T := T) hsz' hK
  have hrv := vRevertTo (R := R) (cb := cb) (T := T) hsz hV hnm hmq hP hO
  have hlv := fun c0 G0 (h : Out c c0) => mLeave (I := I) (G := R ++ G0) (cb := cb) (T := T) (c := c0) hsz' (by rw [h 10 (by omega)]; exact h10)
  have hgs := hM.fgas
  have hfk := hK.fk
  have hsn := hK.fsn
  have hmS := hK.mS
  have hcr := fun S => mCreates0 (S := S)
  have ht2 : ∀ c0, Out c c0 → upd (upd c0 10 (.int .u8 ((0 : Nat) : Int))) 2259 (.slice none 0 0) 2258 = .int .i8 0 := fun c0 h => by rw [updNe (by decide), updNe (by decide), h 2258 (by omega)]; exact hK.mTop
  generalize ({ popN (V.jr.length - V.mq) V with nm := 0 } : Vl) = V0 at *
  refine CallG.start (C := mkC Hvaf.prog) cok (args := [ptr cb 0, .int .u8 (st : Nat), .slice none 0 0]) Hvaf.func196 rfl Hvaf.ntmps196 (by simp) (by kernel_rfl) ?_
  skip
  refine CallG.sameL [] hrn ?_
  repeat (first | (refine QuG.keep ?_; first | refine QuG.l1E cok 0 rfl rfl rfl rfl rfl (by first | exact Nat.le_of_ble_eq_true rfl | omega | (dsimp only; omega) | (simp only [addS_eq, mulS_eq]; omega)) (by assumption) ?_) | refine SeqS.go cok ?_ | refine CondS.f rfl ?_)
  refine (hcr _).mono ?_
  rintro r _ - ⟨rfl, rfl⟩
  repeat (first | (refine QuG.keep ?_; first | refine QuG.l1E cok 0 rfl rfl rfl rfl rfl (by first | exact Nat.le_of_ble_eq_true rfl | omega | (dsimp only; omega) | (simp only [addS_eq, mulS_eq]; omega)) (by assumption) ?_) | refine SeqS.go cok ?_ | refine GuardS.yes rfl ?_ | refine GuardS.no rfl ?_ | refine CondS.f rfl ?_ | refine W.drawI 14 cok [0, 1, 3, 7, 15, 31, 63, 7, 135, 391, 903, 2047, 4095, 8191, 16383, 32767, 65535, 131071, 262143, 524287, 1048575] [0, 1, 2, 3, 4, 5, 6, 7, 8, 9, 10, 11, 12, 13, 14, 15, 16, 17, 18, 19, 20] [6, 10] (by kernel_rfl) (by kernel_rfl) ?_ | (refine GuardS.keep ?_; first | refine GuardS.Tn1 rfl (by omega) ?_) | (refine CondS.keep ?_; first | refine CondS.d1 rfl (by omega) ?_))
  refine CallG.behind [] hrv ?_
  rintro r J G1 hs ⟨rfl, c0, G0, hS, g1, g2⟩
  cases hS
  repeat (first | refine GuardS.yes rfl ?_ | (refine still_in ?_; first | refine still_drop (by decide) ?_))
  refine CallG.behind [] (hlv c0 G0 g2) ?_
  rintro r J G1 hs ⟨hS, rfl⟩
  cases hS
  have ht3 := ht2 c0 g2
  repeat (first | (refine QuG.keep ?_; first | refine QuG.l1E cok 0 rfl rfl rfl rfl rfl (by first | exact Nat.le_of_ble_eq_true rfl | omega | (dsimp only; omega) | (simp only [addS_eq, mulS_eq]; omega)) (by assumption) ?_) | refine SeqS.go cok ?_ | refine GuardS.yes rfl ?_ | refine CondS.f rfl ?_ | (refine still_in ?_; first | refine still_drop (by decide) ?_) | (refine OpG.keep ?_; first | refine OpG.s1 cok 0 rfl rfl rfl rfl rfl (by first | exact Nat.le_of_ble_eq_true rfl | omega | (dsimp only; omega) | (simp only [addS_eq, mulS_eq]; omega)) rfl rfl ?_))
  refine ValS.any ?_
  repeat (first | refine SeqS.go cok ?_ | refine CondS.t rfl ?_ | refine And.intro (by dsimp only; omega) ?_ | (refine NatS.keep ?_; first | with_reducible refine NatS.lit ?_) | (refine QuG.keep ?_; first | refine QuG.l1 cok 0 rfl rfl rfl rfl rfl (by first | exact Nat.le_of_ble_eq_true rfl | omega | (dsimp only; omega) | (simp only [addS_eq, mulS_eq]; omega)) ?_) | (refine OpG.keep ?_; first | refine OpG.s1 cok 0 rfl rfl rfl rfl rfl (by first | exact Nat.le_of_ble_eq_true rfl | omega | (dsimp only; omega) | (simp only [addS_eq, mulS_eq]; omega)) rfl rfl ?_))
  exact Fin.same ⟨c0, G0, rfl, g2, g1⟩
/-- mach.Machine.end, with a revert -/
theorem mEndR {I : Ent → Prop} {R G : List Ent} {cb sz pc gas : Nat} {T : TypeId} {c : Nat → Value} {K : YK} {V : Vl} {s : List Nat} {ad : Option Addr} {n cap : Nat} (hsz : 27019 ≤ sz) (h10 : c 10 = .int .u8 ((1 : Nat) : Int)) (hK : MK I cb c K) (hM : MV c pc gas s) (hV : VI I c V G) (hnm : 1 ≤ V.nm) (hmq : V.mq ≤ V.jr.length) (hP : PopOk (V.jr.length - V.mq) V) (hO : ∀ k, k ≤ V.jr.length - V.mq → VOk (popN k V)) :
    CallG Hvaf.prog 196 #[ptr cb 0, .int .u8 ((1 : Nat) : Int), .slice ad n cap] ⟨I, ⟨cb, sz, T, c⟩ :: (R ++ G)⟩ fun r S' => ∃ c0 G', S' = ⟨I, ⟨cb, sz, T, endC c0 1 gas (.slice ad n cap)⟩ :: (R ++ G')⟩ ∧ Out c c0 ∧ VI I c0 { popN (V.jr.length - V.mq) V with nm := 0 } G' := by
  have hsz' : 2435 ≤ sz := by omega
  have hrn := mRunning (I := I) (G := R ++ G) (cb := cb) (T := T) hsz' hK
  have hrv := vRevertTo (R := R) (cb := cb) (T := T) hsz hV hnm hmq hP hO
  have hlv := fun c0 G0 (h : Out c c0) => mLeave (I := I) (G := R ++ G0) (cb := cb) (T := T) (c := c0) hsz' (by rw [h 10 (by omega)]; exact h10)
  have hgs := hM.fgas
  have hfk := hK.fk
  have hsn := hK.fsn
  have hmS := hK.mS
  have hcr := fun S => mCreates0 (S := S)
  have ht2 : ∀ c0, Out c c0 → upd (upd c0 10 (.int .u8 ((0 : Nat) : Int))) 2259 (.slice ad n cap) 2258 = .int .i8 0 := fun c0 h => by rw [updNe (by decide), updNe (by decide), h 2258 (by omega)]; exact hK.mTop
  generalize ({ popN (V.jr.length - V.mq) V with nm := 0 } : Vl) = V0 at *
  refine CallG.start (C := mkC Hvaf.prog) cok (args := [ptr cb 0, .int .u8 ((1 : Nat) : Int), .slice ad n cap]) Hvaf.func196 rfl Hvaf.ntmps196 (by simp) (by kernel_rfl) ?_
  skip
  refine CallG.sameL [] hrn ?_
  repeat (first | (refine QuG.keep ?_; first | refine QuG.l1E cok 0 rfl rfl rfl rfl rfl (by first | exact Nat.le_of_ble_eq_true rfl | omega | (dsimp only; omega) | (simp only [addS_eq, mulS_eq]; omega)) (by assumption) ?_) | refine SeqS.go cok ?_ | refine CondS.f rfl ?_)
  refine (hcr _).mono ?_
  rintro r _ - ⟨rfl, rfl⟩
  repeat (first | (refine QuG.keep ?_; first | refine QuG.l1E cok 0 rfl rfl rfl rfl rfl (by first | exact Nat.le_of_ble_eq_true rfl | omega | (dsimp only; omega) | (simp only [addS_eq, mulS_eq]; omega)) (by assumption) ?_) | refine SeqS.go cok ?_ | refine GuardS.yes rfl ?_ | refine GuardS.no rfl ?_ | refine CondS.f rfl ?_ | refine W.drawI 14 cok [0, 1, 3, 7, 15, 31, 63, 7, 135, 391, 903, 2047, 4095, 8191, 16383, 32767, 65535, 131071, 262143, 524287, 1048575] [0, 1, 2, 3, 4, 5, 6, 7, 8, 9, 10, 11, 12, 13, 14, 15, 16, 17, 18, 19, 20] [6, 10] (by kernel_rfl) (by kernel_rfl) ?_)
  refine CallG.behind [] hrv ?_
  rintro r J G1 hs ⟨rfl, c0, G0, hS, g1, g2⟩
  cases hS
  repeat (first | refine GuardS.yes rfl ?_ | (refine still_in ?_; first | refine still_drop (by decide) ?_))
  refine CallG.behind [] (hlv c0 G0 g2) ?_
  rintro r J G1 hs ⟨hS, rfl⟩
  cases hS
  have ht3 := ht2 c0 g2
  repeat (first | (refine QuG.keep ?_; first | refine QuG.l1E cok 0 rfl rfl rfl rfl rfl (by first | exact Nat.le_of_ble_eq_true rfl | omega | (dsimp only; omega) | (simp only [addS_eq, mulS_eq]; omega)) (by assumption) ?_) | refine SeqS.go cok ?_ | refine GuardS.yes rfl ?_ | refine CondS.f rfl ?_ | (refine still_in ?_; first | refine still_drop (by decide) ?_) | (refine OpG.keep ?_; first | refine OpG.s1 cok 0 rfl rfl rfl rfl rfl (by first | exact Nat.le_of_ble_eq_true rfl | omega | (dsimp only; omega) | (simp only [addS_eq, mulS_eq]; omega)) rfl rfl ?_))
  refine ValS.any ?_
  repeat (first | refine SeqS.go cok ?_ | refine CondS.t rfl ?_ | refine And.intro (by dsimp only; omega) ?_ | (refine NatS.keep ?_; first | with_reducible refine NatS.lit ?_) | (refine QuG.keep ?_; first | refine QuG.l1 cok 0 rfl rfl rfl rfl rfl (by first | exact Nat.le_of_ble_eq_true rfl | omega | (dsimp only; omega) | (simp only [addS_eq, mulS_eq]; omega)) ?_) | (refine OpG.keep ?_; first | refine OpG.s1 cok 0 rfl rfl rfl rfl rfl (by first | exact Nat.le_of_ble_eq_true rfl | omega | (dsimp only; omega) | (simp only [addS_eq, mulS_eq]; omega)) rfl rfl ?_))
  exact Fin.same ⟨c0, G0, rfl, g2, g1⟩
/-- mach.Machine.fail -/
theorem mFail {I : Ent → Prop} {R G : List Ent} {cb sz pc gas st : Nat} {T : TypeId} {c : Nat → Value} {K : YK} {V : Vl} {s : List Nat} (hsz : 27019 ≤ sz) (h10 : c 10 = .int .u8 ((1 : Nat) : Int)) (hK : MK I cb c K) (hM : MV c pc gas s) (hV : VI I c V G) (hnm : 1 ≤ V.nm) (hmq : V.mq ≤ V.jr.length) (hP : PopOk (V.jr.length - V.mq) V) (hO : ∀ k, k ≤ V.jr.length - V.mq → VOk (popN k V)) (h2 : 2 ≤ st) (h256 : st < 256) :
    CallG Hvaf.prog 195 #[ptr cb 0, .int .u8 (st : Nat)] ⟨I, ⟨cb, sz, T, c⟩ :: (R ++ G)⟩ fun r S' => r = .bool false ∧ ∃ c0 G', S' = ⟨I, ⟨cb, sz, T, endC c0 st 0 (.slice none 0 0)⟩ :: (R ++ G')⟩ ∧ Out c c0 ∧ VI I c0 { popN (V.jr.length - V.mq) V with nm := 0 } G' := by
  have hen := mEndF (R := R) (cb := cb) (T := T) hsz h10 hK hM hV hnm hmq hP hO h2 h256
  refine CallG.start (C := mkC Hvaf.prog) cok (args := [ptr cb 0, .int .u8 (st : Nat)]) Hvaf.func195 rfl Hvaf.ntmps195 (by simp) (by kernel_rfl) ?_
  repeat (first | refine SeqS.go cok ?_)
  refine CallG.behind [] hen ?_
  rintro r J G1 hs ⟨c0, G0, hS, g1, g2⟩
  cases hS
  repeat (first | refine SeqS.go cok ?_)
  exact Fin.same ⟨rfl, c0, G0, rfl, g1, g2⟩
/-- mach.Machine.OpEnd, 0 -/
theorem mEn0 {I : Ent → Prop} {G : List Ent} {cb sz pc gas : Nat} {T : TypeId} {c : Nat → Value} {K : YK} {s : List Nat} (hsz : 2435 ≤ sz) (h10 : c 10 = .int .u8 ((1 : Nat) : Int)) (hK : MK I cb c K) (hM : MV c pc gas s) (ho : K.code.getD pc 0 = 0) :
    CallG Hvaf.prog 214 #[ptr cb 0] ⟨I, ⟨cb, sz, T, c⟩ :: G⟩ fun r S' => S' = ⟨I, ⟨cb, sz, T, endC c 0 gas (.slice none 0 0)⟩ :: G⟩ := by
  have hrn := mRunning (I := I) (G := G) (cb := cb) (T := T) hsz hK
  have hop := mOpcode (I := I) (G := G) (cb := cb) (T := T) hsz hK hM
  rw [ho] at hop
  have hen := mEndS (I := I) (G := G) (R := []) (cb := cb) (T := T) (ad := none) (n := 0) (cap := 0) hsz h10 hK hM
  refine CallG.start (C := mkC Hvaf.prog) cok (args := [ptr cb 0]) Hvaf.func214 rfl Hvaf.ntmps214 (by simp) (by kernel_rfl) ?_
  skip
  refine CallG.sameL [] hrn ?_
  repeat (first | refine SeqS.go cok ?_ | refine CondS.f rfl ?_)
  refine CallG.sameL [] hop ?_
  repeat (first | refine SeqS.go cok ?_ | refine CondS.t rfl ?_)
  refine CallG.behind [] hen ?_
  rintro r J G1 hs hS
  cases hS
  repeat (first | refine SeqS.go cok ?_)
  exact Fin.same rfl
/-- mach.Machine.OpEnd, 243 -/
theorem mEn243 {I : Ent → Prop} {G : List Ent} {cb sz pc gas : Nat} {T : TypeId} {c : Nat → Value} {K : YK} {s mem : List Nat} {M : List Ent} (hsz : 2435 ≤ sz) (hA : ArI c mem M) (hMG : ∀ x ∈ M, x ∈ G) (hK : MK I cb c K) (hM : MV c pc gas s) (ho : K.code.getD pc 0 = 243) (hin : argN s 1 = 0 ∨ argN s 0 + argN s 1 ≤ mem.length) :
    CallG Hvaf.prog 214 #[ptr cb 0] ⟨I, ⟨cb, sz, T, c⟩ :: G⟩ fun r S' => ∃ J v, S' = ⟨J, ⟨cb, sz, T, endC c 0 gas v⟩ :: G⟩ ∧ Byt ⟨J, []⟩ v (cutL mem (argN s 0) (argN s 1)) := by
  have hrn := mRunning (I := I) (G := G) (cb := cb) (T := T) hsz hK
  have hop := mOpcode (I := I) (G := G) (cb := cb) (T := T) hsz hK hM
  rw [ho] at hop
  have ha0 := mArg (I := I) (G := G) (cb := cb) (T := T) (i := 0) hsz hK.fsb hM (by decide)
  have ha1 := mArg (I := I) (G := G) (cb := cb) (T := T) (i := 1) hsz hK.fsb hM (by decide)
  have hb1 : argN s 1 < 115792089237316195423570985008687907853269984665640564039457584007913129639936 := argN_lt hM.sb
  have hrd := mRd (I := I) (G := G) (cb := cb) (T := T) (off := argN s 0) hsz hA hMG hb1 hin
  have hen := fun J (hs : HL.Sub I J) ad n cap => mEndS (I := J) (G := G) (R := []) (cb := cb) (T := T) (ad := ad) (n := n) (cap := cap) hsz hA.tp (hK.congr hs fun _ _ _ _ _ _ => rfl) hM
  generalize cutL mem (argN s 0) (argN s 1) = cs at *
  generalize argN s 0 = a0 at *
  generalize argN s 1 = a1 at *
  refine CallG.start (C := mkC Hvaf.prog) cok (args := [ptr cb 0]) Hvaf.func214 rfl Hvaf.ntmps214 (by simp) (by kernel_rfl) ?_
  skip
  refine CallG.sameL [] hrn ?_
  repeat (first | refine SeqS.go cok ?_ | refine CondS.f rfl ?_)
  refine CallG.sameL [] hop ?_
  repeat (first | refine SeqS.go cok ?_ | refine CondS.f rfl ?_)
  refine CallG.sameL [] ha0 ?_
  skip
  refine CallG.sameL [] ha1 ?_
  skip
  refine CallG.behind [] hrd ?_
  rintro r J G1 hs ⟨hS, v, rfl, hB⟩
  cases hS
  obtain ⟨ad, cap, rfl⟩ := bytLen hB
  repeat (first | refine SeqS.go cok ?_ | refine CondS.f rfl ?_)
  refine CallG.behind [] (hen J hs ad _ cap) ?_
  rintro r J2 G1 hs2 hS
  cases hS
  skip
  exact Fin.same ⟨J, _, rfl, hB⟩
/-- mach.Machine.OpEnd, 253 -/
theorem mEn253 {I : Ent → Prop} {R G : List Ent} {cb sz pc gas : Nat} {T : TypeId} {c : Nat → Value} {K : YK} {V : Vl} {s mem : List Nat} {M : List Ent} (hsz : 27019 ≤ sz) (hA : ArI c mem M) (hMG : ∀ x ∈ M, x ∈ R) (hK : MK I cb c K) (hM : MV c pc gas s) (hV : VI I c V G) (hnm : 1 ≤ V.nm) (hmq : V.mq ≤ V.jr.length) (hP : PopOk (V.jr.length - V.mq) V) (hO : ∀ k, k ≤ V.jr.length - V.mq → VOk (popN k V)) (ho : K.code.getD pc 0 = 253) (hin : argN s 1 = 0 ∨ argN s 0 + argN s 1 ≤ mem.length) :
    CallG Hvaf.prog 214 #[ptr cb 0] ⟨I, ⟨cb, sz, T, c⟩ :: (R ++ G)⟩ fun r S' => ∃ J v c0 G', S' = ⟨J, ⟨cb, sz, T, endC c0 1 gas v⟩ :: (R ++ G')⟩ ∧ Byt ⟨J, []⟩ v (cutL mem (argN s 0) (argN s 1)) ∧ Out c c0 ∧ VI J c0 { popN (V.jr.length - V.mq) V with nm := 0 } G' := by
  have hsz' : 2435 ≤ sz := by omega
  have hrn := mRunning (I := I) (G := R ++ G) (cb := cb) (T := T) hsz' hK
  have hop := mOpcode (I := I) (G := R ++ G) (cb := cb) (T := T) hsz' hK hM
  rw [ho] at hop
  have ha0 := mArg (I := I) (G := R ++ G) (cb := cb) (T := T) (i := 0) hsz' hK.fsb hM (by decide)
  have ha1 := mArg (I := I) (G := R ++ G) (cb := cb) (T := T) (i := 1) hsz' hK.fsb hM (by decide)
  have hb1 : argN s 1 < 115792089237316195423570985008687907853269984665640564039457584007913129639936 := argN_lt hM.sb
  have hrd := mRd (I := I) (G := R ++ G) (cb := cb) (T := T) (off := argN s 0) hsz' hA (fun x h => List.mem_append_left _ (hMG x h)) hb1 hin
  have hen := fun J (hs : HL.Sub I J) ad n cap => mEndR (I := J) (R := R) (cb := cb) (T := T) (ad := ad) (n := n) (cap := cap) hsz hA.tp (hK.congr hs fun _ _ _ _ _ _ => rfl) hM (hV.up hs) hnm hmq hP hO
  generalize ({ popN (V.jr.length - V.mq) V with nm := 0 } : Vl) = V0 at *
  generalize cutL mem (argN s 0) (argN s 1) = cs at *
  generalize argN s 0 = a0 at *
  generalize argN s 1 = a1 at *
  refine CallG.start (C := mkC Hvaf.prog) cok (args := [ptr cb 0]) Hvaf.func214 rfl Hvaf.ntmps214 (by simp) (by kernel_rfl) ?_
  skip
  refine CallG.sameL [] hrn ?_
  repeat (first | refine SeqS.go cok ?_ | refine CondS.f rfl ?_)
  refine CallG.sameL [] hop ?_
  repeat (first | refine SeqS.go cok ?_ | refine CondS.f rfl ?_)
  refine CallG.sameL [] ha0 ?_
  skip
  refine CallG.sameL [] ha1 ?_
  skip
  refine CallG.behind [] hrd ?_
  rintro r J G1 hs ⟨hS, v, rfl, hB⟩
  cases hS
  obtain ⟨ad, cap, rfl⟩ := bytLen hB
  repeat (first | refine SeqS.go cok ?_ | refine CondS.t rfl ?_ | refine CondS.f rfl ?_)
  refine CallG.behind [] (hen J hs ad _ cap) ?_
  rintro r J2 G1 hs2 ⟨c0, G0, hS, g1, g2⟩
  cases hS
  skip
  exact Fin.same ⟨J, _, c0, G0, rfl, hB, g1, g2⟩
end Go.Proofs.YgvafwGreat
