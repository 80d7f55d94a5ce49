import Derived.Test.YgvafwGreatE26
import Derived.Test.YgvafwGreatM1
set_option exponentiation.threshold 1000
set_option maxRecDepth 100000
set_option maxHeartbeats 4000000
set_option linter.unusedVariables false
set_option linter.unusedSimpArgs false
-- v2
-- v4
-- v5
-- v6
-- v7
namespace Go.Proofs.YgvafwGreat
open Go.HL Go.Proofs
/-- mach.Machine.OpBlock, 64 -/
theorem mBl64 {I : Ent → Prop} {G : List Ent} {cb sz pc gas : Nat} {T : TypeId} {c : Nat → Value} {K : YK} {s : List Nat} (hsz : 2435 ≤ sz) (hK : MK I cb c K) (hM : MV c pc gas s) (hpb : pc + 1 < 60000) (ho : K.code.getD pc 0 = 64) (hs1 : 1 ≤ s.length) :
    CallG Hvaf.prog 206 #[ptr cb 0] ⟨I, ⟨cb, sz, T, c⟩ :: G⟩ (SetP I G cb sz T c (pc + 1) gas (s.take (s.length - 1) ++ [0])) := by
  have hrn := mRunning (I := I) (G := G) (cb := cb) (T := T) hsz hK
  have hop := mOpcode (I := I) (G := G) (cb := cb) (T := T) hsz hK hM
  rw [ho] at hop
  have ha0 := mArg (I := I) (G := G) (cb := cb) (T := T) (i := 0) hsz hK.fsb hM (by decide)
  have hb0 : argN s 0 < 115792089237316195423570985008687907853269984665640564039457584007913129639936 := argN_lt hM.sb
  have hno := hK.eNo
  have hse := mSettleG (I := I) (G := G) (cb := cb) (T := T) (t := 1) (step := 1) (w := 0) hsz hK.fsb hM hs1 hpb (by have := hM.sl; omega) zero_lt
  have hu : ∃ v p, ∀ S, CallG Hvaf.prog 310 #[wordV (argN s 0)] S fun r S' => S = S' ∧ r = .tuple #[.int .u64 (v : Nat), .bool p] := by
    by_cases h2 : argN s 0 < 18446744073709551616
    · exact ⟨_, true, fun S => u64T h2⟩
    · exact ⟨0, false, fun S => u64F hb0 h2⟩
  obtain ⟨v, p, hu⟩ := hu
  generalize s.take (s.length - 1) ++ [0] = s' at *
  generalize argN s 0 = a0 at *
  cases p
  all_goals (
    refine CallG.start (C := mkC Hvaf.prog) cok (args := [ptr cb 0]) Hvaf.func206 rfl Hvaf.ntmps206 (by simp) (by kernel_rfl) ?_
    skip
    refine CallG.sameL [] hrn ?_
    repeat (first | refine SeqS.go cok ?_ | refine CondS.f rfl ?_ | refine And.intro (fillOk_of (Eq.refl true)) ?_)
    intro x1
    repeat (first | refine SeqS.go cok ?_ | (refine OpG.keep ?_; first | refine OpG.sL cok 0 rfl rfl rfl rfl rfl rfl rfl (by first | exact Nat.le_of_ble_eq_true rfl | omega | (dsimp only; omega) | (simp only [addS_eq, mulS_eq]; omega)) ?_))
    refine CallG.sameL [_] hop ?_
    repeat (first | refine SeqS.go cok ?_ | refine CondS.t rfl ?_)
    refine CallG.sameL [_] ha0 ?_
    skip
    first
      | (intro x2
         skip
         refine (hu _).mono ?_
         rintro r _ - ⟨rfl, rfl⟩
         skip
         refine CallG.behind [_, _] hse ?_
         rintro r J G1 hs ⟨c', hS, h1, h2⟩
         cases hS
         skip
         exact Fin.drop (⟨cb, sz, T, c'⟩ :: G) [_, _] ⟨c', rfl, h1, h2⟩)
      | (refine (hu _).mono ?_
         rintro r _ - ⟨rfl, rfl⟩
         repeat (first | (refine QuG.keep ?_; first | refine QuG.l1E cok 1 rfl rfl rfl rfl rfl (by first | exact Nat.le_of_ble_eq_true rfl | omega | (dsimp only; omega) | (simp only [addS_eq, mulS_eq]; omega)) (by assumption) ?_) | refine SeqS.go cok ?_ | refine GuardS.yes rfl ?_ | refine GuardS.no rfl ?_ | refine CondS.f rfl ?_ | (refine QuG.keep ?_; first | refine QuG.lN cok 0 rfl rfl rfl rfl rfl (by first | exact Nat.le_of_ble_eq_true rfl | omega | (dsimp only; omega) | (simp only [addS_eq, mulS_eq]; omega)) ?_))
         refine CallG.behind [_] hse ?_
         rintro r J G1 hs ⟨c', hS, h1, h2⟩
         cases hS
         skip
         exact Fin.drop (⟨cb, sz, T, c'⟩ :: G) [_] ⟨c', rfl, h1, h2⟩))
end Go.Proofs.YgvafwGreat
