import Derived.Test.YgvafwGreatU3
set_option maxRecDepth 100000
set_option maxHeartbeats 4000000
set_option linter.unusedVariables false
set_option linter.unusedSimpArgs false
-- v2
namespace Go.Proofs.YgvafwGreat
open Go.HL Go.Proofs

/-- u256.below -/
theorem Ubelow_spec {S : St} {a n : Nat} (ha : a < 115792089237316195423570985008687907853269984665640564039457584007913129639936) (hn : n < 18446744073709551616) :
    CallG Hvaf.prog 388 #[wordV a, .int .u64 (n : Nat)] S fun r S' => S = S' ∧ ∃ x : Nat, r = .tuple #[.int .u64 (x : Nat), .bool (decide (a < n))] ∧ (a < n → x = a) := by
  replace ha : Hid _ := ⟨ha⟩
  refine CallG.start (C := mkC Hvaf.prog) cok (args := [wordV a, .int .u64 (n : Nat)]) Hvaf.func388 rfl Hvaf.ntmps388 (by simp) (by kernel_rfl) ?_
  intro xa
  repeat (first | refine SeqS.go cok ?_ | (refine QuG.keep ?_; first | refine QuG.lN cok 0 rfl rfl rfl rfl rfl (by first | exact Nat.le_of_ble_eq_true rfl | omega | (dsimp only; omega) | (simp only [addS_eq, mulS_eq]; omega)) ?_))
  refine (UU64_spec ha.out).mono ?_
  rintro r _ - ⟨rfl, rfl⟩
  by_cases hs : a < 18446744073709551616
  · rw [if_pos hs]
    repeat (first | refine SeqS.go cok ?_ | refine GuardS.yes rfl ?_)
    refine Fin.drop S.G [_] ⟨rfl, a, ?_, fun _ => rfl⟩
    refine Eq.trans (b := .tuple #[.int .u64 (a : Nat), .bool (decide ((a : Int) < (n : Int)))]) rfl ?_
    rw [show decide ((a : Int) < (n : Int)) = decide (a < n) by rw [Bool.eq_iff_iff]; simp]
  · rw [if_neg hs]
    repeat (first | refine SeqS.go cok ?_ | refine GuardS.no rfl ?_)
    refine Fin.drop S.G [_] ⟨rfl, 0, ?_, fun h => by omega⟩
    rw [show decide (a < n) = false by simp; omega]
    rfl

/-- The number of limbs in use. -/
def nlimbs (a b c d : Nat) : Nat := if d ≠ 0 then 4 else if c ≠ 0 then 3 else if b ≠ 0 then 2 else if a ≠ 0 then 1 else 0
/-- u256.Word.Limbs -/
theorem ULimbs_spec {S : St} {a b c d : Nat} :
    CallG Hvaf.prog 262 #[WV a b c d] S fun r S' => S = S' ∧ r = .int .u8 (nlimbs a b c d : Nat) := by
  have hcs : d ≠ 0 ∨ (d = 0 ∧ c ≠ 0) ∨ (d = 0 ∧ c = 0 ∧ b ≠ 0) ∨ (d = 0 ∧ c = 0 ∧ b = 0 ∧ a ≠ 0) ∨ (d = 0 ∧ c = 0 ∧ b = 0 ∧ a = 0) := by omega
  rcases hcs with h1 | ⟨h1, h2⟩ | ⟨h1, h2, h3⟩ | ⟨h1, h2, h3, h4⟩ | ⟨h1, h2, h3, h4⟩
  · have hn : nlimbs a b c d = 4 := by simp [nlimbs, *]
    refine CallG.start (C := mkC Hvaf.prog) cok (args := [WV a b c d]) Hvaf.func262 rfl Hvaf.ntmps262 (by simp) (by kernel_rfl) ?_
    intro xa
    repeat (first | refine SeqS.go cok ?_)
    refine W.rounds cok (by kernel_rfl) 5 ?_
    repeat (first | refine SeqS.go cok ?_ | refine GuardS.yes rfl ?_ | refine And.intro (by dsimp only; omega) ?_ | (refine NatS.keep ?_; first | with_reducible refine NatS.nat ?_) | (refine ValS.keep ?_; first | (with_reducible refine ValS.kU8 ?_; first | (with_reducible refine ValS.subU8_LL ?_ ?_ ?_ ; omega; omega))) | (refine QuG.keep ?_; first | refine QuG.l1 cok 0 rfl rfl rfl rfl rfl (by first | exact Nat.le_of_ble_eq_true rfl | omega | (dsimp only; omega) | (simp only [addS_eq, mulS_eq]; omega)) ?_) | (refine CondS.keep ?_; first | refine CondS.d0 rfl (by omega) ?_))
    exact Fin.drop S.G [_] ⟨rfl, vI rfl (by rw [hn])⟩
  · have hn : nlimbs a b c d = 3 := by simp [nlimbs, *]
    refine CallG.start (C := mkC Hvaf.prog) cok (args := [WV a b c d]) Hvaf.func262 rfl Hvaf.ntmps262 (by simp) (by kernel_rfl) ?_
    intro xa
    repeat (first | refine SeqS.go cok ?_)
    refine W.rounds cok (by kernel_rfl) 5 ?_
    repeat (first | refine SeqS.go cok ?_ | refine GuardS.yes rfl ?_ | refine And.intro (by dsimp only; omega) ?_ | (refine NatS.keep ?_; first | with_reducible refine NatS.nat ?_) | (refine ValS.keep ?_; first | (with_reducible refine ValS.kU8 ?_; first | (with_reducible refine ValS.subU8_L ?_ ?_ ?_ ; omega; omega) | (with_reducible refine ValS.subU8_LL ?_ ?_ ?_ ; omega; omega))) | (refine QuG.keep ?_; first | refine QuG.l1 cok 0 rfl rfl rfl rfl rfl (by first | exact Nat.le_of_ble_eq_true rfl | omega | (dsimp only; omega) | (simp only [addS_eq, mulS_eq]; omega)) ?_) | (refine CondS.keep ?_; first | refine CondS.d1 rfl (by omega) ?_ | refine CondS.d0 rfl (by omega) ?_))
    exact Fin.drop S.G [_] ⟨rfl, vI rfl (by rw [hn])⟩
  · have hn : nlimbs a b c d = 2 := by simp [nlimbs, *]
    refine CallG.start (C := mkC Hvaf.prog) cok (args := [WV a b c d]) Hvaf.func262 rfl Hvaf.ntmps262 (by simp) (by kernel_rfl) ?_
    intro xa
    repeat (first | refine SeqS.go cok ?_)
    refine W.rounds cok (by kernel_rfl) 5 ?_
    repeat (first | refine SeqS.go cok ?_ | refine GuardS.yes rfl ?_ | refine And.intro (by dsimp only; omega) ?_ | (refine NatS.keep ?_; first | with_reducible refine NatS.nat ?_) | (refine ValS.keep ?_; first | (with_reducible refine ValS.kU8 ?_; first | (with_reducible refine ValS.subU8_L ?_ ?_ ?_ ; omega; omega) | (with_reducible refine ValS.subU8_LL ?_ ?_ ?_ ; omega; omega))) | (refine QuG.keep ?_; first | refine QuG.l1 cok 0 rfl rfl rfl rfl rfl (by first | exact Nat.le_of_ble_eq_true rfl | omega | (dsimp only; omega) | (simp only [addS_eq, mulS_eq]; omega)) ?_) | (refine CondS.keep ?_; first | refine CondS.d1 rfl (by omega) ?_ | refine CondS.d0 rfl (by omega) ?_))
    exact Fin.drop S.G [_] ⟨rfl, vI rfl (by rw [hn])⟩
  · have hn : nlimbs a b c d = 1 := by simp [nlimbs, *]
    refine CallG.start (C := mkC Hvaf.prog) cok (args := [WV a b c d]) Hvaf.func262 rfl Hvaf.ntmps262 (by simp) (by kernel_rfl) ?_
    intro xa
    repeat (first | refine SeqS.go cok ?_)
    refine W.rounds cok (by kernel_rfl) 5 ?_
    repeat (first | refine SeqS.go cok ?_ | refine GuardS.yes rfl ?_ | refine And.intro (by dsimp only; omega) ?_ | (refine NatS.keep ?_; first | with_reducible refine NatS.nat ?_) | (refine ValS.keep ?_; first | (with_reducible refine ValS.kU8 ?_; first | (with_reducible refine ValS.subU8_L ?_ ?_ ?_ ; omega; omega) | (with_reducible refine ValS.subU8_LL ?_ ?_ ?_ ; omega; omega))) | (refine QuG.keep ?_; first | refine QuG.l1 cok 0 rfl rfl rfl rfl rfl (by first | exact Nat.le_of_ble_eq_true rfl | omega | (dsimp only; omega) | (simp only [addS_eq, mulS_eq]; omega)) ?_) | (refine CondS.keep ?_; first | refine CondS.d1 rfl (by omega) ?_ | refine CondS.d0 rfl (by omega) ?_))
    exact Fin.drop S.G [_] ⟨rfl, vI rfl (by rw [hn])⟩
  · have hn : nlimbs a b c d = 0 := by simp [nlimbs, *]
    refine CallG.start (C := mkC Hvaf.prog) cok (args := [WV a b c d]) Hvaf.func262 rfl Hvaf.ntmps262 (by simp) (by kernel_rfl) ?_
    intro xa
    repeat (first | refine SeqS.go cok ?_)
    refine W.rounds cok (by kernel_rfl) 5 ?_
    repeat (first | refine SeqS.go cok ?_ | refine GuardS.yes rfl ?_ | refine GuardS.no rfl ?_ | refine CondS.f rfl ?_ | refine And.intro (by dsimp only; omega) ?_ | (refine NatS.keep ?_; first | with_reducible refine NatS.nat ?_) | (refine ValS.keep ?_; first | (with_reducible refine ValS.kU8 ?_; first | (with_reducible refine ValS.subU8_L ?_ ?_ ?_ ; omega; omega) | (with_reducible refine ValS.subU8_LL ?_ ?_ ?_ ; omega; omega))) | (refine QuG.keep ?_; first | refine QuG.l1 cok 0 rfl rfl rfl rfl rfl (by first | exact Nat.le_of_ble_eq_true rfl | omega | (dsimp only; omega) | (simp only [addS_eq, mulS_eq]; omega)) ?_) | (refine CondS.keep ?_; first | refine CondS.d1 rfl (by omega) ?_))
    exact Fin.drop S.G [_] ⟨rfl, vI rfl (by rw [hn])⟩
end Go.Proofs.YgvafwGreat
