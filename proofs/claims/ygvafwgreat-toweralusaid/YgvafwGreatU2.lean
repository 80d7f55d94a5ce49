import Derived.Test.YgvafwGreatU1
set_option maxRecDepth 100000
set_option maxHeartbeats 4000000
set_option linter.unusedVariables false
set_option linter.unusedSimpArgs false
-- v2
namespace Go.Proofs.YgvafwGreat
open Go.HL Go.Proofs

/-- u256.Add -/
theorem UAdd_spec {S : St} {a b : Nat} (ha : a < 115792089237316195423570985008687907853269984665640564039457584007913129639936) (hb : b < 115792089237316195423570985008687907853269984665640564039457584007913129639936) :
    CallG Hvaf.prog 124 #[wordV a, wordV b] S fun r S' => S = S' ∧ r = wordV ((a + b) % 115792089237316195423570985008687907853269984665640564039457584007913129639936) := by
  refine CallG.start (C := mkC Hvaf.prog) cok (args := [wordV a, wordV b]) Hvaf.func124 rfl Hvaf.ntmps124 (by simp) (by kernel_rfl) ?_
  intro xa xb xr
  repeat (first | refine SeqS.go cok ?_ | (refine QuG.keep ?_; first | refine QuG.lN cok 1 rfl rfl rfl rfl rfl (by first | exact Nat.le_of_ble_eq_true rfl | omega | (dsimp only; omega) | (simp only [addS_eq, mulS_eq]; omega)) ?_ | refine QuG.lN cok 2 rfl rfl rfl rfl rfl (by first | exact Nat.le_of_ble_eq_true rfl | omega | (dsimp only; omega) | (simp only [addS_eq, mulS_eq]; omega)) ?_))
  refine (AddOver_spec ha hb).mono ?_
  rintro r _ - ⟨rfl, rfl⟩
  skip
  intro xt
  repeat (first | refine SeqS.go cok ?_ | (refine QuG.keep ?_; first | refine QuG.lN cok 0 rfl rfl rfl rfl rfl (by first | exact Nat.le_of_ble_eq_true rfl | omega | (dsimp only; omega) | (simp only [addS_eq, mulS_eq]; omega)) ?_) | (refine LdG.keep ?_; first | refine LdG.lN cok 1 rfl rfl rfl rfl rfl (by first | exact Nat.le_of_ble_eq_true rfl | omega | (dsimp only; omega) | (simp only [addS_eq, mulS_eq]; omega)) ?_) | (refine OpG.keep ?_; first | refine OpG.sL cok 0 rfl rfl rfl rfl rfl rfl rfl (by first | exact Nat.le_of_ble_eq_true rfl | omega | (dsimp only; omega) | (simp only [addS_eq, mulS_eq]; omega)) ?_ | refine OpG.sL cok 1 rfl rfl rfl rfl rfl rfl rfl (by first | exact Nat.le_of_ble_eq_true rfl | omega | (dsimp only; omega) | (simp only [addS_eq, mulS_eq]; omega)) ?_))
  exact Fin.drop S.G [_, _, _, _] ⟨rfl, rfl⟩

/-- u256.Sub -/
theorem USub_spec {S : St} {a b : Nat} (ha : a < 115792089237316195423570985008687907853269984665640564039457584007913129639936) (hb : b < 115792089237316195423570985008687907853269984665640564039457584007913129639936) :
    CallG Hvaf.prog 108 #[wordV a, wordV b] S fun r S' => S = S' ∧ r = wordV ((a + 115792089237316195423570985008687907853269984665640564039457584007913129639936 - b) % 115792089237316195423570985008687907853269984665640564039457584007913129639936) := by
  refine CallG.start (C := mkC Hvaf.prog) cok (args := [wordV a, wordV b]) Hvaf.func108 rfl Hvaf.ntmps108 (by simp) (by kernel_rfl) ?_
  intro xa xb xr
  repeat (first | refine SeqS.go cok ?_ | (refine QuG.keep ?_; first | refine QuG.lN cok 1 rfl rfl rfl rfl rfl (by first | exact Nat.le_of_ble_eq_true rfl | omega | (dsimp only; omega) | (simp only [addS_eq, mulS_eq]; omega)) ?_ | refine QuG.lN cok 2 rfl rfl rfl rfl rfl (by first | exact Nat.le_of_ble_eq_true rfl | omega | (dsimp only; omega) | (simp only [addS_eq, mulS_eq]; omega)) ?_))
  refine (SubUnder_spec ha hb).mono ?_
  rintro r _ - ⟨rfl, rfl⟩
  skip
  intro xt
  repeat (first | refine SeqS.go cok ?_ | (refine QuG.keep ?_; first | refine QuG.lN cok 0 rfl rfl rfl rfl rfl (by first | exact Nat.le_of_ble_eq_true rfl | omega | (dsimp only; omega) | (simp only [addS_eq, mulS_eq]; omega)) ?_) | (refine LdG.keep ?_; first | refine LdG.lN cok 1 rfl rfl rfl rfl rfl (by first | exact Nat.le_of_ble_eq_true rfl | omega | (dsimp only; omega) | (simp only [addS_eq, mulS_eq]; omega)) ?_) | (refine OpG.keep ?_; first | refine OpG.sL cok 0 rfl rfl rfl rfl rfl rfl rfl (by first | exact Nat.le_of_ble_eq_true rfl | omega | (dsimp only; omega) | (simp only [addS_eq, mulS_eq]; omega)) ?_ | refine OpG.sL cok 1 rfl rfl rfl rfl rfl rfl rfl (by first | exact Nat.le_of_ble_eq_true rfl | omega | (dsimp only; omega) | (simp only [addS_eq, mulS_eq]; omega)) ?_))
  exact Fin.drop S.G [_, _, _, _] ⟨rfl, rfl⟩

/-- u256.Lt -/
theorem ULt_spec {S : St} {a b : Nat} (ha : a < 115792089237316195423570985008687907853269984665640564039457584007913129639936) (hb : b < 115792089237316195423570985008687907853269984665640564039457584007913129639936) :
    CallG Hvaf.prog 122 #[wordV a, wordV b] S fun r S' => S = S' ∧ r = .bool (decide (a < b)) := by
  refine CallG.start (C := mkC Hvaf.prog) cok (args := [wordV a, wordV b]) Hvaf.func122 rfl Hvaf.ntmps122 (by simp) (by kernel_rfl) ?_
  intro xa xb
  repeat (first | refine SeqS.go cok ?_ | (refine QuG.keep ?_; first | refine QuG.lN cok 0 rfl rfl rfl rfl rfl (by first | exact Nat.le_of_ble_eq_true rfl | omega | (dsimp only; omega) | (simp only [addS_eq, mulS_eq]; omega)) ?_ | refine QuG.lN cok 1 rfl rfl rfl rfl rfl (by first | exact Nat.le_of_ble_eq_true rfl | omega | (dsimp only; omega) | (simp only [addS_eq, mulS_eq]; omega)) ?_))
  refine (SubUnder_spec ha hb).mono ?_
  rintro r _ - ⟨rfl, rfl⟩
  skip
  intro xt
  repeat (first | refine SeqS.go cok ?_ | (refine OpG.keep ?_; first | refine OpG.sL cok 0 rfl rfl rfl rfl rfl rfl rfl (by first | exact Nat.le_of_ble_eq_true rfl | omega | (dsimp only; omega) | (simp only [addS_eq, mulS_eq]; omega)) ?_))
  exact Fin.drop S.G [_, _, _] ⟨rfl, rfl⟩

/-- u256.Gt -/
theorem UGt_spec {S : St} {a b : Nat} (ha : a < 115792089237316195423570985008687907853269984665640564039457584007913129639936) (hb : b < 115792089237316195423570985008687907853269984665640564039457584007913129639936) :
    CallG Hvaf.prog 175 #[wordV a, wordV b] S fun r S' => S = S' ∧ r = .bool (decide (b < a)) := by
  refine CallG.start (C := mkC Hvaf.prog) cok (args := [wordV a, wordV b]) Hvaf.func175 rfl Hvaf.ntmps175 (by simp) (by kernel_rfl) ?_
  intro xa xb
  repeat (first | refine SeqS.go cok ?_ | (refine QuG.keep ?_; first | refine QuG.lN cok 0 rfl rfl rfl rfl rfl (by first | exact Nat.le_of_ble_eq_true rfl | omega | (dsimp only; omega) | (simp only [addS_eq, mulS_eq]; omega)) ?_ | refine QuG.lN cok 1 rfl rfl rfl rfl rfl (by first | exact Nat.le_of_ble_eq_true rfl | omega | (dsimp only; omega) | (simp only [addS_eq, mulS_eq]; omega)) ?_))
  refine (ULt_spec hb ha).mono ?_
  rintro r _ - ⟨rfl, rfl⟩
  repeat (first | refine SeqS.go cok ?_)
  exact Fin.drop S.G [_, _] ⟨rfl, rfl⟩

/-- The limbs' bits. -/
theorem or4_zero (a b c d : Nat) : (a ||| b ||| c ||| d = 0) ↔ (a = 0 ∧ b = 0 ∧ c = 0 ∧ d = 0) := by
  simp only [Nat.or_eq_zero_iff, and_assoc]
theorem or3_zero (b c d : Nat) : (b ||| c ||| d = 0) ↔ (b = 0 ∧ c = 0 ∧ d = 0) := by
  simp only [Nat.or_eq_zero_iff, and_assoc]
theorem beq_zero (c : Nat) : (((c : Nat) : Int) == 0) = decide (c = 0) := by
  rw [Bool.eq_iff_iff]; simp
theorem zero4 {a b c d : Nat} : (a + 18446744073709551616 * b + 340282366920938463463374607431768211456 * c + 6277101735386680763835789423207666416102355444464034512896 * d = 0) ↔ (a = 0 ∧ b = 0 ∧ c = 0 ∧ d = 0) := by omega
theorem small4 {a b c d : Nat} (ha : a < 18446744073709551616) : (a + 18446744073709551616 * b + 340282366920938463463374607431768211456 * c + 6277101735386680763835789423207666416102355444464034512896 * d < 18446744073709551616) ↔ (b = 0 ∧ c = 0 ∧ d = 0) := by omega

/-- u256.Word.IsZero -/
theorem UIsZero_spec {S : St} {a : Nat} (ha : a < 115792089237316195423570985008687907853269984665640564039457584007913129639936) :
    CallG Hvaf.prog 88 #[wordV a] S fun r S' => S = S' ∧ r = .bool (decide (a = 0)) := by
  obtain ⟨a0, a1, a2, a3, h0, h1, h2, h3, ea, va⟩ := word_cases ha
  rw [va]
  clear va ha
  refine CallG.start (C := mkC Hvaf.prog) cok (args := [WV a0 a1 a2 a3]) Hvaf.func88 rfl Hvaf.ntmps88 (by simp) (by kernel_rfl) ?_
  intro xa
  repeat (first | refine SeqS.go cok ?_ | refine And.intro (by dsimp only; omega) ?_ | (refine NatS.keep ?_; first | with_reducible refine NatS.lit ?_) | (refine ValS.keep ?_; first | (with_reducible refine ValS.kU64 ?_; first | (with_reducible refine ValS.orFU64 ?_ ?_ (fun _ => ?_); omega; omega))) | (refine QuG.keep ?_; first | refine QuG.l1 cok 0 rfl rfl rfl rfl rfl (by first | exact Nat.le_of_ble_eq_true rfl | omega | (dsimp only; omega) | (simp only [addS_eq, mulS_eq]; omega)) ?_))
  obtain ⟨rfl⟩ := ea
  refine Fin.drop S.G [_] ⟨rfl, vB rfl ?_⟩
  rw [beq_zero, Bool.eq_iff_iff]
  simp only [decide_eq_true_eq]
  rw [or4_zero, zero4]

/-- u256.Word.U64 -/
theorem UU64_spec {S : St} {a : Nat} (ha : a < 115792089237316195423570985008687907853269984665640564039457584007913129639936) :
    CallG Hvaf.prog 310 #[wordV a] S fun r S' => S = S' ∧ r = if a < 18446744073709551616 then .tuple #[.int .u64 (a : Nat), .bool true] else .tuple #[.int .u64 0, .bool false] := by
  obtain ⟨a0, a1, a2, a3, h0, h1, h2, h3, ea, va⟩ := word_cases ha
  rw [va]
  clear va ha
  refine CallG.start (C := mkC Hvaf.prog) cok (args := [WV a0 a1 a2 a3]) Hvaf.func310 rfl Hvaf.ntmps310 (by simp) (by kernel_rfl) ?_
  intro xa
  repeat (first | refine SeqS.go cok ?_ | refine And.intro (by dsimp only; omega) ?_ | (refine NatS.keep ?_; first | with_reducible refine NatS.lit ?_) | (refine ValS.keep ?_; first | (with_reducible refine ValS.kU64 ?_; first | (with_reducible refine ValS.orFU64 ?_ ?_ (fun _ => ?_); omega; omega))) | (refine QuG.keep ?_; first | refine QuG.l1 cok 0 rfl rfl rfl rfl rfl (by first | exact Nat.le_of_ble_eq_true rfl | omega | (dsimp only; omega) | (simp only [addS_eq, mulS_eq]; omega)) ?_))
  (first | refine CondS.nez rfl (fun hc => ?_) (fun hc => ?_))
  · repeat (first | refine SeqS.go cok ?_)
    obtain ⟨rfl⟩ := ea
    refine Fin.drop S.G [_] ⟨rfl, ?_⟩
    rw [if_neg]
    · rfl
    · rw [small4 h0]
      intro h
      exact hc (by simp only [h.1, h.2.1, h.2.2]; rfl)
  · repeat (first | refine SeqS.go cok ?_ | refine And.intro (by dsimp only; omega) ?_ | (refine NatS.keep ?_; first | with_reducible refine NatS.lit ?_) | (refine QuG.keep ?_; first | refine QuG.l1 cok 0 rfl rfl rfl rfl rfl (by first | exact Nat.le_of_ble_eq_true rfl | omega | (dsimp only; omega) | (simp only [addS_eq, mulS_eq]; omega)) ?_))
    obtain ⟨rfl⟩ := ea
    refine Fin.drop S.G [_] ⟨rfl, ?_⟩
    have h : a1 = 0 ∧ a2 = 0 ∧ a3 = 0 := by rw [← or3_zero]; omega
    obtain ⟨rfl, rfl, rfl⟩ := h
    rw [if_pos ((small4 h0).2 ⟨rfl, rfl, rfl⟩), show a0 + 18446744073709551616 * 0 + 340282366920938463463374607431768211456 * 0 + 6277101735386680763835789423207666416102355444464034512896 * 0 = a0 by omega]
    rfl

theorem neg4 {a b c d : Nat} (ha : a < 18446744073709551616) (hb : b < 18446744073709551616) (hc : c < 18446744073709551616) (hd : d < 18446744073709551616) : (d / 9223372036854775808 ≠ 0) ↔ 57896044618658097711785492504343953926634992332820282019728792003956564819968 ≤ a + 18446744073709551616 * b + 340282366920938463463374607431768211456 * c + 6277101735386680763835789423207666416102355444464034512896 * d := by omega
/-- u256.negative -/
theorem Uneg_spec {S : St} {a : Nat} (ha : a < 115792089237316195423570985008687907853269984665640564039457584007913129639936) :
    CallG Hvaf.prog 386 #[wordV a] S fun r S' => S = S' ∧ r = .bool (decide (57896044618658097711785492504343953926634992332820282019728792003956564819968 ≤ a)) := by
  obtain ⟨a0, a1, a2, a3, h0, h1, h2, h3, ea, va⟩ := word_cases ha
  rw [va]
  clear va ha
  refine CallG.start (C := mkC Hvaf.prog) cok (args := [WV a0 a1 a2 a3]) Hvaf.func386 rfl Hvaf.ntmps386 (by simp) (by kernel_rfl) ?_
  intro xa
  repeat (first | refine SeqS.go cok ?_ | refine And.intro (by omega) ?_ | refine And.intro (by dsimp only; omega) ?_ | (refine NatS.keep ?_; first | with_reducible refine NatS.lit ?_) | (refine ValS.keep ?_; first | (with_reducible refine ValS.kU64 ?_; first | (with_reducible refine ValS.shrU64_L ?_ ?_ ; omega))) | (refine QuG.keep ?_; first | refine QuG.l1 cok 0 rfl rfl rfl rfl rfl (by first | exact Nat.le_of_ble_eq_true rfl | omega | (dsimp only; omega) | (simp only [addS_eq, mulS_eq]; omega)) ?_))
  obtain ⟨rfl⟩ := ea
  refine Fin.drop S.G [_] ⟨rfl, vB rfl ?_⟩
  rw [bne_nat, Bool.eq_iff_iff]
  simp only [decide_eq_true_eq]
  exact neg4 h0 h1 h2 h3
end Go.Proofs.YgvafwGreat
