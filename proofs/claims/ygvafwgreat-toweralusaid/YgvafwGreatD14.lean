import Derived.Test.YgvafwGreatD13
import Derived.Test.YgvafwGreatY2
set_option maxRecDepth 100000
set_option maxHeartbeats 4000000
set_option linter.unusedVariables false
set_option linter.unusedSimpArgs false
-- v2
namespace Go.Proofs.YgvafwGreat
open Go.HL Go.Proofs

theorem bit255 {a : Nat} (ha : a < 115792089237316195423570985008687907853269984665640564039457584007913129639936) : a.testBit 255 = decide (57896044618658097711785492504343953926634992332820282019728792003956564819968 ≤ a) := by
  rw [Nat.testBit_eq_decide_div_mod_eq, show (2 : Nat) ^ 255 = 57896044618658097711785492504343953926634992332820282019728792003956564819968 from rfl]
  rw [decide_eq_decide]
  omega
theorem neg_spec {S : St} {a : Nat} (ha : a < 115792089237316195423570985008687907853269984665640564039457584007913129639936) : CallG Hvaf.prog 386 #[wordV a] S fun r S' => S = S' ∧ r = .bool (a.testBit 255) := by
  rw [bit255 ha]; exact Uneg_spec ha
theorem sgn_eq (a : Nat) (t : Bool) : (if t then (0 + 115792089237316195423570985008687907853269984665640564039457584007913129639936 - a) % 115792089237316195423570985008687907853269984665640564039457584007913129639936 else a) = sgn a t := by
  unfold sgn; rw [Nat.zero_add]
theorem sgn_lt {a : Nat} (ha : a < 115792089237316195423570985008687907853269984665640564039457584007913129639936) (t : Bool) : sgn a t < 115792089237316195423570985008687907853269984665640564039457584007913129639936 := by
  unfold sgn; split
  · exact Nat.mod_lt _ (by decide)
  · exact ha
theorem signed_spec {S : St} {a : Nat} (ha : a < 115792089237316195423570985008687907853269984665640564039457584007913129639936) (t : Bool) : CallG Hvaf.prog 385 #[wordV a, .bool t] S fun r S' => S = S' ∧ r = wordV (sgn a t) := by
  rw [← sgn_eq]; exact Usigned_spec ha t
theorem mag_lt {a : Nat} (ha : a < 115792089237316195423570985008687907853269984665640564039457584007913129639936) : mag a < 115792089237316195423570985008687907853269984665640564039457584007913129639936 := sgn_lt ha _
/-- u256.SDiv -/
theorem USDiv_spec {S : St} {a b : Nat} (ha : a < 115792089237316195423570985008687907853269984665640564039457584007913129639936) (hb : b < 115792089237316195423570985008687907853269984665640564039457584007913129639936) :
    CallG Hvaf.prog 284 #[wordV a, wordV b] S fun r S' => S = S' ∧ r = wordV (sgn (mag a / mag b) (a.testBit 255 != b.testBit 255)) := by
  have hq : Hid (mag a / mag b < 115792089237316195423570985008687907853269984665640564039457584007913129639936) := ⟨Nat.lt_of_le_of_lt (Nat.div_le_self _ _) (mag_lt ha)⟩
  replace ha : Hid _ := ⟨ha⟩
  replace hb : Hid _ := ⟨hb⟩
  refine CallG.start (C := mkC Hvaf.prog) cok (args := [wordV a, wordV b]) Hvaf.func284 rfl Hvaf.ntmps284 (by simp) (by kernel_rfl) ?_
  intro b2 b3 b4
  repeat (first | refine SeqS.go cok ?_ | (refine QuG.keep ?_; first | refine QuG.lN cok 1 rfl rfl rfl rfl rfl (by first | exact Nat.le_of_ble_eq_true rfl | omega | (dsimp only; omega) | (simp only [addS_eq, mulS_eq]; omega)) ?_ | refine QuG.lN cok 2 rfl rfl rfl rfl rfl (by first | exact Nat.le_of_ble_eq_true rfl | omega | (dsimp only; omega) | (simp only [addS_eq, mulS_eq]; omega)) ?_) | refine W.drawI 1 cok [0, 0, 2, 7, 0, 0, 47, 127, 255, 0, 1023] [0, 1, 4, 5, 2, 3, 6, 7, 8, 9, 10] [0, 1, 4, 5] (by kernel_rfl) (by kernel_rfl) ?_)
  refine (neg_spec ha.out).mono ?_
  rintro r _ - ⟨rfl, rfl⟩
  repeat (first | (refine still_in ?_; first | refine still_nil ?_ | refine still_drop (by decide) ?_ | (refine still_keep (by decide) rfl ?_ ?_; first | exact QuV.lN cok 1 rfl rfl rfl rfl rfl (by first | exact Nat.le_of_ble_eq_true rfl | omega | (dsimp only; omega) | (simp only [addS_eq, mulS_eq]; omega)) rfl | exact QuV.lN cok 2 rfl rfl rfl rfl rfl (by first | exact Nat.le_of_ble_eq_true rfl | omega | (dsimp only; omega) | (simp only [addS_eq, mulS_eq]; omega)) rfl)))
  refine (signed_spec ha.out _).mono ?_
  rintro r _ - ⟨rfl, rfl⟩
  repeat (first | (refine still_in ?_; first | refine still_nil ?_ | refine still_drop (by decide) ?_ | (refine still_keep (by decide) rfl ?_ ?_; first | exact QuV.lN cok 1 rfl rfl rfl rfl rfl (by first | exact Nat.le_of_ble_eq_true rfl | omega | (dsimp only; omega) | (simp only [addS_eq, mulS_eq]; omega)) rfl)))
  refine (neg_spec hb.out).mono ?_
  rintro r _ - ⟨rfl, rfl⟩
  repeat (first | (refine still_in ?_; first | refine still_nil ?_ | refine still_drop (by decide) ?_ | (refine still_keep (by decide) rfl ?_ ?_; first | exact QuV.lN cok 1 rfl rfl rfl rfl rfl (by first | exact Nat.le_of_ble_eq_true rfl | omega | (dsimp only; omega) | (simp only [addS_eq, mulS_eq]; omega)) rfl)))
  refine (signed_spec hb.out _).mono ?_
  rintro r _ - ⟨rfl, rfl⟩
  repeat (first | (refine still_in ?_; first | refine still_nil ?_ | refine still_drop (by decide) ?_))
  refine (UDiv_spec (mag_lt ha.out) (mag_lt hb.out)).mono ?_
  rintro r _ - ⟨rfl, rfl⟩
  repeat (first | (refine still_in ?_; first | refine still_nil ?_ | refine still_drop (by decide) ?_))
  intro b5
  repeat (first | refine SeqS.go cok ?_ | (refine QuG.keep ?_; first | refine QuG.lN cok 0 rfl rfl rfl rfl rfl (by first | exact Nat.le_of_ble_eq_true rfl | omega | (dsimp only; omega) | (simp only [addS_eq, mulS_eq]; omega)) ?_ | refine QuG.lN cok 2 rfl rfl rfl rfl rfl (by first | exact Nat.le_of_ble_eq_true rfl | omega | (dsimp only; omega) | (simp only [addS_eq, mulS_eq]; omega)) ?_ | refine QuG.lN cok 3 rfl rfl rfl rfl rfl (by first | exact Nat.le_of_ble_eq_true rfl | omega | (dsimp only; omega) | (simp only [addS_eq, mulS_eq]; omega)) ?_) | (refine still_in ?_; first | refine still_drop (by decide) ?_) | (refine OpG.keep ?_; first | refine OpG.sL cok 0 rfl rfl rfl rfl rfl rfl rfl (by first | exact Nat.le_of_ble_eq_true rfl | omega | (dsimp only; omega) | (simp only [addS_eq, mulS_eq]; omega)) ?_) | refine W.drawI 2 cok [0, 0, 2, 0, 14, 30, 63, 127] [0, 1, 3, 2, 4, 5, 6, 7] [0, 1, 3] (by kernel_rfl) (by kernel_rfl) ?_)
  refine (neg_spec ha.out).mono ?_
  rintro r _ - ⟨rfl, rfl⟩
  repeat (first | (refine still_in ?_; first | refine still_nil ?_ | refine still_drop (by decide) ?_ | (refine still_keep (by decide) rfl ?_ ?_; first | exact QuV.lN cok 0 rfl rfl rfl rfl rfl (by first | exact Nat.le_of_ble_eq_true rfl | omega | (dsimp only; omega) | (simp only [addS_eq, mulS_eq]; omega)) rfl | exact QuV.lN cok 2 rfl rfl rfl rfl rfl (by first | exact Nat.le_of_ble_eq_true rfl | omega | (dsimp only; omega) | (simp only [addS_eq, mulS_eq]; omega)) rfl)))
  refine (neg_spec hb.out).mono ?_
  rintro r _ - ⟨rfl, rfl⟩
  repeat (first | (refine still_in ?_; first | refine still_nil ?_ | refine still_drop (by decide) ?_ | (refine still_keep (by decide) rfl ?_ ?_; first | exact QuV.lN cok 0 rfl rfl rfl rfl rfl (by first | exact Nat.le_of_ble_eq_true rfl | omega | (dsimp only; omega) | (simp only [addS_eq, mulS_eq]; omega)) rfl)) | (refine QuG.keep ?_; first | refine QuG.neB cok rfl rfl rfl rfl ?_))
  refine (signed_spec hq.out _).mono ?_
  rintro r _ - ⟨rfl, rfl⟩
  repeat (first | refine SeqS.go cok ?_ | (refine still_in ?_; first | refine still_nil ?_ | refine still_drop (by decide) ?_) | (refine LdG.keep ?_; first | refine LdG.lN cok 1 rfl rfl rfl rfl rfl (by first | exact Nat.le_of_ble_eq_true rfl | omega | (dsimp only; omega) | (simp only [addS_eq, mulS_eq]; omega)) ?_) | (refine OpG.keep ?_; first | refine OpG.sL cok 1 rfl rfl rfl rfl rfl rfl rfl (by first | exact Nat.le_of_ble_eq_true rfl | omega | (dsimp only; omega) | (simp only [addS_eq, mulS_eq]; omega)) ?_))
  exact Fin.drop S.G [_, _, _, _] ⟨rfl, rfl⟩
/-- u256.SMod -/
theorem USMod_spec {S : St} {a b : Nat} (ha : a < 115792089237316195423570985008687907853269984665640564039457584007913129639936) (hb : b < 115792089237316195423570985008687907853269984665640564039457584007913129639936) :
    CallG Hvaf.prog 286 #[wordV a, wordV b] S fun r S' => S = S' ∧ r = wordV (sgn (modZ (mag a) (mag b)) (a.testBit 255)) := by
  have hq : Hid (modZ (mag a) (mag b) < 115792089237316195423570985008687907853269984665640564039457584007913129639936) := ⟨modZ_lt (mag_lt hb) (by decide)⟩
  replace ha : Hid _ := ⟨ha⟩
  replace hb : Hid _ := ⟨hb⟩
  refine CallG.start (C := mkC Hvaf.prog) cok (args := [wordV a, wordV b]) Hvaf.func286 rfl Hvaf.ntmps286 (by simp) (by kernel_rfl) ?_
  intro b2 b3 b4
  repeat (first | refine SeqS.go cok ?_ | (refine QuG.keep ?_; first | refine QuG.lN cok 1 rfl rfl rfl rfl rfl (by first | exact Nat.le_of_ble_eq_true rfl | omega | (dsimp only; omega) | (simp only [addS_eq, mulS_eq]; omega)) ?_ | refine QuG.lN cok 2 rfl rfl rfl rfl rfl (by first | exact Nat.le_of_ble_eq_true rfl | omega | (dsimp only; omega) | (simp only [addS_eq, mulS_eq]; omega)) ?_) | refine W.drawI 1 cok [0, 0, 2, 7, 0, 0, 47, 127, 255, 0, 1023] [0, 1, 4, 5, 2, 3, 6, 7, 8, 9, 10] [0, 1, 4, 5] (by kernel_rfl) (by kernel_rfl) ?_)
  refine (neg_spec ha.out).mono ?_
  rintro r _ - ⟨rfl, rfl⟩
  repeat (first | (refine still_in ?_; first | refine still_nil ?_ | refine still_drop (by decide) ?_ | (refine still_keep (by decide) rfl ?_ ?_; first | exact QuV.lN cok 1 rfl rfl rfl rfl rfl (by first | exact Nat.le_of_ble_eq_true rfl | omega | (dsimp only; omega) | (simp only [addS_eq, mulS_eq]; omega)) rfl | exact QuV.lN cok 2 rfl rfl rfl rfl rfl (by first | exact Nat.le_of_ble_eq_true rfl | omega | (dsimp only; omega) | (simp only [addS_eq, mulS_eq]; omega)) rfl)))
  refine (signed_spec ha.out _).mono ?_
  rintro r _ - ⟨rfl, rfl⟩
  repeat (first | (refine still_in ?_; first | refine still_nil ?_ | refine still_drop (by decide) ?_ | (refine still_keep (by decide) rfl ?_ ?_; first | exact QuV.lN cok 1 rfl rfl rfl rfl rfl (by first | exact Nat.le_of_ble_eq_true rfl | omega | (dsimp only; omega) | (simp only [addS_eq, mulS_eq]; omega)) rfl)))
  refine (neg_spec hb.out).mono ?_
  rintro r _ - ⟨rfl, rfl⟩
  repeat (first | (refine still_in ?_; first | refine still_nil ?_ | refine still_drop (by decide) ?_ | (refine still_keep (by decide) rfl ?_ ?_; first | exact QuV.lN cok 1 rfl rfl rfl rfl rfl (by first | exact Nat.le_of_ble_eq_true rfl | omega | (dsimp only; omega) | (simp only [addS_eq, mulS_eq]; omega)) rfl)))
  refine (signed_spec hb.out _).mono ?_
  rintro r _ - ⟨rfl, rfl⟩
  repeat (first | (refine still_in ?_; first | refine still_nil ?_ | refine still_drop (by decide) ?_))
  refine (UMod_spec (mag_lt ha.out) (mag_lt hb.out)).mono ?_
  rintro r _ - ⟨rfl, rfl⟩
  repeat (first | (refine still_in ?_; first | refine still_nil ?_ | refine still_drop (by decide) ?_))
  intro b5
  repeat (first | refine SeqS.go cok ?_ | (refine QuG.keep ?_; first | refine QuG.lN cok 0 rfl rfl rfl rfl rfl (by first | exact Nat.le_of_ble_eq_true rfl | omega | (dsimp only; omega) | (simp only [addS_eq, mulS_eq]; omega)) ?_ | refine QuG.lN cok 3 rfl rfl rfl rfl rfl (by first | exact Nat.le_of_ble_eq_true rfl | omega | (dsimp only; omega) | (simp only [addS_eq, mulS_eq]; omega)) ?_) | (refine still_in ?_; first | refine still_drop (by decide) ?_) | (refine OpG.keep ?_; first | refine OpG.sL cok 0 rfl rfl rfl rfl rfl rfl rfl (by first | exact Nat.le_of_ble_eq_true rfl | omega | (dsimp only; omega) | (simp only [addS_eq, mulS_eq]; omega)) ?_) | refine W.drawI 2 cok [0, 0, 2, 7, 15] [0, 1, 2, 3, 4] [0, 1] (by kernel_rfl) (by kernel_rfl) ?_)
  refine (neg_spec ha.out).mono ?_
  rintro r _ - ⟨rfl, rfl⟩
  repeat (first | (refine still_in ?_; first | refine still_nil ?_ | refine still_drop (by decide) ?_ | (refine still_keep (by decide) rfl ?_ ?_; first | exact QuV.lN cok 0 rfl rfl rfl rfl rfl (by first | exact Nat.le_of_ble_eq_true rfl | omega | (dsimp only; omega) | (simp only [addS_eq, mulS_eq]; omega)) rfl)))
  refine (signed_spec hq.out _).mono ?_
  rintro r _ - ⟨rfl, rfl⟩
  repeat (first | refine SeqS.go cok ?_ | (refine still_in ?_; first | refine still_nil ?_ | refine still_drop (by decide) ?_) | (refine LdG.keep ?_; first | refine LdG.lN cok 1 rfl rfl rfl rfl rfl (by first | exact Nat.le_of_ble_eq_true rfl | omega | (dsimp only; omega) | (simp only [addS_eq, mulS_eq]; omega)) ?_) | (refine OpG.keep ?_; first | refine OpG.sL cok 1 rfl rfl rfl rfl rfl rfl rfl (by first | exact Nat.le_of_ble_eq_true rfl | omega | (dsimp only; omega) | (simp only [addS_eq, mulS_eq]; omega)) ?_))
  exact Fin.drop S.G [_, _, _, _] ⟨rfl, rfl⟩
theorem addmod_law {a b s0 s1 s2 s3 c : Nat} (e : (a + b) % 115792089237316195423570985008687907853269984665640564039457584007913129639936 = s0 + 18446744073709551616 * s1 + 340282366920938463463374607431768211456 * s2 + 6277101735386680763835789423207666416102355444464034512896 * s3) (hc : c = (a + b) / 115792089237316195423570985008687907853269984665640564039457584007913129639936) : lv [s0, s1, s2, s3, c, 0, 0, 0] = a + b := by
  rw [lv8]; omega
/-- u256.AddMod -/
theorem UAddMod_spec {S : St} {a b m : Nat} (ha : a < 115792089237316195423570985008687907853269984665640564039457584007913129639936) (hb : b < 115792089237316195423570985008687907853269984665640564039457584007913129639936) (hm : m < 115792089237316195423570985008687907853269984665640564039457584007913129639936) :
    CallG Hvaf.prog 289 #[wordV a, wordV b, wordV m] S fun r S' => S = S' ∧ r = wordV (modZ (a + b) m) := by
  obtain ⟨s0, s1, s2, s3, h0, h1, h2, h3, es, vs⟩ := word_cases (n := (a + b) % 115792089237316195423570985008687907853269984665640564039457584007913129639936) (Nat.mod_lt _ (by decide))
  have hadd := fun S => AddOver_spec (S := S) ha hb
  rw [vs] at hadd
  by_cases ho : 115792089237316195423570985008687907853269984665640564039457584007913129639936 ≤ a + b
  · have hl := addmod_law (c := 1) es.out (by omega)
    rw [decide_eq_true ho] at hadd
    replace ho : Hid _ := ⟨ho⟩
    replace ha : Hid _ := ⟨ha⟩
    replace hb : Hid _ := ⟨hb⟩
    replace hm : Hid _ := ⟨hm⟩
    refine CallG.start (C := mkC Hvaf.prog) cok (args := [wordV a, wordV b, wordV m]) Hvaf.func289 rfl Hvaf.ntmps289 (by simp) (by kernel_rfl) ?_
    intro b3 b4 b5 b6
    repeat (first | refine SeqS.go cok ?_ | (refine QuG.keep ?_; first | refine QuG.lN cok 2 rfl rfl rfl rfl rfl (by first | exact Nat.le_of_ble_eq_true rfl | omega | (dsimp only; omega) | (simp only [addS_eq, mulS_eq]; omega)) ?_ | refine QuG.lN cok 3 rfl rfl rfl rfl rfl (by first | exact Nat.le_of_ble_eq_true rfl | omega | (dsimp only; omega) | (simp only [addS_eq, mulS_eq]; omega)) ?_))
    refine (hadd _).mono ?_
    rintro r _ - ⟨rfl, rfl⟩
    intro b7
    repeat (first | refine SeqS.go cok ?_ | refine And.intro (fillOk_of (Eq.refl true)) ?_ | refine And.intro (by dsimp only; omega) ?_ | (refine NatS.keep ?_; first | with_reducible refine NatS.lit ?_) | (refine QuG.keep ?_; first | refine QuG.l1 cok 0 rfl rfl rfl rfl rfl (by first | exact Nat.le_of_ble_eq_true rfl | omega | (dsimp only; omega) | (simp only [addS_eq, mulS_eq]; omega)) ?_) | (refine OpG.keep ?_; first | refine OpG.sL cok 0 rfl rfl rfl rfl rfl rfl rfl (by first | exact Nat.le_of_ble_eq_true rfl | omega | (dsimp only; omega) | (simp only [addS_eq, mulS_eq]; omega)) ?_))
    intro b9
    repeat (first | refine SeqS.go cok ?_ | refine CondS.t rfl ?_ | refine And.intro (by dsimp only; omega) ?_ | (refine NatS.keep ?_; first | with_reducible refine NatS.lit ?_) | (refine QuG.keep ?_; first | refine QuG.lN cok 0 rfl rfl rfl rfl rfl (by first | exact Nat.le_of_ble_eq_true rfl | omega | (dsimp only; omega) | (simp only [addS_eq, mulS_eq]; omega)) ?_ | refine QuG.lN cok 3 rfl rfl rfl rfl rfl (by first | exact Nat.le_of_ble_eq_true rfl | omega | (dsimp only; omega) | (simp only [addS_eq, mulS_eq]; omega)) ?_) | (refine OpG.keep ?_; first | refine OpG.s1 cok 0 rfl rfl rfl rfl rfl (by first | exact Nat.le_of_ble_eq_true rfl | omega | (dsimp only; omega) | (simp only [addS_eq, mulS_eq]; omega)) rfl rfl ?_ | refine OpG.sL cok 0 rfl rfl rfl rfl rfl rfl rfl (by first | exact Nat.le_of_ble_eq_true rfl | omega | (dsimp only; omega) | (simp only [addS_eq, mulS_eq]; omega)) ?_))
    refine (URem512_spec (x0 := s0) (x1 := s1) (x2 := s2) (x3 := s3) (x4 := 1) (x5 := 0) (x6 := 0) (x7 := 0) (Lim8 h0 h1 h2 h3 (by decide) (by decide) (by decide) (by decide)) hl hm.out).mono ?_
    rintro r _ - ⟨rfl, p0, p1, p2, rfl⟩
    intro b10 b11
    repeat (first | refine SeqS.go cok ?_ | (refine QuG.keep ?_; first | refine QuG.lN cok 1 rfl rfl rfl rfl rfl (by first | exact Nat.le_of_ble_eq_true rfl | omega | (dsimp only; omega) | (simp only [addS_eq, mulS_eq]; omega)) ?_) | (refine LdG.keep ?_; first | refine LdG.lN cok 4 rfl rfl rfl rfl rfl (by first | exact Nat.le_of_ble_eq_true rfl | omega | (dsimp only; omega) | (simp only [addS_eq, mulS_eq]; omega)) ?_) | (refine OpG.keep ?_; first | refine OpG.sL cok 0 rfl rfl rfl rfl rfl rfl rfl (by first | exact Nat.le_of_ble_eq_true rfl | omega | (dsimp only; omega) | (simp only [addS_eq, mulS_eq]; omega)) ?_ | refine OpG.sL cok 1 rfl rfl rfl rfl rfl rfl rfl (by first | exact Nat.le_of_ble_eq_true rfl | omega | (dsimp only; omega) | (simp only [addS_eq, mulS_eq]; omega)) ?_ | refine OpG.sL cok 4 rfl rfl rfl rfl rfl rfl rfl (by first | exact Nat.le_of_ble_eq_true rfl | omega | (dsimp only; omega) | (simp only [addS_eq, mulS_eq]; omega)) ?_))
    exact Fin.drop S.G [_, _, _, _, _, _, _, _] ⟨rfl, rfl⟩
  · have hl := addmod_law (c := 0) es.out (by omega)
    rw [decide_eq_false ho] at hadd
    replace ho : Hid _ := ⟨ho⟩
    replace ha : Hid _ := ⟨ha⟩
    replace hb : Hid _ := ⟨hb⟩
    replace hm : Hid _ := ⟨hm⟩
    refine CallG.start (C := mkC Hvaf.prog) cok (args := [wordV a, wordV b, wordV m]) Hvaf.func289 rfl Hvaf.ntmps289 (by simp) (by kernel_rfl) ?_
    intro b3 b4 b5 b6
    repeat (first | refine SeqS.go cok ?_ | (refine QuG.keep ?_; first | refine QuG.lN cok 2 rfl rfl rfl rfl rfl (by first | exact Nat.le_of_ble_eq_true rfl | omega | (dsimp only; omega) | (simp only [addS_eq, mulS_eq]; omega)) ?_ | refine QuG.lN cok 3 rfl rfl rfl rfl rfl (by first | exact Nat.le_of_ble_eq_true rfl | omega | (dsimp only; omega) | (simp only [addS_eq, mulS_eq]; omega)) ?_))
    refine (hadd _).mono ?_
    rintro r _ - ⟨rfl, rfl⟩
    intro b7
    repeat (first | refine SeqS.go cok ?_ | refine And.intro (fillOk_of (Eq.refl true)) ?_ | refine And.intro (by dsimp only; omega) ?_ | (refine NatS.keep ?_; first | with_reducible refine NatS.lit ?_) | (refine QuG.keep ?_; first | refine QuG.l1 cok 0 rfl rfl rfl rfl rfl (by first | exact Nat.le_of_ble_eq_true rfl | omega | (dsimp only; omega) | (simp only [addS_eq, mulS_eq]; omega)) ?_) | (refine OpG.keep ?_; first | refine OpG.sL cok 0 rfl rfl rfl rfl rfl rfl rfl (by first | exact Nat.le_of_ble_eq_true rfl | omega | (dsimp only; omega) | (simp only [addS_eq, mulS_eq]; omega)) ?_))
    intro b9
    repeat (first | refine SeqS.go cok ?_ | refine CondS.f rfl ?_ | (refine QuG.keep ?_; first | refine QuG.lN cok 0 rfl rfl rfl rfl rfl (by first | exact Nat.le_of_ble_eq_true rfl | omega | (dsimp only; omega) | (simp only [addS_eq, mulS_eq]; omega)) ?_ | refine QuG.lN cok 3 rfl rfl rfl rfl rfl (by first | exact Nat.le_of_ble_eq_true rfl | omega | (dsimp only; omega) | (simp only [addS_eq, mulS_eq]; omega)) ?_) | (refine OpG.keep ?_; first | refine OpG.sL cok 0 rfl rfl rfl rfl rfl rfl rfl (by first | exact Nat.le_of_ble_eq_true rfl | omega | (dsimp only; omega) | (simp only [addS_eq, mulS_eq]; omega)) ?_))
    refine (URem512_spec (x0 := s0) (x1 := s1) (x2 := s2) (x3 := s3) (x4 := 0) (x5 := 0) (x6 := 0) (x7 := 0) (Lim8 h0 h1 h2 h3 (by decide) (by decide) (by decide) (by decide)) hl hm.out).mono ?_
    rintro r _ - ⟨rfl, p0, p1, p2, rfl⟩
    intro b10 b11
    repeat (first | refine SeqS.go cok ?_ | (refine QuG.keep ?_; first | refine QuG.lN cok 1 rfl rfl rfl rfl rfl (by first | exact Nat.le_of_ble_eq_true rfl | omega | (dsimp only; omega) | (simp only [addS_eq, mulS_eq]; omega)) ?_) | (refine LdG.keep ?_; first | refine LdG.lN cok 4 rfl rfl rfl rfl rfl (by first | exact Nat.le_of_ble_eq_true rfl | omega | (dsimp only; omega) | (simp only [addS_eq, mulS_eq]; omega)) ?_) | (refine OpG.keep ?_; first | refine OpG.sL cok 0 rfl rfl rfl rfl rfl rfl rfl (by first | exact Nat.le_of_ble_eq_true rfl | omega | (dsimp only; omega) | (simp only [addS_eq, mulS_eq]; omega)) ?_ | refine OpG.sL cok 1 rfl rfl rfl rfl rfl rfl rfl (by first | exact Nat.le_of_ble_eq_true rfl | omega | (dsimp only; omega) | (simp only [addS_eq, mulS_eq]; omega)) ?_ | refine OpG.sL cok 4 rfl rfl rfl rfl rfl rfl rfl (by first | exact Nat.le_of_ble_eq_true rfl | omega | (dsimp only; omega) | (simp only [addS_eq, mulS_eq]; omega)) ?_))
    exact Fin.drop S.G [_, _, _, _, _, _, _, _] ⟨rfl, rfl⟩
/-- u256.MulMod -/
theorem UMulMod_spec {S : St} {a b m : Nat} (ha : a < 115792089237316195423570985008687907853269984665640564039457584007913129639936) (hb : b < 115792089237316195423570985008687907853269984665640564039457584007913129639936) (hm : m < 115792089237316195423570985008687907853269984665640564039457584007913129639936) :
    CallG Hvaf.prog 290 #[wordV a, wordV b, wordV m] S fun r S' => S = S' ∧ r = wordV (modZ (a * b) m) := by
  replace ha : Hid _ := ⟨ha⟩
  replace hb : Hid _ := ⟨hb⟩
  replace hm : Hid _ := ⟨hm⟩
  refine CallG.start (C := mkC Hvaf.prog) cok (args := [wordV a, wordV b, wordV m]) Hvaf.func290 rfl Hvaf.ntmps290 (by simp) (by kernel_rfl) ?_
  intro b3 b4 b5 b6
  repeat (first | refine SeqS.go cok ?_ | (refine QuG.keep ?_; first | refine QuG.lN cok 1 rfl rfl rfl rfl rfl (by first | exact Nat.le_of_ble_eq_true rfl | omega | (dsimp only; omega) | (simp only [addS_eq, mulS_eq]; omega)) ?_ | refine QuG.lN cok 2 rfl rfl rfl rfl rfl (by first | exact Nat.le_of_ble_eq_true rfl | omega | (dsimp only; omega) | (simp only [addS_eq, mulS_eq]; omega)) ?_ | refine QuG.lN cok 3 rfl rfl rfl rfl rfl (by first | exact Nat.le_of_ble_eq_true rfl | omega | (dsimp only; omega) | (simp only [addS_eq, mulS_eq]; omega)) ?_) | refine W.drawI 1 cok [0, 0, 3, 0, 15, 31, 63, 63, 0, 0, 895, 2047] [0, 1, 3, 2, 4, 5, 6, 7, 8, 9, 10, 11] [0, 1, 3] (by kernel_rfl) (by kernel_rfl) ?_)
  refine (Mul512_spec ha.out hb.out).mono ?_
  rintro r _ - ⟨rfl, p0, p1, p2, p3, p4, p5, p6, p7, h0, h1, h2, h3, h4, h5, h6, h7, e, rfl⟩
  repeat (first | (refine still_in ?_; first | refine still_nil ?_ | refine still_drop (by decide) ?_ | (refine still_keep (by decide) rfl ?_ ?_; first | exact QuV.lN cok 1 rfl rfl rfl rfl rfl (by first | exact Nat.le_of_ble_eq_true rfl | omega | (dsimp only; omega) | (simp only [addS_eq, mulS_eq]; omega)) rfl)))
  refine (URem512_spec (n := a * b) (Lim8 h0 h1 h2 h3 h4 h5 h6 h7) (by rw [lv8]; exact e.out) hm.out).mono ?_
  rintro r _ - ⟨rfl, q0, q1, q2, rfl⟩
  repeat (first | (refine still_in ?_; first | refine still_nil ?_ | refine still_drop (by decide) ?_))
  intro b10 b11
  repeat (first | refine SeqS.go cok ?_ | (refine QuG.keep ?_; first | refine QuG.lN cok 1 rfl rfl rfl rfl rfl (by first | exact Nat.le_of_ble_eq_true rfl | omega | (dsimp only; omega) | (simp only [addS_eq, mulS_eq]; omega)) ?_) | (refine still_in ?_; first | refine still_nil ?_ | refine still_drop (by decide) ?_) | (refine LdG.keep ?_; first | refine LdG.lN cok 2 rfl rfl rfl rfl rfl (by first | exact Nat.le_of_ble_eq_true rfl | omega | (dsimp only; omega) | (simp only [addS_eq, mulS_eq]; omega)) ?_) | (refine OpG.keep ?_; first | refine OpG.sL cok 0 rfl rfl rfl rfl rfl rfl rfl (by first | exact Nat.le_of_ble_eq_true rfl | omega | (dsimp only; omega) | (simp only [addS_eq, mulS_eq]; omega)) ?_ | refine OpG.sL cok 1 rfl rfl rfl rfl rfl rfl rfl (by first | exact Nat.le_of_ble_eq_true rfl | omega | (dsimp only; omega) | (simp only [addS_eq, mulS_eq]; omega)) ?_ | refine OpG.sL cok 2 rfl rfl rfl rfl rfl rfl rfl (by first | exact Nat.le_of_ble_eq_true rfl | omega | (dsimp only; omega) | (simp only [addS_eq, mulS_eq]; omega)) ?_))
  exact Fin.drop S.G [_, _, _, _, _, _] ⟨rfl, rfl⟩
end Go.Proofs.YgvafwGreat
