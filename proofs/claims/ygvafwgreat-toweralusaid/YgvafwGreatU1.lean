import Derived.Test.YgvafwGreatNum3
set_option maxRecDepth 100000
set_option maxHeartbeats 4000000
set_option linter.unusedVariables false
set_option linter.unusedSimpArgs false
-- v2
namespace Go.Proofs.YgvafwGreat
open Go.HL Go.Proofs

/-- A word of four limbs. -/
def WV (a b c d : Nat) : Value := .agg #[.int .u64 (a : Nat), .int .u64 (b : Nat), .int .u64 (c : Nat), .int .u64 (d : Nat)]
/-- A number below 2^256 as a word. -/
def wordV (n : Nat) : Value := WV (n % 18446744073709551616) (n / 18446744073709551616 % 18446744073709551616) (n / 340282366920938463463374607431768211456 % 18446744073709551616) (n / 6277101735386680763835789423207666416102355444464034512896 % 18446744073709551616)
/-- A fact that omega does not see. -/
structure Hid (p : Prop) : Prop where
  out : p
theorem word_cases {n : Nat} (h : n < 115792089237316195423570985008687907853269984665640564039457584007913129639936) : ∃ a b c d, a < 18446744073709551616 ∧ b < 18446744073709551616 ∧ c < 18446744073709551616 ∧ d < 18446744073709551616 ∧ Hid (n = a + 18446744073709551616 * b + 340282366920938463463374607431768211456 * c + 6277101735386680763835789423207666416102355444464034512896 * d) ∧ wordV n = WV a b c d := by
  refine ⟨_, _, _, _, Nat.mod_lt n (by omega), Nat.mod_lt (n / 18446744073709551616) (by omega), Nat.mod_lt (n / 340282366920938463463374607431768211456) (by omega), Nat.mod_lt (n / 6277101735386680763835789423207666416102355444464034512896) (by omega), ⟨?_⟩, rfl⟩
  omega
theorem WV_eq {a b c d n : Nat} (ha : a < 18446744073709551616) (hb : b < 18446744073709551616) (hc : c < 18446744073709551616) (hd : d < 18446744073709551616) (hn : n = a + 18446744073709551616 * b + 340282366920938463463374607431768211456 * c + 6277101735386680763835789423207666416102355444464034512896 * d) : WV a b c d = wordV n := by
  unfold wordV
  rw [show n % 18446744073709551616 = a by omega, show n / 18446744073709551616 % 18446744073709551616 = b by omega, show n / 340282366920938463463374607431768211456 % 18446744073709551616 = c by omega, show n / 6277101735386680763835789423207666416102355444464034512896 % 18446744073709551616 = d by omega]

theorem tWB {a b c d n : Nat} {t t' : Bool} {v : Value} (h : v = .tuple #[WV a b c d, .bool t]) (hw : WV a b c d = wordV n) (ht : t = t') : v = .tuple #[wordV n, .bool t'] := by rw [h, hw, ht]
theorem tW {a b c d n : Nat} {v : Value} (h : v = WV a b c d) (hw : WV a b c d = wordV n) : v = wordV n := by rw [h, hw]
theorem bne_nat (c : Nat) : (((c : Nat) : Int) != 0) = decide (c ≠ 0) := by
  rw [Bool.eq_iff_iff]; simp

theorem lt4 {a b c d : Nat} (ha : a < 18446744073709551616) (hb : b < 18446744073709551616) (hc : c < 18446744073709551616) (hd : d < 18446744073709551616) : a + 18446744073709551616 * b + 340282366920938463463374607431768211456 * c + 6277101735386680763835789423207666416102355444464034512896 * d < 115792089237316195423570985008687907853269984665640564039457584007913129639936 := by omega
theorem add_key {a b x k : Nat} (h : a + b = x + 115792089237316195423570985008687907853269984665640564039457584007913129639936 * k) (hk : k ≤ 1) (hx : x < 115792089237316195423570985008687907853269984665640564039457584007913129639936) : (a + b) % 115792089237316195423570985008687907853269984665640564039457584007913129639936 = x ∧ (k ≠ 0 ↔ 115792089237316195423570985008687907853269984665640564039457584007913129639936 ≤ a + b) := by
  have : k = 0 ∨ k = 1 := by omega
  rcases this with rfl | rfl <;> omega
theorem sub_key {a b x k : Nat} (h : x + b = a + 115792089237316195423570985008687907853269984665640564039457584007913129639936 * k) (hk : k ≤ 1) (hx : x < 115792089237316195423570985008687907853269984665640564039457584007913129639936) (ha : a < 115792089237316195423570985008687907853269984665640564039457584007913129639936) (hb : b < 115792089237316195423570985008687907853269984665640564039457584007913129639936) : (a + 115792089237316195423570985008687907853269984665640564039457584007913129639936 - b) % 115792089237316195423570985008687907853269984665640564039457584007913129639936 = x ∧ (k ≠ 0 ↔ a < b) := by
  have : k = 0 ∨ k = 1 := by omega
  rcases this with rfl | rfl <;> omega
theorem add4 {a0 a1 a2 a3 b0 b1 b2 b3 s0 s1 s2 s3 c0 c1 c2 c3 : Nat} (e0 : s0 + 18446744073709551616 * c0 = a0 + b0 + 0) (e1 : s1 + 18446744073709551616 * c1 = a1 + b1 + c0) (e2 : s2 + 18446744073709551616 * c2 = a2 + b2 + c1) (e3 : s3 + 18446744073709551616 * c3 = a3 + b3 + c2) :
    (a0 + 18446744073709551616 * a1 + 340282366920938463463374607431768211456 * a2 + 6277101735386680763835789423207666416102355444464034512896 * a3) + (b0 + 18446744073709551616 * b1 + 340282366920938463463374607431768211456 * b2 + 6277101735386680763835789423207666416102355444464034512896 * b3) = s0 + 18446744073709551616 * s1 + 340282366920938463463374607431768211456 * s2 + 6277101735386680763835789423207666416102355444464034512896 * s3 + 115792089237316195423570985008687907853269984665640564039457584007913129639936 * c3 := by omega
theorem sub4 {a0 a1 a2 a3 b0 b1 b2 b3 s0 s1 s2 s3 c0 c1 c2 c3 : Nat} (e0 : s0 + b0 + 0 = a0 + 18446744073709551616 * c0) (e1 : s1 + b1 + c0 = a1 + 18446744073709551616 * c1) (e2 : s2 + b2 + c1 = a2 + 18446744073709551616 * c2) (e3 : s3 + b3 + c2 = a3 + 18446744073709551616 * c3) :
    (s0 + 18446744073709551616 * s1 + 340282366920938463463374607431768211456 * s2 + 6277101735386680763835789423207666416102355444464034512896 * s3) + (b0 + 18446744073709551616 * b1 + 340282366920938463463374607431768211456 * b2 + 6277101735386680763835789423207666416102355444464034512896 * b3) = (a0 + 18446744073709551616 * a1 + 340282366920938463463374607431768211456 * a2 + 6277101735386680763835789423207666416102355444464034512896 * a3) + 115792089237316195423570985008687907853269984665640564039457584007913129639936 * c3 := by omega
theorem Add64_lin {S : St} {x y c : Nat} (hx : x < 18446744073709551616) (hy : y < 18446744073709551616) (hc : c ≤ 1) :
    CallG Hvaf.prog 179 #[.int .u64 (x : Nat), .int .u64 (y : Nat), .int .u64 (c : Nat)] S fun r S' => S = S' ∧ ∃ s k : Nat, s < 18446744073709551616 ∧ k ≤ 1 ∧ s + 18446744073709551616 * k = x + y + c ∧ r = .tuple #[.int .u64 (s : Nat), .int .u64 (k : Nat)] := by
  refine (Add64_spec hc).mono ?_
  rintro r _ - ⟨rfl, rfl⟩
  exact ⟨rfl, _, _, by omega, by omega, by omega, rfl⟩
theorem Sub64_lin {S : St} {x y c : Nat} (hx : x < 18446744073709551616) (hy : y < 18446744073709551616) (hc : c ≤ 1) :
    CallG Hvaf.prog 256 #[.int .u64 (x : Nat), .int .u64 (y : Nat), .int .u64 (c : Nat)] S fun r S' => S = S' ∧ ∃ s k : Nat, s < 18446744073709551616 ∧ k ≤ 1 ∧ s + y + c = x + 18446744073709551616 * k ∧ r = .tuple #[.int .u64 (s : Nat), .int .u64 (k : Nat)] := by
  refine (Sub64_spec hc).mono ?_
  rintro r _ - ⟨rfl, rfl⟩
  refine ⟨rfl, _, _, by omega, ?_, ?_, rfl⟩
  · split <;> omega
  · split <;> omega

/-- u256.AddOver -/
theorem AddOver_spec {S : St} {a b : Nat} (ha : a < 115792089237316195423570985008687907853269984665640564039457584007913129639936) (hb : b < 115792089237316195423570985008687907853269984665640564039457584007913129639936) :
    CallG Hvaf.prog 174 #[wordV a, wordV b] S fun r S' => S = S' ∧ r = .tuple #[wordV ((a + b) % 115792089237316195423570985008687907853269984665640564039457584007913129639936), .bool (decide (115792089237316195423570985008687907853269984665640564039457584007913129639936 ≤ a + b))] := by
  obtain ⟨a0, a1, a2, a3, h0, h1, h2, h3, ea, va⟩ := word_cases ha
  obtain ⟨b0, b1, b2, b3, g0, g1, g2, g3, eb, vb⟩ := word_cases hb
  rw [va, vb]
  replace ha : Hid _ := ⟨ha⟩
  replace hb : Hid _ := ⟨hb⟩
  refine CallG.start (C := mkC Hvaf.prog) cok (args := [WV a0 a1 a2 a3, WV b0 b1 b2 b3]) Hvaf.func174 rfl Hvaf.ntmps174 (by simp) (by kernel_rfl) ?_
  intro xa xb xr
  repeat (first | refine SeqS.go cok ?_ | refine And.intro (by dsimp only; omega) ?_ | (refine NatS.keep ?_; first | with_reducible refine NatS.lit ?_) | (refine QuG.keep ?_; first | refine QuG.l1 cok 1 rfl rfl rfl rfl rfl (by first | exact Nat.le_of_ble_eq_true rfl | omega | (dsimp only; omega) | (simp only [addS_eq, mulS_eq]; omega)) ?_ | refine QuG.l1 cok 2 rfl rfl rfl rfl rfl (by first | exact Nat.le_of_ble_eq_true rfl | omega | (dsimp only; omega) | (simp only [addS_eq, mulS_eq]; omega)) ?_))
  refine (Add64_lin (c := 0) (by omega) (by omega) (by omega)).mono ?_
  rintro r _ - ⟨rfl, s0, c0, p0, q0, e0, rfl⟩
  repeat (first | refine SeqS.go cok ?_ | refine And.intro (by dsimp only; omega) ?_ | (refine NatS.keep ?_; first | with_reducible refine NatS.lit ?_) | (refine QuG.keep ?_; first | refine QuG.l1 cok 1 rfl rfl rfl rfl rfl (by first | exact Nat.le_of_ble_eq_true rfl | omega | (dsimp only; omega) | (simp only [addS_eq, mulS_eq]; omega)) ?_ | refine QuG.l1 cok 2 rfl rfl rfl rfl rfl (by first | exact Nat.le_of_ble_eq_true rfl | omega | (dsimp only; omega) | (simp only [addS_eq, mulS_eq]; omega)) ?_))
  refine (Add64_lin (by omega) (by omega) (by omega)).mono ?_
  rintro r _ - ⟨rfl, s1, c1, p1, q1, e1, rfl⟩
  repeat (first | refine SeqS.go cok ?_ | refine And.intro (by dsimp only; omega) ?_ | (refine NatS.keep ?_; first | with_reducible refine NatS.lit ?_) | (refine QuG.keep ?_; first | refine QuG.l1 cok 1 rfl rfl rfl rfl rfl (by first | exact Nat.le_of_ble_eq_true rfl | omega | (dsimp only; omega) | (simp only [addS_eq, mulS_eq]; omega)) ?_ | refine QuG.l1 cok 2 rfl rfl rfl rfl rfl (by first | exact Nat.le_of_ble_eq_true rfl | omega | (dsimp only; omega) | (simp only [addS_eq, mulS_eq]; omega)) ?_))
  refine (Add64_lin (by omega) (by omega) (by omega)).mono ?_
  rintro r _ - ⟨rfl, s2, c2, p2, q2, e2, rfl⟩
  repeat (first | refine SeqS.go cok ?_ | refine And.intro (by dsimp only; omega) ?_ | (refine NatS.keep ?_; first | with_reducible refine NatS.lit ?_) | (refine QuG.keep ?_; first | refine QuG.l1 cok 1 rfl rfl rfl rfl rfl (by first | exact Nat.le_of_ble_eq_true rfl | omega | (dsimp only; omega) | (simp only [addS_eq, mulS_eq]; omega)) ?_ | refine QuG.l1 cok 2 rfl rfl rfl rfl rfl (by first | exact Nat.le_of_ble_eq_true rfl | omega | (dsimp only; omega) | (simp only [addS_eq, mulS_eq]; omega)) ?_))
  refine (Add64_lin (by omega) (by omega) (by omega)).mono ?_
  rintro r _ - ⟨rfl, s3, c3, p3, q3, e3, rfl⟩
  repeat (first | refine SeqS.go cok ?_ | refine And.intro (fillOk_of (Eq.refl true)) ?_ | (refine LdG.keep ?_; first | refine LdG.lN cok 0 rfl rfl rfl rfl rfl (by first | exact Nat.le_of_ble_eq_true rfl | omega | (dsimp only; omega) | (simp only [addS_eq, mulS_eq]; omega)) ?_) | (refine OpG.keep ?_; first | refine OpG.sL cok 0 rfl rfl rfl rfl rfl rfl rfl (by first | exact Nat.le_of_ble_eq_true rfl | omega | (dsimp only; omega) | (simp only [addS_eq, mulS_eq]; omega)) ?_))
  obtain ⟨rfl⟩ := ea
  obtain ⟨rfl⟩ := eb
  clear va vb
  have hX := lt4 p0 p1 p2 p3
  have kk := add_key (add4 e0 e1 e2 e3) q3 hX
  refine Fin.drop S.G [_, _, _] ⟨rfl, tWB rfl (WV_eq p0 p1 p2 p3 kk.1) ?_⟩
  rw [bne_nat, Bool.eq_iff_iff]; simp only [decide_eq_true_eq]; exact kk.2

/-- u256.SubUnder -/
theorem SubUnder_spec {S : St} {a b : Nat} (ha : a < 115792089237316195423570985008687907853269984665640564039457584007913129639936) (hb : b < 115792089237316195423570985008687907853269984665640564039457584007913129639936) :
    CallG Hvaf.prog 181 #[wordV a, wordV b] S fun r S' => S = S' ∧ r = .tuple #[wordV ((a + 115792089237316195423570985008687907853269984665640564039457584007913129639936 - b) % 115792089237316195423570985008687907853269984665640564039457584007913129639936), .bool (decide (a < b))] := by
  obtain ⟨a0, a1, a2, a3, h0, h1, h2, h3, ea, va⟩ := word_cases ha
  obtain ⟨b0, b1, b2, b3, g0, g1, g2, g3, eb, vb⟩ := word_cases hb
  rw [va, vb]
  replace ha : Hid _ := ⟨ha⟩
  replace hb : Hid _ := ⟨hb⟩
  refine CallG.start (C := mkC Hvaf.prog) cok (args := [WV a0 a1 a2 a3, WV b0 b1 b2 b3]) Hvaf.func181 rfl Hvaf.ntmps181 (by simp) (by kernel_rfl) ?_
  intro xa xb xr
  repeat (first | refine SeqS.go cok ?_ | refine And.intro (by dsimp only; omega) ?_ | (refine NatS.keep ?_; first | with_reducible refine NatS.lit ?_) | (refine QuG.keep ?_; first | refine QuG.l1 cok 1 rfl rfl rfl rfl rfl (by first | exact Nat.le_of_ble_eq_true rfl | omega | (dsimp only; omega) | (simp only [addS_eq, mulS_eq]; omega)) ?_ | refine QuG.l1 cok 2 rfl rfl rfl rfl rfl (by first | exact Nat.le_of_ble_eq_true rfl | omega | (dsimp only; omega) | (simp only [addS_eq, mulS_eq]; omega)) ?_))
  refine (Sub64_lin (c := 0) (by omega) (by omega) (by omega)).mono ?_
  rintro r _ - ⟨rfl, s0, c0, p0, q0, e0, rfl⟩
  repeat (first | refine SeqS.go cok ?_ | refine And.intro (by dsimp only; omega) ?_ | (refine NatS.keep ?_; first | with_reducible refine NatS.lit ?_) | (refine QuG.keep ?_; first | refine QuG.l1 cok 1 rfl rfl rfl rfl rfl (by first | exact Nat.le_of_ble_eq_true rfl | omega | (dsimp only; omega) | (simp only [addS_eq, mulS_eq]; omega)) ?_ | refine QuG.l1 cok 2 rfl rfl rfl rfl rfl (by first | exact Nat.le_of_ble_eq_true rfl | omega | (dsimp only; omega) | (simp only [addS_eq, mulS_eq]; omega)) ?_))
  refine (Sub64_lin (by omega) (by omega) (by omega)).mono ?_
  rintro r _ - ⟨rfl, s1, c1, p1, q1, e1, rfl⟩
  repeat (first | refine SeqS.go cok ?_ | refine And.intro (by dsimp only; omega) ?_ | (refine NatS.keep ?_; first | with_reducible refine NatS.lit ?_) | (refine QuG.keep ?_; first | refine QuG.l1 cok 1 rfl rfl rfl rfl rfl (by first | exact Nat.le_of_ble_eq_true rfl | omega | (dsimp only; omega) | (simp only [addS_eq, mulS_eq]; omega)) ?_ | refine QuG.l1 cok 2 rfl rfl rfl rfl rfl (by first | exact Nat.le_of_ble_eq_true rfl | omega | (dsimp only; omega) | (simp only [addS_eq, mulS_eq]; omega)) ?_))
  refine (Sub64_lin (by omega) (by omega) (by omega)).mono ?_
  rintro r _ - ⟨rfl, s2, c2, p2, q2, e2, rfl⟩
  repeat (first | refine SeqS.go cok ?_ | refine And.intro (by dsimp only; omega) ?_ | (refine NatS.keep ?_; first | with_reducible refine NatS.lit ?_) | (refine QuG.keep ?_; first | refine QuG.l1 cok 1 rfl rfl rfl rfl rfl (by first | exact Nat.le_of_ble_eq_true rfl | omega | (dsimp only; omega) | (simp only [addS_eq, mulS_eq]; omega)) ?_ | refine QuG.l1 cok 2 rfl rfl rfl rfl rfl (by first | exact Nat.le_of_ble_eq_true rfl | omega | (dsimp only; omega) | (simp only [addS_eq, mulS_eq]; omega)) ?_))
  refine (Sub64_lin (by omega) (by omega) (by omega)).mono ?_
  rintro r _ - ⟨rfl, s3, c3, p3, q3, e3, rfl⟩
  repeat (first | refine SeqS.go cok ?_ | refine And.intro (fillOk_of (Eq.refl true)) ?_ | (refine LdG.keep ?_; first | refine LdG.lN cok 0 rfl rfl rfl rfl rfl (by first | exact Nat.le_of_ble_eq_true rfl | omega | (dsimp only; omega) | (simp only [addS_eq, mulS_eq]; omega)) ?_) | (refine OpG.keep ?_; first | refine OpG.sL cok 0 rfl rfl rfl rfl rfl rfl rfl (by first | exact Nat.le_of_ble_eq_true rfl | omega | (dsimp only; omega) | (simp only [addS_eq, mulS_eq]; omega)) ?_))
  obtain ⟨rfl⟩ := ea
  obtain ⟨rfl⟩ := eb
  clear va vb
  have hX := lt4 p0 p1 p2 p3
  have kk := sub_key (sub4 e0 e1 e2 e3) q3 hX ha.out hb.out
  refine Fin.drop S.G [_, _, _] ⟨rfl, tWB rfl (WV_eq p0 p1 p2 p3 kk.1) ?_⟩
  rw [bne_nat, Bool.eq_iff_iff]; simp only [decide_eq_true_eq]; exact kk.2

end Go.Proofs.YgvafwGreat
