import Derived.Test.YgvafwGreatU9
set_option maxRecDepth 100000
set_option maxHeartbeats 4000000
set_option linter.unusedVariables false
set_option linter.unusedSimpArgs false
-- v2
namespace Go.Proofs.YgvafwGreat
open Go.HL Go.Proofs

def WV8 (a b c d e f g h : Nat) : Value := .agg #[.int .u64 (a : Nat), .int .u64 (b : Nat), .int .u64 (c : Nat), .int .u64 (d : Nat), .int .u64 (e : Nat), .int .u64 (f : Nat), .int .u64 (g : Nat), .int .u64 (h : Nat)]
theorem mul512_law {a0 a1 a2 a3 B t00 t01 t02 t03 t04 t10 t11 t12 t13 t14 t20 t21 t22 t23 t24 t30 t31 t32 t33 t34 : Nat}
    (r0 : t00 + 18446744073709551616 * t01 + 340282366920938463463374607431768211456 * t02 + 6277101735386680763835789423207666416102355444464034512896 * t03 + 115792089237316195423570985008687907853269984665640564039457584007913129639936 * t04 = a0 * B + (0 + 18446744073709551616 * 0 + 340282366920938463463374607431768211456 * 0 + 6277101735386680763835789423207666416102355444464034512896 * 0))
    (r1 : t10 + 18446744073709551616 * t11 + 340282366920938463463374607431768211456 * t12 + 6277101735386680763835789423207666416102355444464034512896 * t13 + 115792089237316195423570985008687907853269984665640564039457584007913129639936 * t14 = a1 * B + (t01 + 18446744073709551616 * t02 + 340282366920938463463374607431768211456 * t03 + 6277101735386680763835789423207666416102355444464034512896 * t04))
    (r2 : t20 + 18446744073709551616 * t21 + 340282366920938463463374607431768211456 * t22 + 6277101735386680763835789423207666416102355444464034512896 * t23 + 115792089237316195423570985008687907853269984665640564039457584007913129639936 * t24 = a2 * B + (t11 + 18446744073709551616 * t12 + 340282366920938463463374607431768211456 * t13 + 6277101735386680763835789423207666416102355444464034512896 * t14))
    (r3 : t30 + 18446744073709551616 * t31 + 340282366920938463463374607431768211456 * t32 + 6277101735386680763835789423207666416102355444464034512896 * t33 + 115792089237316195423570985008687907853269984665640564039457584007913129639936 * t34 = a3 * B + (t21 + 18446744073709551616 * t22 + 340282366920938463463374607431768211456 * t23 + 6277101735386680763835789423207666416102355444464034512896 * t24)) :
    t00 + 18446744073709551616 * t10 + 340282366920938463463374607431768211456 * t20 + 6277101735386680763835789423207666416102355444464034512896 * t30 + 115792089237316195423570985008687907853269984665640564039457584007913129639936 * (t31 + 18446744073709551616 * t32 + 340282366920938463463374607431768211456 * t33 + 6277101735386680763835789423207666416102355444464034512896 * t34) = (a0 + 18446744073709551616 * a1 + 340282366920938463463374607431768211456 * a2 + 6277101735386680763835789423207666416102355444464034512896 * a3) * B := by
  rw [mul4]
  generalize a0 * B = p0 at *
  generalize a1 * B = p1 at *
  generalize a2 * B = p2 at *
  generalize a3 * B = p3 at *
  omega
/-- u256.Mul512 -/
theorem Mul512_spec {S : St} {a b : Nat} (ha : a < 115792089237316195423570985008687907853269984665640564039457584007913129639936) (hb : b < 115792089237316195423570985008687907853269984665640564039457584007913129639936) :
    CallG Hvaf.prog 251 #[wordV a, wordV b] S fun r S' => S = S' ∧ ∃ p0 p1 p2 p3 p4 p5 p6 p7 : Nat, p0 < 18446744073709551616 ∧ p1 < 18446744073709551616 ∧ p2 < 18446744073709551616 ∧ p3 < 18446744073709551616 ∧ p4 < 18446744073709551616 ∧ p5 < 18446744073709551616 ∧ p6 < 18446744073709551616 ∧ p7 < 18446744073709551616 ∧
      Hid (p0 + 18446744073709551616 * p1 + 340282366920938463463374607431768211456 * p2 + 6277101735386680763835789423207666416102355444464034512896 * p3 + 115792089237316195423570985008687907853269984665640564039457584007913129639936 * (p4 + 18446744073709551616 * p5 + 340282366920938463463374607431768211456 * p6 + 6277101735386680763835789423207666416102355444464034512896 * p7) = a * b) ∧ r = WV8 p0 p1 p2 p3 p4 p5 p6 p7 := by
  obtain ⟨a0, a1, a2, a3, h0, h1, h2, h3, ea, va⟩ := word_cases ha
  obtain ⟨b0, b1, b2, b3, g0, g1, g2, g3, eb, vb⟩ := word_cases hb
  rw [va, vb]
  clear va ha vb hb
  refine CallG.start (C := mkC Hvaf.prog) cok (args := [WV a0 a1 a2 a3, WV b0 b1 b2 b3]) Hvaf.func251 rfl Hvaf.ntmps251 (by simp) (by kernel_rfl) ?_
  intro xa xb xr
  repeat (first | refine SeqS.go cok ?_ | refine And.intro (by dsimp only; omega) ?_ | (refine NatS.keep ?_; first | with_reducible refine NatS.lit ?_) | (refine QuG.keep ?_; first | refine QuG.l1 cok 2 rfl rfl rfl rfl rfl (by first | exact Nat.le_of_ble_eq_true rfl | omega | (dsimp only; omega) | (simp only [addS_eq, mulS_eq]; omega)) ?_))
  refine (row_spec (s0 := 0) (s1 := 0) (s2 := 0) (s3 := 0) h0 g0 g1 g2 g3 (by omega) (by omega) (by omega) (by omega)).mono ?_
  rintro r _ - ⟨rfl, t00, t01, t02, t03, t04, u0, u1, u2, u3, u4, r0, rfl⟩
  repeat (first | refine SeqS.go cok ?_ | refine And.intro (by dsimp only; omega) ?_ | (refine NatS.keep ?_; first | with_reducible refine NatS.lit ?_) | (refine QuG.keep ?_; first | refine QuG.l1 cok 2 rfl rfl rfl rfl rfl (by first | exact Nat.le_of_ble_eq_true rfl | omega | (dsimp only; omega) | (simp only [addS_eq, mulS_eq]; omega)) ?_))
  refine (row_spec h1 g0 g1 g2 g3 u1 u2 u3 u4).mono ?_
  rintro r _ - ⟨rfl, t10, t11, t12, t13, t14, v0, v1, v2, v3, v4, r1, rfl⟩
  repeat (first | refine SeqS.go cok ?_ | refine And.intro (by dsimp only; omega) ?_ | (refine NatS.keep ?_; first | with_reducible refine NatS.lit ?_) | (refine QuG.keep ?_; first | refine QuG.l1 cok 2 rfl rfl rfl rfl rfl (by first | exact Nat.le_of_ble_eq_true rfl | omega | (dsimp only; omega) | (simp only [addS_eq, mulS_eq]; omega)) ?_))
  refine (row_spec h2 g0 g1 g2 g3 v1 v2 v3 v4).mono ?_
  rintro r _ - ⟨rfl, t20, t21, t22, t23, t24, w0, w1, w2, w3, w4, r2, rfl⟩
  repeat (first | refine SeqS.go cok ?_ | refine And.intro (by dsimp only; omega) ?_ | (refine NatS.keep ?_; first | with_reducible refine NatS.lit ?_) | (refine QuG.keep ?_; first | refine QuG.l1 cok 2 rfl rfl rfl rfl rfl (by first | exact Nat.le_of_ble_eq_true rfl | omega | (dsimp only; omega) | (simp only [addS_eq, mulS_eq]; omega)) ?_))
  refine (row_spec h3 g0 g1 g2 g3 w1 w2 w3 w4).mono ?_
  rintro r _ - ⟨rfl, t30, t31, t32, t33, t34, z0, z1, z2, z3, z4, r3, rfl⟩
  repeat (first | refine SeqS.go cok ?_ | refine And.intro (fillOk_of (Eq.refl true)) ?_ | (refine LdG.keep ?_; first | refine LdG.lN cok 0 rfl rfl rfl rfl rfl (by first | exact Nat.le_of_ble_eq_true rfl | omega | (dsimp only; omega) | (simp only [addS_eq, mulS_eq]; omega)) ?_) | (refine OpG.keep ?_; first | refine OpG.sL cok 0 rfl rfl rfl rfl rfl rfl rfl (by first | exact Nat.le_of_ble_eq_true rfl | omega | (dsimp only; omega) | (simp only [addS_eq, mulS_eq]; omega)) ?_))
  obtain ⟨rfl⟩ := ea
  obtain ⟨rfl⟩ := eb
  exact Fin.drop S.G [_, _, _] ⟨rfl, t00, t10, t20, t30, t31, t32, t33, t34, u0, v0, w0, z0, z1, z2, z3, z4, ⟨mul512_law r0.out r1.out r2.out r3.out⟩, rfl⟩

theorem mulover_law {p0 p1 p2 p3 p4 p5 p6 p7 P : Nat} (h0 : p0 < 18446744073709551616) (h1 : p1 < 18446744073709551616) (h2 : p2 < 18446744073709551616) (h3 : p3 < 18446744073709551616) (e : p0 + 18446744073709551616 * p1 + 340282366920938463463374607431768211456 * p2 + 6277101735386680763835789423207666416102355444464034512896 * p3 + 115792089237316195423570985008687907853269984665640564039457584007913129639936 * (p4 + 18446744073709551616 * p5 + 340282366920938463463374607431768211456 * p6 + 6277101735386680763835789423207666416102355444464034512896 * p7) = P) :
    P % 115792089237316195423570985008687907853269984665640564039457584007913129639936 = p0 + 18446744073709551616 * p1 + 340282366920938463463374607431768211456 * p2 + 6277101735386680763835789423207666416102355444464034512896 * p3 ∧ ((p4 ||| p5 ||| p6 ||| p7) ≠ 0 ↔ 115792089237316195423570985008687907853269984665640564039457584007913129639936 ≤ P) := by
  have hl := lt4 h0 h1 h2 h3
  refine ⟨(modW e.symm hl).symm, ?_⟩
  rw [ne_eq, or4_zero]
  generalize p0 + 18446744073709551616 * p1 + 340282366920938463463374607431768211456 * p2 + 6277101735386680763835789423207666416102355444464034512896 * p3 = L at *
  omega
/-- u256.MulOver -/
theorem MulOver_spec {S : St} {a b : Nat} (ha : a < 115792089237316195423570985008687907853269984665640564039457584007913129639936) (hb : b < 115792089237316195423570985008687907853269984665640564039457584007913129639936) :
    CallG Hvaf.prog 173 #[wordV a, wordV b] S fun r S' => S = S' ∧ r = .tuple #[wordV (a * b % 115792089237316195423570985008687907853269984665640564039457584007913129639936), .bool (decide (115792089237316195423570985008687907853269984665640564039457584007913129639936 ≤ a * b))] := by
  replace ha : Hid _ := ⟨ha⟩
  replace hb : Hid _ := ⟨hb⟩
  refine CallG.start (C := mkC Hvaf.prog) cok (args := [wordV a, wordV b]) Hvaf.func173 rfl Hvaf.ntmps173 (by simp) (by kernel_rfl) ?_
  intro xa xb xr
  repeat (first | refine SeqS.go cok ?_ | (refine QuG.keep ?_; first | refine QuG.lN cok 1 rfl rfl rfl rfl rfl (by first | exact Nat.le_of_ble_eq_true rfl | omega | (dsimp only; omega) | (simp only [addS_eq, mulS_eq]; omega)) ?_ | refine QuG.lN cok 2 rfl rfl rfl rfl rfl (by first | exact Nat.le_of_ble_eq_true rfl | omega | (dsimp only; omega) | (simp only [addS_eq, mulS_eq]; omega)) ?_))
  refine (Mul512_spec ha.out hb.out).mono ?_
  rintro r _ - ⟨rfl, p0, p1, p2, p3, p4, p5, p6, p7, h0, h1, h2, h3, h4, h5, h6, h7, e, rfl⟩
  skip
  intro xp
  repeat (first | refine SeqS.go cok ?_ | refine And.intro (Eq.refl true) ?_ | refine And.intro (by dsimp only; omega) ?_ | (refine NatS.keep ?_; first | with_reducible refine NatS.lit ?_) | (refine ValS.keep ?_; first | (with_reducible refine ValS.kU64 ?_; first | (with_reducible refine ValS.orFU64 ?_ ?_ (fun _ => ?_); omega; omega)) | with_reducible refine ValS.sl0 ?_) | (refine QuG.keep ?_; first | refine QuG.l1 cok 0 rfl rfl rfl rfl rfl (by first | exact Nat.le_of_ble_eq_true rfl | omega | (dsimp only; omega) | (simp only [addS_eq, mulS_eq]; omega)) ?_ | refine QuG.lN cok 0 rfl rfl rfl rfl rfl (by first | exact Nat.le_of_ble_eq_true rfl | omega | (dsimp only; omega) | (simp only [addS_eq, mulS_eq]; omega)) ?_) | (refine still_in ?_; first | refine still_drop (by decide) ?_ | (refine still_keep (by decide) rfl ?_ ?_; first | exact QuV.l1 cok 0 rfl rfl rfl rfl rfl (by first | exact Nat.le_of_ble_eq_true rfl | omega | (dsimp only; omega) | (simp only [addS_eq, mulS_eq]; omega)) rfl)) | (refine LdG.keep ?_; first | refine LdG.lN cok 1 rfl rfl rfl rfl rfl (by first | exact Nat.le_of_ble_eq_true rfl | omega | (dsimp only; omega) | (simp only [addS_eq, mulS_eq]; omega)) ?_) | (refine OpG.keep ?_; first | refine OpG.sL cok 0 rfl rfl rfl rfl rfl rfl rfl (by first | exact Nat.le_of_ble_eq_true rfl | omega | (dsimp only; omega) | (simp only [addS_eq, mulS_eq]; omega)) ?_ | refine OpG.sL cok 1 rfl rfl rfl rfl rfl rfl rfl (by first | exact Nat.le_of_ble_eq_true rfl | omega | (dsimp only; omega) | (simp only [addS_eq, mulS_eq]; omega)) ?_) | refine W.drawI 2 cok [0, 1, 3, 0, 8, 0, 32, 120, 0, 256, 1016, 0, 2048, 8184, 16376, 7, 65535] [0, 1, 2, 3, 4, 5, 6, 7, 8, 9, 10, 11, 12, 13, 14, 15, 16] [2, 4, 6, 9, 12] (by kernel_rfl) (by kernel_rfl) ?_)
  have kk := mulover_law h0 h1 h2 h3 e.out
  refine Fin.drop S.G [_, _, _, _] ⟨rfl, tWB rfl (WV_eq h0 h1 h2 h3 kk.1) ?_⟩
  rw [bne_nat, Bool.eq_iff_iff]; simp only [decide_eq_true_eq]; exact kk.2

theorem _root_.Go.HL.ValS.addR {a b : Nat} {q : Value → Prop} (h : ∀ s k, s < 18446744073709551616 → Hid (s + 18446744073709551616 * k = a + b) → q (.int .u64 (s : Nat))) : ValS (.int .u64 (IntKind.wrap .u64 ((a : Int) + (b : Int)))) q :=
  ValS.addWU64 (h _ ((a + b) / 18446744073709551616) (Nat.mod_lt _ (by omega)) ⟨by omega⟩)
theorem _root_.Go.HL.ValS.mulR {a b : Nat} {q : Value → Prop} (h : ∀ s k, s < 18446744073709551616 → Hid (s + 18446744073709551616 * k = a * b) → q (.int .u64 (s : Nat))) : ValS (.int .u64 (IntKind.wrap .u64 ((a : Int) * (b : Int)))) q :=
  ValS.mulWU64 (h _ (a * b / 18446744073709551616) (Nat.mod_lt _ (by omega)) ⟨by omega⟩)
theorem mul44 (a0 a1 a2 a3 b0 b1 b2 b3 : Nat) : (a0 + 18446744073709551616 * a1 + 340282366920938463463374607431768211456 * a2 + 6277101735386680763835789423207666416102355444464034512896 * a3) * (b0 + 18446744073709551616 * b1 + 340282366920938463463374607431768211456 * b2 + 6277101735386680763835789423207666416102355444464034512896 * b3) =
    (a0 * b0 + 18446744073709551616 * (a0 * b1) + 340282366920938463463374607431768211456 * (a0 * b2) + 6277101735386680763835789423207666416102355444464034512896 * (a0 * b3)) + 18446744073709551616 * (a1 * b0 + 18446744073709551616 * (a1 * b1) + 340282366920938463463374607431768211456 * (a1 * b2) + 6277101735386680763835789423207666416102355444464034512896 * (a1 * b3)) + 340282366920938463463374607431768211456 * (a2 * b0 + 18446744073709551616 * (a2 * b1) + 340282366920938463463374607431768211456 * (a2 * b2) + 6277101735386680763835789423207666416102355444464034512896 * (a2 * b3)) + 6277101735386680763835789423207666416102355444464034512896 * (a3 * b0 + 18446744073709551616 * (a3 * b1) + 340282366920938463463374607431768211456 * (a3 * b2) + 6277101735386680763835789423207666416102355444464034512896 * (a3 * b3)) := by
  rw [mul4, row_mul a0, row_mul a1, row_mul a2, row_mul a3]
end Go.Proofs.YgvafwGreat
