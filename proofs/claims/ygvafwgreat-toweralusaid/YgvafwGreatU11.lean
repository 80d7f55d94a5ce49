import Derived.Test.YgvafwGreatU10
set_option maxRecDepth 100000
set_option maxHeartbeats 4000000
set_option linter.unusedVariables false
set_option linter.unusedSimpArgs false
-- v2
namespace Go.Proofs.YgvafwGreat
open Go.HL Go.Proofs

theorem mul_law {H1 H2 H3 H4 H5 L1 L2 L3 L4 L5 P1 P1a P1b P2a P2b P2c P2d a0 a1 a2 a3 b0 b1 b2 b3 c1 c2 c3 c4 c5 c6 ku1 ku10 ku11 ku12 ku13 ku14 ku2 ku3 ku4 ku5 ku6 ku7 ku8 ku9 p0 u1 u10 u11 u12 u13 u14 u2 u3 u4 u5 u6 u7 u8 u9 : Nat} (ep0 : p0 + 18446744073709551616 * P1 = a0 * b0) (eL1 : L1 + 18446744073709551616 * H1 = a0 * b1) (eL2 : L2 + 18446744073709551616 * H2 = a0 * b2) (eP1a : P1a + 18446744073709551616 * c1 = P1 + L1 + 0) (eP2a : P2a + 18446744073709551616 * c2 = H1 + L2 + c1) (eu1 : u1 + 18446744073709551616 * ku1 = a0 * b3) (eu2 : u2 + 18446744073709551616 * ku2 = H2 + u1) (eu3 : u3 + 18446744073709551616 * ku3 = u2 + c2) (eL3 : L3 + 18446744073709551616 * H3 = a1 * b0) (eL4 : L4 + 18446744073709551616 * H4 = a1 * b1) (eP1b : P1b + 18446744073709551616 * c3 = P1a + L3 + 0) (eP2b : P2b + 18446744073709551616 * c4 = P2a + L4 + c3) (eu4 : u4 + 18446744073709551616 * ku4 = a1 * b2) (eu5 : u5 + 18446744073709551616 * ku5 = H4 + u4) (eu6 : u6 + 18446744073709551616 * ku6 = u5 + c4) (eu7 : u7 + 18446744073709551616 * ku7 = u3 + u6) (eP2c : P2c + 18446744073709551616 * c5 = P2b + H3 + 0) (eu8 : u8 + 18446744073709551616 * ku8 = u7 + c5) (eL5 : L5 + 18446744073709551616 * H5 = a2 * b0) (eP2d : P2d + 18446744073709551616 * c6 = P2c + L5 + 0) (eu9 : u9 + 18446744073709551616 * ku9 = a2 * b1) (eu10 : u10 + 18446744073709551616 * ku10 = H5 + u9) (eu11 : u11 + 18446744073709551616 * ku11 = u10 + c6) (eu12 : u12 + 18446744073709551616 * ku12 = a3 * b0) (eu13 : u13 + 18446744073709551616 * ku13 = u11 + u12) (eu14 : u14 + 18446744073709551616 * ku14 = u8 + u13) :
    (a0 + 18446744073709551616 * a1 + 340282366920938463463374607431768211456 * a2 + 6277101735386680763835789423207666416102355444464034512896 * a3) * (b0 + 18446744073709551616 * b1 + 340282366920938463463374607431768211456 * b2 + 6277101735386680763835789423207666416102355444464034512896 * b3) = (p0 + 18446744073709551616 * P1b + 340282366920938463463374607431768211456 * P2d + 6277101735386680763835789423207666416102355444464034512896 * u14) + 115792089237316195423570985008687907853269984665640564039457584007913129639936 * ((ku1 + ku2 + ku3 + ku4 + ku5 + ku6 + ku7 + ku8 + ku9 + ku10 + ku11 + ku12 + ku13 + ku14) + a1 * b3 + a2 * b2 + a3 * b1 + 18446744073709551616 * (a2 * b3 + a3 * b2) + 340282366920938463463374607431768211456 * (a3 * b3)) := by
  rw [mul44]
  generalize a0 * b0 = z00 at *
  generalize a0 * b1 = z01 at *
  generalize a0 * b2 = z02 at *
  generalize a0 * b3 = z03 at *
  generalize a1 * b0 = z10 at *
  generalize a1 * b1 = z11 at *
  generalize a1 * b2 = z12 at *
  generalize a1 * b3 = z13 at *
  generalize a2 * b0 = z20 at *
  generalize a2 * b1 = z21 at *
  generalize a2 * b2 = z22 at *
  generalize a2 * b3 = z23 at *
  generalize a3 * b0 = z30 at *
  generalize a3 * b1 = z31 at *
  generalize a3 * b2 = z32 at *
  generalize a3 * b3 = z33 at *
  omega

/-- u256.Mul -/
theorem UMul_spec {S : St} {a b : Nat} (ha : a < 115792089237316195423570985008687907853269984665640564039457584007913129639936) (hb : b < 115792089237316195423570985008687907853269984665640564039457584007913129639936) :
    CallG Hvaf.prog 105 #[wordV a, wordV b] S fun r S' => S = S' ∧ r = wordV (a * b % 115792089237316195423570985008687907853269984665640564039457584007913129639936) := by
  obtain ⟨a0, a1, a2, a3, h0, h1, h2, h3, ea, va⟩ := word_cases ha
  obtain ⟨b0, b1, b2, b3, g0, g1, g2, g3, eb, vb⟩ := word_cases hb
  rw [va, vb]
  clear va ha vb hb
  refine CallG.start (C := mkC Hvaf.prog) cok (args := [WV a0 a1 a2 a3, WV b0 b1 b2 b3]) Hvaf.func105 rfl Hvaf.ntmps105 (by simp) (by kernel_rfl) ?_
  intro xa xb xr
  repeat (first | refine SeqS.go cok ?_ | refine And.intro (by dsimp only; omega) ?_ | (refine NatS.keep ?_; first | with_reducible refine NatS.lit ?_) | (refine QuG.keep ?_; first | refine QuG.l1 cok 1 rfl rfl rfl rfl rfl (by first | exact Nat.le_of_ble_eq_true rfl | omega | (dsimp only; omega) | (simp only [addS_eq, mulS_eq]; omega)) ?_ | refine QuG.l1 cok 2 rfl rfl rfl rfl rfl (by first | exact Nat.le_of_ble_eq_true rfl | omega | (dsimp only; omega) | (simp only [addS_eq, mulS_eq]; omega)) ?_))
  refine (Mul64_h h0 g0).mono ?_
  rintro r _ - ⟨rfl, P1, p0, zp0, zP1, ep0, rfl⟩
  repeat (first | refine SeqS.go cok ?_ | refine And.intro (by dsimp only; omega) ?_ | (refine NatS.keep ?_; first | with_reducible refine NatS.lit ?_) | (refine QuG.keep ?_; first | refine QuG.l1 cok 1 rfl rfl rfl rfl rfl (by first | exact Nat.le_of_ble_eq_true rfl | omega | (dsimp only; omega) | (simp only [addS_eq, mulS_eq]; omega)) ?_ | refine QuG.l1 cok 2 rfl rfl rfl rfl rfl (by first | exact Nat.le_of_ble_eq_true rfl | omega | (dsimp only; omega) | (simp only [addS_eq, mulS_eq]; omega)) ?_))
  refine (Mul64_h h0 g1).mono ?_
  rintro r _ - ⟨rfl, H1, L1, zL1, zH1, eL1, rfl⟩
  repeat (first | refine SeqS.go cok ?_ | refine And.intro (by dsimp only; omega) ?_ | (refine NatS.keep ?_; first | with_reducible refine NatS.lit ?_) | (refine QuG.keep ?_; first | refine QuG.l1 cok 1 rfl rfl rfl rfl rfl (by first | exact Nat.le_of_ble_eq_true rfl | omega | (dsimp only; omega) | (simp only [addS_eq, mulS_eq]; omega)) ?_ | refine QuG.l1 cok 2 rfl rfl rfl rfl rfl (by first | exact Nat.le_of_ble_eq_true rfl | omega | (dsimp only; omega) | (simp only [addS_eq, mulS_eq]; omega)) ?_))
  refine (Mul64_h h0 g2).mono ?_
  rintro r _ - ⟨rfl, H2, L2, zL2, zH2, eL2, rfl⟩
  repeat (first | refine SeqS.go cok ?_)
  refine (Add64_h (c := 0) (by omega) (by omega) (by omega)).mono ?_
  rintro r _ - ⟨rfl, P1a, c1, zP1a, zc1, eP1a, rfl⟩
  repeat (first | refine SeqS.go cok ?_)
  refine (Add64_h (by omega) (by omega) (by omega)).mono ?_
  rintro r _ - ⟨rfl, P2a, c2, zP2a, zc2, eP2a, rfl⟩
  repeat (first | refine SeqS.go cok ?_ | refine And.intro (by dsimp only; omega) ?_ | (refine NatS.keep ?_; first | with_reducible refine NatS.lit ?_) | (refine QuG.keep ?_; first | refine QuG.l1 cok 1 rfl rfl rfl rfl rfl (by first | exact Nat.le_of_ble_eq_true rfl | omega | (dsimp only; omega) | (simp only [addS_eq, mulS_eq]; omega)) ?_ | refine QuG.l1 cok 2 rfl rfl rfl rfl rfl (by first | exact Nat.le_of_ble_eq_true rfl | omega | (dsimp only; omega) | (simp only [addS_eq, mulS_eq]; omega)) ?_))
  refine ValS.mulR ?_
  intro u1 ku1 zu1 eu1
  skip
  refine ValS.addR ?_
  intro u2 ku2 zu2 eu2
  skip
  refine ValS.addR ?_
  intro u3 ku3 zu3 eu3
  repeat (first | refine SeqS.go cok ?_ | refine And.intro (by dsimp only; omega) ?_ | (refine NatS.keep ?_; first | with_reducible refine NatS.lit ?_) | (refine QuG.keep ?_; first | refine QuG.l1 cok 1 rfl rfl rfl rfl rfl (by first | exact Nat.le_of_ble_eq_true rfl | omega | (dsimp only; omega) | (simp only [addS_eq, mulS_eq]; omega)) ?_ | refine QuG.l1 cok 2 rfl rfl rfl rfl rfl (by first | exact Nat.le_of_ble_eq_true rfl | omega | (dsimp only; omega) | (simp only [addS_eq, mulS_eq]; omega)) ?_))
  refine (Mul64_h h1 g0).mono ?_
  rintro r _ - ⟨rfl, H3, L3, zL3, zH3, eL3, rfl⟩
  repeat (first | refine SeqS.go cok ?_ | refine And.intro (by dsimp only; omega) ?_ | (refine NatS.keep ?_; first | with_reducible refine NatS.lit ?_) | (refine QuG.keep ?_; first | refine QuG.l1 cok 1 rfl rfl rfl rfl rfl (by first | exact Nat.le_of_ble_eq_true rfl | omega | (dsimp only; omega) | (simp only [addS_eq, mulS_eq]; omega)) ?_ | refine QuG.l1 cok 2 rfl rfl rfl rfl rfl (by first | exact Nat.le_of_ble_eq_true rfl | omega | (dsimp only; omega) | (simp only [addS_eq, mulS_eq]; omega)) ?_))
  refine (Mul64_h h1 g1).mono ?_
  rintro r _ - ⟨rfl, H4, L4, zL4, zH4, eL4, rfl⟩
  repeat (first | refine SeqS.go cok ?_)
  refine (Add64_h (c := 0) (by omega) (by omega) (by omega)).mono ?_
  rintro r _ - ⟨rfl, P1b, c3, zP1b, zc3, eP1b, rfl⟩
  repeat (first | refine SeqS.go cok ?_)
  refine (Add64_h (by omega) (by omega) (by omega)).mono ?_
  rintro r _ - ⟨rfl, P2b, c4, zP2b, zc4, eP2b, rfl⟩
  repeat (first | refine SeqS.go cok ?_ | refine And.intro (by dsimp only; omega) ?_ | (refine NatS.keep ?_; first | with_reducible refine NatS.lit ?_) | (refine QuG.keep ?_; first | refine QuG.l1 cok 1 rfl rfl rfl rfl rfl (by first | exact Nat.le_of_ble_eq_true rfl | omega | (dsimp only; omega) | (simp only [addS_eq, mulS_eq]; omega)) ?_ | refine QuG.l1 cok 2 rfl rfl rfl rfl rfl (by first | exact Nat.le_of_ble_eq_true rfl | omega | (dsimp only; omega) | (simp only [addS_eq, mulS_eq]; omega)) ?_))
  refine ValS.mulR ?_
  intro u4 ku4 zu4 eu4
  skip
  refine ValS.addR ?_
  intro u5 ku5 zu5 eu5
  skip
  refine ValS.addR ?_
  intro u6 ku6 zu6 eu6
  skip
  refine ValS.addR ?_
  intro u7 ku7 zu7 eu7
  repeat (first | refine SeqS.go cok ?_)
  refine (Add64_h (c := 0) (by omega) (by omega) (by omega)).mono ?_
  rintro r _ - ⟨rfl, P2c, c5, zP2c, zc5, eP2c, rfl⟩
  repeat (first | refine SeqS.go cok ?_)
  refine ValS.addR ?_
  intro u8 ku8 zu8 eu8
  repeat (first | refine SeqS.go cok ?_ | refine And.intro (by dsimp only; omega) ?_ | (refine NatS.keep ?_; first | with_reducible refine NatS.lit ?_) | (refine QuG.keep ?_; first | refine QuG.l1 cok 1 rfl rfl rfl rfl rfl (by first | exact Nat.le_of_ble_eq_true rfl | omega | (dsimp only; omega) | (simp only [addS_eq, mulS_eq]; omega)) ?_ | refine QuG.l1 cok 2 rfl rfl rfl rfl rfl (by first | exact Nat.le_of_ble_eq_true rfl | omega | (dsimp only; omega) | (simp only [addS_eq, mulS_eq]; omega)) ?_))
  refine (Mul64_h h2 g0).mono ?_
  rintro r _ - ⟨rfl, H5, L5, zL5, zH5, eL5, rfl⟩
  repeat (first | refine SeqS.go cok ?_)
  refine (Add64_h (c := 0) (by omega) (by omega) (by omega)).mono ?_
  rintro r _ - ⟨rfl, P2d, c6, zP2d, zc6, eP2d, rfl⟩
  repeat (first | refine SeqS.go cok ?_ | refine And.intro (by dsimp only; omega) ?_ | (refine NatS.keep ?_; first | with_reducible refine NatS.lit ?_) | (refine QuG.keep ?_; first | refine QuG.l1 cok 1 rfl rfl rfl rfl rfl (by first | exact Nat.le_of_ble_eq_true rfl | omega | (dsimp only; omega) | (simp only [addS_eq, mulS_eq]; omega)) ?_ | refine QuG.l1 cok 2 rfl rfl rfl rfl rfl (by first | exact Nat.le_of_ble_eq_true rfl | omega | (dsimp only; omega) | (simp only [addS_eq, mulS_eq]; omega)) ?_))
  refine ValS.mulR ?_
  intro u9 ku9 zu9 eu9
  skip
  refine ValS.addR ?_
  intro u10 ku10 zu10 eu10
  skip
  refine ValS.addR ?_
  intro u11 ku11 zu11 eu11
  repeat (first | refine And.intro (by dsimp only; omega) ?_ | (refine NatS.keep ?_; first | with_reducible refine NatS.lit ?_) | (refine QuG.keep ?_; first | refine QuG.l1 cok 1 rfl rfl rfl rfl rfl (by first | exact Nat.le_of_ble_eq_true rfl | omega | (dsimp only; omega) | (simp only [addS_eq, mulS_eq]; omega)) ?_ | refine QuG.l1 cok 2 rfl rfl rfl rfl rfl (by first | exact Nat.le_of_ble_eq_true rfl | omega | (dsimp only; omega) | (simp only [addS_eq, mulS_eq]; omega)) ?_))
  refine ValS.mulR ?_
  intro u12 ku12 zu12 eu12
  skip
  refine ValS.addR ?_
  intro u13 ku13 zu13 eu13
  skip
  refine ValS.addR ?_
  intro u14 ku14 zu14 eu14
  repeat (first | refine SeqS.go cok ?_ | refine And.intro (fillOk_of (Eq.refl true)) ?_ | (refine LdG.keep ?_; first | refine LdG.lN cok 0 rfl rfl rfl rfl rfl (by first | exact Nat.le_of_ble_eq_true rfl | omega | (dsimp only; omega) | (simp only [addS_eq, mulS_eq]; omega)) ?_) | (refine OpG.keep ?_; first | refine OpG.sL cok 0 rfl rfl rfl rfl rfl rfl rfl (by first | exact Nat.le_of_ble_eq_true rfl | omega | (dsimp only; omega) | (simp only [addS_eq, mulS_eq]; omega)) ?_))
  obtain ⟨rfl⟩ := ea
  obtain ⟨rfl⟩ := eb
  refine Fin.drop S.G [_, _, _] ⟨rfl, tW rfl (WV_eq zp0 zP1b zP2d zu14 (modW (mul_law ep0.out eL1.out eL2.out eP1a.out eP2a.out eu1.out eu2.out eu3.out eL3.out eL4.out eP1b.out eP2b.out eu4.out eu5.out eu6.out eu7.out eP2c.out eu8.out eL5.out eP2d.out eu9.out eu10.out eu11.out eu12.out eu13.out eu14.out) (lt4 zp0 zP1b zP2d zu14)).symm)⟩
end Go.Proofs.YgvafwGreat
