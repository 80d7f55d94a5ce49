import Derived.Test.YgvafwGreatU11
set_option maxRecDepth 100000
set_option maxHeartbeats 4000000
set_option linter.unusedVariables false
set_option linter.unusedSimpArgs false
-- v2
namespace Go.Proofs.YgvafwGreat
open Go.HL Go.Proofs

theorem _root_.Go.HL.ValS.shlWE {a n c : Nat} {q : Value → Prop} (hs : (OfNat.ofNat n : Nat) ≤ 64) (hc : a * 2 ^ (OfNat.ofNat n : Nat) % 18446744073709551616 = c) (h : q (.int .u64 (c : Nat))) : ValS (.int .u64 (ishl .u64 (a : Int) (OfNat.ofNat n : Int))) q := ValS.shlWU64_L hs (by rw [hc]; exact h)
theorem named_lt {p : Prop} (x : Nat) (hx : x < 18446744073709551616) (h : ∀ D, Hid (D = x) → D < 18446744073709551616 → p) : p := h x ⟨rfl⟩ hx
theorem dbl_lt (x y : Nat) (hx : x < 18446744073709551616) (hy : y < 18446744073709551616) : x * 2 ^ 1 % 18446744073709551616 + y / 2 ^ 63 < 18446744073709551616 := by omega
theorem dbl_rel (x : Nat) (hx : x < 18446744073709551616) : x * 2 ^ 1 % 18446744073709551616 + 18446744073709551616 * (x / 2 ^ 63) = 2 * x := by omega
theorem dbl_rel2 {x y D : Nat} (h : D = x * 2 ^ 1 % 18446744073709551616 + y / 2 ^ 63) (hx : x < 18446744073709551616) : D + 18446744073709551616 * (x / 2 ^ 63) = 2 * x + y / 2 ^ 63 := by omega
theorem dbl_or (x y : Nat) (hx : x < 18446744073709551616) (hy : y < 18446744073709551616) : (x * 2 ^ 1 % 18446744073709551616) ||| (y / 2 ^ 63) = x * 2 ^ 1 % 18446744073709551616 + y / 2 ^ 63 := shl_or x (by omega) (by omega)
theorem sq_law {D1 D2 D3 H0 H1 H2 H3 L1 L2 L3 a0 a1 a2 a3 c1 c2 c3 f1 f2 f3 km3 kp3 ku1 ku2 ku3 ku4 ku5 m2 m3 p0 p1 p2 p3 u1 u2 u3 u4 u5 : Nat} (eL1 : L1 + 18446744073709551616 * H1 = a0 * a1) (eL2 : L2 + 18446744073709551616 * H2 = a0 * a2) (em2 : m2 + 18446744073709551616 * c1 = H1 + L2 + 0) (eu1 : u1 + 18446744073709551616 * ku1 = a0 * a3) (eu2 : u2 + 18446744073709551616 * ku2 = H2 + u1) (eu3 : u3 + 18446744073709551616 * ku3 = a1 * a2) (eu4 : u4 + 18446744073709551616 * ku4 = u2 + u3) (em3 : m3 + 18446744073709551616 * km3 = u4 + c1) (ep0 : p0 + 18446744073709551616 * H0 = a0 * a0) (eL3 : L3 + 18446744073709551616 * H3 = a1 * a1) (ep1 : p1 + 18446744073709551616 * c2 = H0 + D1 + 0) (ep2 : p2 + 18446744073709551616 * c3 = L3 + D2 + c2) (eu5 : u5 + 18446744073709551616 * ku5 = H3 + D3) (ep3 : p3 + 18446744073709551616 * kp3 = u5 + c3) (d1 : D1 + 18446744073709551616 * f1 = 2 * L1) (d2 : D2 + 18446744073709551616 * f2 = 2 * m2 + f1) (d3 : D3 + 18446744073709551616 * f3 = 2 * m3 + f2) :
    (a0 + 18446744073709551616 * a1 + 340282366920938463463374607431768211456 * a2 + 6277101735386680763835789423207666416102355444464034512896 * a3) * (a0 + 18446744073709551616 * a1 + 340282366920938463463374607431768211456 * a2 + 6277101735386680763835789423207666416102355444464034512896 * a3) = (p0 + 18446744073709551616 * p1 + 340282366920938463463374607431768211456 * p2 + 6277101735386680763835789423207666416102355444464034512896 * p3) + 115792089237316195423570985008687907853269984665640564039457584007913129639936 * (2 * (ku1 + ku2 + ku3 + ku4 + km3) + f3 + ku5 + kp3 + (a1 * a3 + a2 * a2 + a1 * a3) + 18446744073709551616 * (a2 * a3 + a2 * a3) + 340282366920938463463374607431768211456 * (a3 * a3)) := by
  rw [mul44, Nat.mul_comm a1 a0, Nat.mul_comm a2 a0, Nat.mul_comm a2 a1, Nat.mul_comm a3 a0, Nat.mul_comm a3 a1, Nat.mul_comm a3 a2]
  generalize a0 * a0 = z00 at *
  generalize a0 * a1 = z01 at *
  generalize a1 * a1 = z11 at *
  generalize a0 * a2 = z02 at *
  generalize a1 * a2 = z12 at *
  generalize a2 * a2 = z22 at *
  generalize a0 * a3 = z03 at *
  generalize a1 * a3 = z13 at *
  generalize a2 * a3 = z23 at *
  generalize a3 * a3 = z33 at *
  omega

/-- u256.square -/
theorem USq_spec {S : St} {a : Nat} (ha : a < 115792089237316195423570985008687907853269984665640564039457584007913129639936) :
    CallG Hvaf.prog 387 #[wordV a] S fun r S' => S = S' ∧ r = wordV (a * a % 115792089237316195423570985008687907853269984665640564039457584007913129639936) := by
  obtain ⟨a0, a1, a2, a3, h0, h1, h2, h3, ea, va⟩ := word_cases ha
  rw [va]
  clear va ha
  refine CallG.start (C := mkC Hvaf.prog) cok (args := [WV a0 a1 a2 a3]) Hvaf.func387 rfl Hvaf.ntmps387 (by simp) (by kernel_rfl) ?_
  intro xa xr
  repeat (first | refine SeqS.go cok ?_ | refine And.intro (by dsimp only; omega) ?_ | (refine NatS.keep ?_; first | with_reducible refine NatS.lit ?_) | (refine QuG.keep ?_; first | refine QuG.l1 cok 1 rfl rfl rfl rfl rfl (by first | exact Nat.le_of_ble_eq_true rfl | omega | (dsimp only; omega) | (simp only [addS_eq, mulS_eq]; omega)) ?_))
  refine (Mul64_h h0 h1).mono ?_
  rintro r _ - ⟨rfl, H1, L1, zL1, zH1, eL1, rfl⟩
  repeat (first | refine SeqS.go cok ?_ | refine And.intro (by dsimp only; omega) ?_ | (refine NatS.keep ?_; first | with_reducible refine NatS.lit ?_) | (refine QuG.keep ?_; first | refine QuG.l1 cok 1 rfl rfl rfl rfl rfl (by first | exact Nat.le_of_ble_eq_true rfl | omega | (dsimp only; omega) | (simp only [addS_eq, mulS_eq]; omega)) ?_))
  refine (Mul64_h h0 h2).mono ?_
  rintro r _ - ⟨rfl, H2, L2, zL2, zH2, eL2, rfl⟩
  repeat (first | refine SeqS.go cok ?_)
  refine (Add64_h (c := 0) (by omega) (by omega) (by omega)).mono ?_
  rintro r _ - ⟨rfl, m2, c1, zm2, zc1, em2, rfl⟩
  repeat (first | refine SeqS.go cok ?_ | refine And.intro (by dsimp only; omega) ?_ | (refine NatS.keep ?_; first | with_reducible refine NatS.lit ?_) | (refine QuG.keep ?_; first | refine QuG.l1 cok 1 rfl rfl rfl rfl rfl (by first | exact Nat.le_of_ble_eq_true rfl | omega | (dsimp only; omega) | (simp only [addS_eq, mulS_eq]; omega)) ?_))
  refine ValS.mulR ?_
  intro u1 ku1 zu1 eu1
  skip
  refine ValS.addR ?_
  intro u2 ku2 zu2 eu2
  repeat (first | refine And.intro (by dsimp only; omega) ?_ | (refine NatS.keep ?_; first | with_reducible refine NatS.lit ?_) | (refine QuG.keep ?_; first | refine QuG.l1 cok 1 rfl rfl rfl rfl rfl (by first | exact Nat.le_of_ble_eq_true rfl | omega | (dsimp only; omega) | (simp only [addS_eq, mulS_eq]; omega)) ?_))
  refine ValS.mulR ?_
  intro u3 ku3 zu3 eu3
  skip
  refine ValS.addR ?_
  intro u4 ku4 zu4 eu4
  skip
  refine ValS.addR ?_
  intro m3 km3 zm3 em3
  repeat (first | refine SeqS.go cok ?_ | refine And.intro (by dsimp only; omega) ?_ | (refine NatS.keep ?_; first | with_reducible refine NatS.lit ?_) | (refine QuG.keep ?_; first | refine QuG.l1 cok 1 rfl rfl rfl rfl rfl (by first | exact Nat.le_of_ble_eq_true rfl | omega | (dsimp only; omega) | (simp only [addS_eq, mulS_eq]; omega)) ?_))
  refine (Mul64_h h0 h0).mono ?_
  rintro r _ - ⟨rfl, H0, p0, zp0, zH0, ep0, rfl⟩
  repeat (first | refine SeqS.go cok ?_ | refine And.intro (by dsimp only; omega) ?_ | (refine NatS.keep ?_; first | with_reducible refine NatS.lit ?_) | (refine QuG.keep ?_; first | refine QuG.l1 cok 1 rfl rfl rfl rfl rfl (by first | exact Nat.le_of_ble_eq_true rfl | omega | (dsimp only; omega) | (simp only [addS_eq, mulS_eq]; omega)) ?_))
  refine (Mul64_h h1 h1).mono ?_
  rintro r _ - ⟨rfl, H3, L3, zL3, zH3, eL3, rfl⟩
  repeat (first | refine SeqS.go cok ?_ | refine And.intro (by omega) ?_)
  refine named_lt (L1 * 2 ^ 1 % 18446744073709551616) (Nat.mod_lt _ (by decide)) ?_
  intro D1 hD1 zD1
  refine named_lt (m2 * 2 ^ 1 % 18446744073709551616 + L1 / 2 ^ 63) (dbl_lt _ _ zm2 zL1) ?_
  intro D2 hD2 zD2
  refine named_lt (m3 * 2 ^ 1 % 18446744073709551616 + m2 / 2 ^ 63) (dbl_lt _ _ zm3 zm2) ?_
  intro D3 hD3 zD3
  refine ValS.shlWE (a := L1) (n := 1) (c := D1) (by decide) hD1.out.symm ?_
  skip
  refine (Add64_h (c := 0) (by omega) (by omega) (by omega)).mono ?_
  rintro r _ - ⟨rfl, p1, c2, zp1, zc2, ep1, rfl⟩
  repeat (first | refine SeqS.go cok ?_ | refine And.intro (by omega) ?_)
  refine ValS.shlWU64_L (n := 1) (by decide) ?_
  repeat (first | refine And.intro (by omega) ?_ | (refine ValS.keep ?_; first | (with_reducible refine ValS.kU64 ?_; first | (with_reducible refine ValS.shrU64_L ?_ ?_ ; omega))))
  refine ValS.toN D2 (by rw [ior_nat (k := .u64) _ _ (by show _ < 2 ^ 64; omega) (by show _ < 2 ^ 64; omega) rfl, dbl_or _ _ zm2 zL1, hD2.out]) ?_
  skip
  refine (Add64_h (by omega) (by omega) (by omega)).mono ?_
  rintro r _ - ⟨rfl, p2, c3, zp2, zc3, ep2, rfl⟩
  repeat (first | refine SeqS.go cok ?_ | refine And.intro (by omega) ?_)
  refine ValS.shlWU64_L (n := 1) (by decide) ?_
  repeat (first | refine And.intro (by omega) ?_ | (refine ValS.keep ?_; first | (with_reducible refine ValS.kU64 ?_; first | (with_reducible refine ValS.shrU64_L ?_ ?_ ; omega))))
  refine ValS.toN D3 (by rw [ior_nat (k := .u64) _ _ (by show _ < 2 ^ 64; omega) (by show _ < 2 ^ 64; omega) rfl, dbl_or _ _ zm3 zm2, hD3.out]) ?_
  skip
  refine ValS.addR ?_
  intro u5 ku5 zu5 eu5
  skip
  refine ValS.addR ?_
  intro p3 kp3 zp3 ep3
  repeat (first | refine SeqS.go cok ?_ | refine And.intro (fillOk_of (Eq.refl true)) ?_ | (refine LdG.keep ?_; first | refine LdG.lN cok 0 rfl rfl rfl rfl rfl (by first | exact Nat.le_of_ble_eq_true rfl | omega | (dsimp only; omega) | (simp only [addS_eq, mulS_eq]; omega)) ?_) | (refine OpG.keep ?_; first | refine OpG.sL cok 0 rfl rfl rfl rfl rfl rfl rfl (by first | exact Nat.le_of_ble_eq_true rfl | omega | (dsimp only; omega) | (simp only [addS_eq, mulS_eq]; omega)) ?_))
  obtain ⟨rfl⟩ := ea
  have hD1 := hD1.out
  have hD2 := hD2.out
  have hD3 := hD3.out
  have d1 := dbl_rel L1 zL1
  have d2 : D2 + 18446744073709551616 * (m2 / 2 ^ 63) = 2 * m2 + L1 / 2 ^ 63 := dbl_rel2 hD2 zm2
  have d3 : D3 + 18446744073709551616 * (m3 / 2 ^ 63) = 2 * m3 + m2 / 2 ^ 63 := dbl_rel2 hD3 zm3
  rw [← hD1] at d1
  refine Fin.drop S.G [_, _] ⟨rfl, tW rfl (WV_eq zp0 zp1 zp2 zp3 (modW (sq_law eL1.out eL2.out em2.out eu1.out eu2.out eu3.out eu4.out em3.out ep0.out eL3.out ep1.out ep2.out eu5.out ep3.out d1 d2 d3) (lt4 zp0 zp1 zp2 zp3)).symm)⟩
end Go.Proofs.YgvafwGreat
