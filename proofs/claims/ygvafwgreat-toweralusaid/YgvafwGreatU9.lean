import Derived.Test.YgvafwGreatU8
set_option maxRecDepth 100000
set_option maxHeartbeats 4000000
set_option linter.unusedVariables false
set_option linter.unusedSimpArgs false
-- v2
namespace Go.Proofs.YgvafwGreat
open Go.HL Go.Proofs

theorem Add64_h {S : St} {x y c : Nat} (hx : x < 18446744073709551616) (hy : y < 18446744073709551616) (hc : c ≤ 1) :
    CallG Hvaf.prog 179 #[.int .u64 (x : Nat), .int .u64 (y : Nat), .int .u64 (c : Nat)] S fun r S' => S = S' ∧ ∃ s k : Nat, s < 18446744073709551616 ∧ k ≤ 1 ∧ Hid (s + 18446744073709551616 * k = x + y + c) ∧ r = .tuple #[.int .u64 (s : Nat), .int .u64 (k : Nat)] := by
  refine (Add64_lin hx hy hc).mono ?_
  rintro r _ - ⟨rfl, s, k, h1, h2, h3, rfl⟩
  exact ⟨rfl, s, k, h1, h2, ⟨h3⟩, rfl⟩
theorem mul_bound {x y : Nat} (hx : x < 18446744073709551616) (hy : y < 18446744073709551616) : x * y ≤ 18446744073709551615 * 18446744073709551615 := Nat.mul_le_mul (by omega) (by omega)
theorem Mul64_h {S : St} {x y : Nat} (hx : x < 18446744073709551616) (hy : y < 18446744073709551616) :
    CallG Hvaf.prog 178 #[.int .u64 (x : Nat), .int .u64 (y : Nat)] S fun r S' => S = S' ∧ ∃ h l : Nat, l < 18446744073709551616 ∧ h ≤ 18446744073709551614 ∧ Hid (l + 18446744073709551616 * h = x * y) ∧ r = .tuple #[.int .u64 (h : Nat), .int .u64 (l : Nat)] := by
  refine (NMul64_spec hx hy).mono ?_
  rintro r _ - ⟨rfl, rfl⟩
  have hm := mul_bound hx hy
  generalize x * y = p at *
  exact ⟨rfl, _, _, Nat.mod_lt _ (by omega), by omega, ⟨by omega⟩, rfl⟩

theorem mulAdd_law {x y s c h l l1 k1 l2 k2 : Nat} (hx : x < 18446744073709551616) (hy : y < 18446744073709551616) (hs : s < 18446744073709551616) (hc : c < 18446744073709551616) (e0 : l + 18446744073709551616 * h = x * y) (e1 : l1 + 18446744073709551616 * k1 = l + s + 0) (e2 : l2 + 18446744073709551616 * k2 = l1 + c + 0) : h + k1 + k2 < 18446744073709551616 ∧ l2 + 18446744073709551616 * (h + k1 + k2) = x * y + s + c := by
  have hm := mul_bound hx hy
  generalize x * y = p at *
  omega
/-- u256.mulAdd -/
theorem mulAdd_spec {S : St} {x y s c : Nat} (hx : x < 18446744073709551616) (hy : y < 18446744073709551616) (hs : s < 18446744073709551616) (hc : c < 18446744073709551616) :
    CallG Hvaf.prog 415 #[.int .u64 (x : Nat), .int .u64 (y : Nat), .int .u64 (s : Nat), .int .u64 (c : Nat)] S fun r S' => S = S' ∧ ∃ l h : Nat, l < 18446744073709551616 ∧ h < 18446744073709551616 ∧ Hid (l + 18446744073709551616 * h = x * y + s + c) ∧ r = .tuple #[.int .u64 (l : Nat), .int .u64 (h : Nat)] := by
  refine CallG.start (C := mkC Hvaf.prog) cok (args := [.int .u64 (x : Nat), .int .u64 (y : Nat), .int .u64 (s : Nat), .int .u64 (c : Nat)]) Hvaf.func415 rfl Hvaf.ntmps415 (by simp) (by kernel_rfl) ?_
  repeat (first | refine SeqS.go cok ?_)
  refine (Mul64_h hx hy).mono ?_
  rintro r _ - ⟨rfl, h, l, hl, hh, e0, rfl⟩
  repeat (first | refine SeqS.go cok ?_)
  refine (Add64_h (c := 0) hl hs (by omega)).mono ?_
  rintro r _ - ⟨rfl, l1, k1, hl1, hk1, e1, rfl⟩
  repeat (first | refine SeqS.go cok ?_ | (refine ValS.keep ?_; first | (with_reducible refine ValS.kU64 ?_; first | (with_reducible refine ValS.addU64 ?_ ?_ ; omega))))
  refine (Add64_h (c := 0) hl1 hc (by omega)).mono ?_
  rintro r _ - ⟨rfl, l2, k2, hl2, hk2, e2, rfl⟩
  have kk := mulAdd_law hx hy hs hc e0.out e1.out e2.out
  have kk1 := kk.1
  repeat (first | refine SeqS.go cok ?_ | (refine ValS.keep ?_; first | (with_reducible refine ValS.kU64 ?_; first | (with_reducible refine ValS.addU64 ?_ ?_ ; omega))))
  exact Fin.same ⟨rfl, l2, h + k1 + k2, hl2, kk1, ⟨kk.2⟩, rfl⟩

theorem row_mul (x a b c d : Nat) : x * (a + 18446744073709551616 * b + 340282366920938463463374607431768211456 * c + 6277101735386680763835789423207666416102355444464034512896 * d) = x * a + 18446744073709551616 * (x * b) + 340282366920938463463374607431768211456 * (x * c) + 6277101735386680763835789423207666416102355444464034512896 * (x * d) := by
  simp only [Nat.mul_add, Nat.mul_left_comm]
theorem row_law {x b0 b1 b2 b3 s0 s1 s2 s3 h0 l0 h1 l1 h2 l2 h3 l3 m1 c1 m2 c2 m3 c3 t0 d0 t1 d1 t2 d2 t3 d3 : Nat} (hx : x < 18446744073709551616) (g0 : b0 < 18446744073709551616) (g1 : b1 < 18446744073709551616) (g2 : b2 < 18446744073709551616) (g3 : b3 < 18446744073709551616) (q0 : s0 < 18446744073709551616) (q1 : s1 < 18446744073709551616) (q2 : s2 < 18446744073709551616) (q3 : s3 < 18446744073709551616)
    (e0 : l0 + 18446744073709551616 * h0 = x * b0) (e1 : l1 + 18446744073709551616 * h1 = x * b1) (e2 : l2 + 18446744073709551616 * h2 = x * b2) (e3 : l3 + 18446744073709551616 * h3 = x * b3)
    (f1 : m1 + 18446744073709551616 * c1 = l1 + h0 + 0) (f2 : m2 + 18446744073709551616 * c2 = l2 + h1 + c1) (f3 : m3 + 18446744073709551616 * c3 = l3 + h2 + c2)
    (y0 : t0 + 18446744073709551616 * d0 = l0 + s0 + 0) (y1 : t1 + 18446744073709551616 * d1 = m1 + s1 + d0) (y2 : t2 + 18446744073709551616 * d2 = m2 + s2 + d1) (y3 : t3 + 18446744073709551616 * d3 = m3 + s3 + d2) :
    h3 + c3 + d3 < 18446744073709551616 ∧ t0 + 18446744073709551616 * t1 + 340282366920938463463374607431768211456 * t2 + 6277101735386680763835789423207666416102355444464034512896 * t3 + 115792089237316195423570985008687907853269984665640564039457584007913129639936 * (h3 + c3 + d3) = x * (b0 + 18446744073709551616 * b1 + 340282366920938463463374607431768211456 * b2 + 6277101735386680763835789423207666416102355444464034512896 * b3) + (s0 + 18446744073709551616 * s1 + 340282366920938463463374607431768211456 * s2 + 6277101735386680763835789423207666416102355444464034512896 * s3) := by
  have hb := lt4 g0 g1 g2 g3
  have hs := lt4 q0 q1 q2 q3
  have hm : x * (b0 + 18446744073709551616 * b1 + 340282366920938463463374607431768211456 * b2 + 6277101735386680763835789423207666416102355444464034512896 * b3) ≤ 18446744073709551615 * (115792089237316195423570985008687907853269984665640564039457584007913129639936 - 1) := Nat.mul_le_mul (by omega) (by omega)
  rw [row_mul] at hm ⊢
  generalize x * b0 = p0 at *
  generalize x * b1 = p1 at *
  generalize x * b2 = p2 at *
  generalize x * b3 = p3 at *
  have key : t0 + 18446744073709551616 * t1 + 340282366920938463463374607431768211456 * t2 + 6277101735386680763835789423207666416102355444464034512896 * t3 + 115792089237316195423570985008687907853269984665640564039457584007913129639936 * (h3 + c3 + d3) = p0 + 18446744073709551616 * p1 + 340282366920938463463374607431768211456 * p2 + 6277101735386680763835789423207666416102355444464034512896 * p3 + (s0 + 18446744073709551616 * s1 + 340282366920938463463374607431768211456 * s2 + 6277101735386680763835789423207666416102355444464034512896 * s3) := by
    clear hm hs hb
    omega
  exact ⟨by omega, key⟩
/-- u256.row -/
theorem row_spec {I : Ent → Prop} {G : List Ent} {y' : Ent} {bb x b0 b1 b2 b3 s0 s1 s2 s3 : Nat} (hx : x < 18446744073709551616) (g0 : b0 < 18446744073709551616) (g1 : b1 < 18446744073709551616) (g2 : b2 < 18446744073709551616) (g3 : b3 < 18446744073709551616) (q0 : s0 < 18446744073709551616) (q1 : s1 < 18446744073709551616) (q2 : s2 < 18446744073709551616) (q3 : s3 < 18446744073709551616) :
    CallG Hvaf.prog 362 #[.int .u64 (x : Nat), ptr bb 0, .int .u64 (s0 : Nat), .int .u64 (s1 : Nat), .int .u64 (s2 : Nat), .int .u64 (s3 : Nat)] ⟨I, y' :: ⟨bb, 4, 79, vc (WV b0 b1 b2 b3)⟩ :: G⟩ fun r S' => ⟨I, y' :: ⟨bb, 4, 79, vc (WV b0 b1 b2 b3)⟩ :: G⟩ = S' ∧
      ∃ t0 t1 t2 t3 t4 : Nat, t0 < 18446744073709551616 ∧ t1 < 18446744073709551616 ∧ t2 < 18446744073709551616 ∧ t3 < 18446744073709551616 ∧ t4 < 18446744073709551616 ∧ Hid (t0 + 18446744073709551616 * t1 + 340282366920938463463374607431768211456 * t2 + 6277101735386680763835789423207666416102355444464034512896 * t3 + 115792089237316195423570985008687907853269984665640564039457584007913129639936 * t4 = x * (b0 + 18446744073709551616 * b1 + 340282366920938463463374607431768211456 * b2 + 6277101735386680763835789423207666416102355444464034512896 * b3) + (s0 + 18446744073709551616 * s1 + 340282366920938463463374607431768211456 * s2 + 6277101735386680763835789423207666416102355444464034512896 * s3)) ∧ r = .tuple #[.int .u64 (t0 : Nat), .int .u64 (t1 : Nat), .int .u64 (t2 : Nat), .int .u64 (t3 : Nat), .int .u64 (t4 : Nat)] := by
  refine CallG.start (C := mkC Hvaf.prog) cok (args := [.int .u64 (x : Nat), ptr bb 0, .int .u64 (s0 : Nat), .int .u64 (s1 : Nat), .int .u64 (s2 : Nat), .int .u64 (s3 : Nat)]) Hvaf.func362 rfl Hvaf.ntmps362 (by simp) (by kernel_rfl) ?_
  repeat (first | refine SeqS.go cok ?_ | refine And.intro (by dsimp only; omega) ?_ | (refine NatS.keep ?_; first | with_reducible refine NatS.lit ?_) | (refine QuG.keep ?_; first | refine QuG.l1 cok 1 rfl rfl rfl rfl rfl (by first | exact Nat.le_of_ble_eq_true rfl | omega | (dsimp only; omega) | (simp only [addS_eq, mulS_eq]; omega)) ?_))
  refine (Mul64_h hx g0).mono ?_
  rintro r _ - ⟨rfl, h0, l0, hl0, hh0, e0, rfl⟩
  repeat (first | refine SeqS.go cok ?_ | refine And.intro (by dsimp only; omega) ?_ | (refine NatS.keep ?_; first | with_reducible refine NatS.lit ?_) | (refine QuG.keep ?_; first | refine QuG.l1 cok 1 rfl rfl rfl rfl rfl (by first | exact Nat.le_of_ble_eq_true rfl | omega | (dsimp only; omega) | (simp only [addS_eq, mulS_eq]; omega)) ?_))
  refine (Mul64_h hx g1).mono ?_
  rintro r _ - ⟨rfl, h1, l1, hl1, hh1, e1, rfl⟩
  repeat (first | refine SeqS.go cok ?_ | refine And.intro (by dsimp only; omega) ?_ | (refine NatS.keep ?_; first | with_reducible refine NatS.lit ?_) | (refine QuG.keep ?_; first | refine QuG.l1 cok 1 rfl rfl rfl rfl rfl (by first | exact Nat.le_of_ble_eq_true rfl | omega | (dsimp only; omega) | (simp only [addS_eq, mulS_eq]; omega)) ?_))
  refine (Mul64_h hx g2).mono ?_
  rintro r _ - ⟨rfl, h2, l2, hl2, hh2, e2, rfl⟩
  repeat (first | refine SeqS.go cok ?_ | refine And.intro (by dsimp only; omega) ?_ | (refine NatS.keep ?_; first | with_reducible refine NatS.lit ?_) | (refine QuG.keep ?_; first | refine QuG.l1 cok 1 rfl rfl rfl rfl rfl (by first | exact Nat.le_of_ble_eq_true rfl | omega | (dsimp only; omega) | (simp only [addS_eq, mulS_eq]; omega)) ?_))
  refine (Mul64_h hx g3).mono ?_
  rintro r _ - ⟨rfl, h3, l3, hl3, hh3, e3, rfl⟩
  repeat (first | refine SeqS.go cok ?_)
  refine (Add64_h (c := 0) (by omega) (by omega) (by omega)).mono ?_
  rintro r _ - ⟨rfl, m1, c1, hm1, hc1, f1, rfl⟩
  repeat (first | refine SeqS.go cok ?_)
  refine (Add64_h (by omega) (by omega) (by omega)).mono ?_
  rintro r _ - ⟨rfl, m2, c2, hm2, hc2, f2, rfl⟩
  repeat (first | refine SeqS.go cok ?_)
  refine (Add64_h (by omega) (by omega) (by omega)).mono ?_
  rintro r _ - ⟨rfl, m3, c3, hm3, hc3, f3, rfl⟩
  repeat (first | refine SeqS.go cok ?_ | (refine ValS.keep ?_; first | (with_reducible refine ValS.kU64 ?_; first | (with_reducible refine ValS.addU64 ?_ ?_ ; omega))))
  refine (Add64_h (c := 0) (by omega) (by omega) (by omega)).mono ?_
  rintro r _ - ⟨rfl, t0, d0, ht0, hd0, y0, rfl⟩
  repeat (first | refine SeqS.go cok ?_)
  refine (Add64_h (by omega) (by omega) (by omega)).mono ?_
  rintro r _ - ⟨rfl, t1, d1, ht1, hd1, y1, rfl⟩
  repeat (first | refine SeqS.go cok ?_)
  refine (Add64_h (by omega) (by omega) (by omega)).mono ?_
  rintro r _ - ⟨rfl, t2, d2, ht2, hd2, y2, rfl⟩
  repeat (first | refine SeqS.go cok ?_)
  refine (Add64_h (by omega) (by omega) (by omega)).mono ?_
  rintro r _ - ⟨rfl, t3, d3, ht3, hd3, y3, rfl⟩
  have kk := row_law hx g0 g1 g2 g3 q0 q1 q2 q3 e0.out e1.out e2.out e3.out f1.out f2.out f3.out y0.out y1.out y2.out y3.out
  have kk1 := kk.1
  repeat (first | refine SeqS.go cok ?_ | (refine ValS.keep ?_; first | (with_reducible refine ValS.kU64 ?_; first | (with_reducible refine ValS.addU64 ?_ ?_ ; omega))))
  exact Fin.same ⟨rfl, t0, t1, t2, t3, h3 + c3 + d3, ht0, ht1, ht2, ht3, kk1, ⟨kk.2⟩, rfl⟩
end Go.Proofs.YgvafwGreat
