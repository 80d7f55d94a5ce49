import Derived.Test.YgvafwGreatU15
import Derived.Test.YgvafwGreatD7
set_option maxRecDepth 100000
set_option maxHeartbeats 4000000
set_option linter.unusedVariables false
set_option linter.unusedSimpArgs false
-- v2
-- v3
namespace Go.Proofs.YgvafwGreat
open Go.HL Go.Proofs

def wl4 (n : Nat) : List Nat := [n % 18446744073709551616, n / 18446744073709551616 % 18446744073709551616, n / 340282366920938463463374607431768211456 % 18446744073709551616, n / 6277101735386680763835789423207666416102355444464034512896 % 18446744073709551616]
structure EX where
  k : Nat
  p : Nat
  a : Nat
  c1 : Nat → Value
  c2 : Nat → Value
theorem vc_self4 (a b c d : Nat) : vc (WV a b c d) = updN (vc (WV a b c d)) 0 (ivs .u64 [a, b, c, d]) := by
  refine (updN_self ⟨fun i hi => ?_⟩).symm
  simp only [ivs_length, List.length_cons, List.length_nil] at hi
  have : i = 0 ∨ i = 1 ∨ i = 2 ∨ i = 3 := by omega
  rcases this with rfl | rfl | rfl | rfl <;> rfl
theorem exp_zero_v {v : Value} {p a B k R : Nat} (hv : v = wordV 0) (h : p * (a * a % 115792089237316195423570985008687907853269984665640564039457584007913129639936) ^ (B / 2 ^ (k + 1)) % 115792089237316195423570985008687907853269984665640564039457584007913129639936 = R) (hz : a * a % 115792089237316195423570985008687907853269984665640564039457584007913129639936 = 0) (hk : 1 ≤ B / 2 ^ (k + 1)) : v = wordV R := by
  rw [hv, ← h, hz, Nat.zero_pow (by omega), Nat.mul_zero]
theorem st_eq {I : Ent → Prop} {x y : Ent} {G : List Ent} {xb xa : Nat} {cb cb' ca ca' : Nat → Value} (hb : cb = cb') (ha : ca = ca') : (⟨I, x :: y :: ⟨xb, 4, 79, cb⟩ :: ⟨xa, 4, 79, ca⟩ :: G⟩ : St) = ⟨I, x :: y :: ⟨xb, 4, 79, cb'⟩ :: ⟨xa, 4, 79, ca'⟩ :: G⟩ := by rw [hb, ha]
theorem pos_half {B k : Nat} (hk : k < blen B - 1) (hB : B ≠ 0) : 1 ≤ B / 2 ^ (k + 1) := by
  have h := last_one hB
  have h1 : 2 ^ (k + 1) ≤ 2 ^ (blen B - 1) := Nat.pow_le_pow_right (by omega) (by omega)
  have := Nat.div_le_div_left (a := B) h1 (Nat.two_pow_pos _)
  omega

/-- u256.Exp, for an exponent whose last bit's place is known. -/
theorem UExp_at {S : St} {A b0 b1 b2 b3 n c B : Nat} (hA : A < 115792089237316195423570985008687907853269984665640564039457584007913129639936) (g0 : b0 < 18446744073709551616) (g1 : b1 < 18446744073709551616) (g2 : b2 < 18446744073709551616) (g3 : b3 < 18446744073709551616) (eB : B = b0 + 18446744073709551616 * b1 + 340282366920938463463374607431768211456 * b2 + 6277101735386680763835789423207666416102355444464034512896 * b3) (hn : n < 4) (hl : nlimbs b0 b1 b2 b3 = n + 1) (hc : [b0, b1, b2, b3].getD n 0 = c) (hB : blen B = 64 * n + blen c) (hB0 : B ≠ 0) :
    CallG Hvaf.prog 287 #[wordV A, WV b0 b1 b2 b3] S fun r S' => S = S' ∧ r = wordV (A ^ B % 115792089237316195423570985008687907853269984665640564039457584007913129639936) := by
  have hbl : blen B ≠ 0 := by unfold blen; rw [if_neg hB0]; omega
  have hb256 : blen B ≤ 256 := blen_le (by rw [eB]; exact lt4 g0 g1 g2 g3)
  have hlim : Lim [b0, b1, b2, b3] := by
    intro d hd
    simp only [List.mem_cons, List.not_mem_nil, or_false] at hd
    rcases hd with rfl | rfl | rfl | rfl <;> assumption
  have hcM : c < 18446744073709551616 := by rw [← hc]; exact getD_lim hlim n
  have hst0 : ∀ (x y : Ent) (xb xa : Nat), (⟨S.I, x :: y :: ⟨xb, 4, 79, vc (WV b0 b1 b2 b3)⟩ :: ⟨xa, 4, 79, vc (wordV A)⟩ :: S.G⟩ : St) = ⟨S.I, x :: y :: ⟨xb, 4, 79, updN (vc (WV b0 b1 b2 b3)) 0 (ivs .u64 [b0, b1, b2, b3])⟩ :: ⟨xa, 4, 79, updN (vc (wordV A)) 0 (ivs .u64 (wl4 A))⟩ :: S.G⟩ := fun x y xb xa => st_eq (vc_self4 _ _ _ _) (vc_self4 _ _ _ _)
  have hrow : Row (vc (WV b0 b1 b2 b3)) 0 (ivs .u64 [b0, b1, b2, b3]) := by rw [vc_self4]; exact Row.updN _ _ _
  replace hA : Hid _ := ⟨hA⟩
  replace eB : Hid _ := ⟨eB⟩
  refine CallG.start (C := mkC Hvaf.prog) cok (args := [wordV A, WV b0 b1 b2 b3]) Hvaf.func287 rfl Hvaf.ntmps287 (by simp) (by kernel_rfl) ?_
  intro xa xb xr
  repeat (first | refine SeqS.go cok ?_ | refine And.intro (fillOk_of (Eq.refl true)) ?_)
  intro xp
  repeat (first | refine SeqS.go cok ?_ | (refine QuG.keep ?_; first | refine QuG.lN cok 2 rfl rfl rfl rfl rfl (by first | exact Nat.le_of_ble_eq_true rfl | omega | (dsimp only; omega) | (simp only [addS_eq, mulS_eq]; omega)) ?_) | (refine OpG.keep ?_; first | refine OpG.sL cok 0 rfl rfl rfl rfl rfl rfl rfl (by first | exact Nat.le_of_ble_eq_true rfl | omega | (dsimp only; omega) | (simp only [addS_eq, mulS_eq]; omega)) ?_))
  refine ULimbs_spec.mono ?_
  rintro r _ - ⟨rfl, rfl⟩
  repeat (first | (refine ValS.keep ?_; with_reducible refine ValS.subK8 n ?_ ?_ ?_; omega; omega) | refine SeqS.go cok ?_ | refine And.intro (by omega) ?_ | (refine NatS.keep ?_; first | with_reducible refine NatS.nat ?_) | (refine ValS.keep ?_; first | (with_reducible refine ValS.kI64 ?_; first | (with_reducible refine ValS.convI64 ?_ ?_ ; omega) | (with_reducible refine ValS.mulI64_M ?_ ?_ ; omega))) | (refine CondS.keep ?_; first | refine CondS.d0 rfl (by omega) ?_))
  refine QuG.cell cok (n := n) (hrow : Row (Ent.mk xb 4 79 (vc (WV b0 b1 b2 b3))).c 0 _) (Rd.own 2 rfl) rfl rfl rfl rfl (by rw [addS_eq, mulS_eq]; simp) (by simpa using hn) (by show 0 + n < 4; omega) ?_
  rw [ivs_getD _ _ _ (by simpa using hn), hc]
  skip
  refine (Len64_spec hcM).mono ?_
  rintro r _ - ⟨rfl, rfl⟩
  repeat (first | (refine ValS.keep ?_; first | (with_reducible refine ValS.kI64 ?_; first | (with_reducible refine ValS.addI64 ?_ ?_ ; omega))))
  refine ValS.toN (blen B - 1) (by rw [wrapI64 _ (by omega) (by omega)]; omega) ?_
  repeat (first | refine SeqS.go cok ?_)
  refine W.loopE cok (by kernel_rfl) 0 (fun (s : EX) e' S' => S' = ⟨S.I, ⟨xp, 4, 79, updN s.c1 0 (ivs .u64 (wl4 s.p))⟩ :: ⟨xr, 4, 79, z_int__u64_0⟩ :: ⟨xb, 4, 79, updN (vc (WV b0 b1 b2 b3)) 0 (ivs .u64 [b0, b1, b2, b3])⟩ :: ⟨xa, 4, 79, updN s.c2 0 (ivs .u64 (wl4 s.a))⟩ :: S.G⟩ ∧ s.k ≤ blen B - 1 ∧ Hid (s.p < 115792089237316195423570985008687907853269984665640564039457584007913129639936) ∧ Hid (s.a < 115792089237316195423570985008687907853269984665640564039457584007913129639936) ∧ Hid (s.p * s.a ^ (B / 2 ^ s.k) % 115792089237316195423570985008687907853269984665640564039457584007913129639936 = A ^ B % 115792089237316195423570985008687907853269984665640564039457584007913129639936) ∧
      slots [(2, ptr xa 0), (3, ptr xb 0), (4, ptr xr 0), (5, ptr xp 0), (7, .int .i64 (blen B - 1 : Nat)), (8, .int .i64 (s.k : Nat))] e') (fun s => blen B - 1 - s.k) ⟨0, 1, A, z_int__u64_0, vc (wordV A)⟩
      ⟨hst0 ⟨xp, 4, 79, updN z_int__u64_0 0 (ivs .u64 (wl4 1))⟩ ⟨xr, 4, 79, z_int__u64_0⟩ xb xa, by show 0 ≤ _; omega, ⟨by show 1 < 115792089237316195423570985008687907853269984665640564039457584007913129639936; decide⟩, hA, ⟨by show 1 * A ^ (B / 2 ^ 0) % 115792089237316195423570985008687907853269984665640564039457584007913129639936 = _; rw [Nat.pow_zero, Nat.div_one, Nat.one_mul]⟩, rfl, rfl, rfl, rfl, rfl, rfl, trivial⟩
      (fun e' S' => ∃ p a c1 c2, S' = ⟨S.I, ⟨xp, 4, 79, updN c1 0 (ivs .u64 (wl4 p))⟩ :: ⟨xr, 4, 79, z_int__u64_0⟩ :: ⟨xb, 4, 79, updN (vc (WV b0 b1 b2 b3)) 0 (ivs .u64 [b0, b1, b2, b3])⟩ :: ⟨xa, 4, 79, updN c2 0 (ivs .u64 (wl4 a))⟩ :: S.G⟩ ∧ Hid (p < 115792089237316195423570985008687907853269984665640564039457584007913129639936) ∧ Hid (a < 115792089237316195423570985008687907853269984665640564039457584007913129639936) ∧ Hid (p * a % 115792089237316195423570985008687907853269984665640564039457584007913129639936 = A ^ B % 115792089237316195423570985008687907853269984665640564039457584007913129639936) ∧ slots [(2, ptr xa 0), (4, ptr xr 0), (5, ptr xp 0)] e') ?_ ?_
  · rintro e' S2 - ⟨p, a, c1, c2, hS, hp, ha, E, hsl⟩
    subst hS
    refine SeqS.slots cok _ hsl fun e => ?_
    repeat (first | (refine QuG.keep ?_; first | refine QuG.lN cok 0 rfl rfl rfl rfl rfl (by first | exact Nat.le_of_ble_eq_true rfl | omega | (dsimp only; omega) | (simp only [addS_eq, mulS_eq]; omega)) ?_ | refine QuG.lN cok 3 rfl rfl rfl rfl rfl (by first | exact Nat.le_of_ble_eq_true rfl | omega | (dsimp only; omega) | (simp only [addS_eq, mulS_eq]; omega)) ?_))
    refine (UMul_spec hp.out ha.out).mono ?_
    rintro r _ - ⟨rfl, rfl⟩
    repeat (first | refine SeqS.go cok ?_ | (refine LdG.keep ?_; first | refine LdG.lN cok 1 rfl rfl rfl rfl rfl (by first | exact Nat.le_of_ble_eq_true rfl | omega | (dsimp only; omega) | (simp only [addS_eq, mulS_eq]; omega)) ?_) | (refine OpG.keep ?_; first | refine OpG.sL cok 1 rfl rfl rfl rfl rfl rfl rfl (by first | exact Nat.le_of_ble_eq_true rfl | omega | (dsimp only; omega) | (simp only [addS_eq, mulS_eq]; omega)) ?_))
    exact Fin.drop S.G [_, _, _, _] ⟨rfl, Eq.trans (b := wordV (p * a % 115792089237316195423570985008687907853269984665640564039457584007913129639936)) rfl (by rw [E.out])⟩
  · rintro ⟨k, p, a, c1, c2⟩ e' S2 - ⟨hS, hk, hp, ha, E, hsl⟩
    dsimp only at hS hk hp ha E hsl
    subst hS
    refine W.slots _ hsl fun e => ?_
    rcases Nat.lt_or_ge k (blen B - 1) with hlt | hge
    · have hk1 := pos_half hlt hB0
      have hbb : [b0, b1, b2, b3].getD (k / 64) 0 / 2 ^ (k % 64) % 2 = B / 2 ^ k % 2 := by rw [limb_bit g0 g1 g2 (by omega), eB.out]
      have hgl := getD_lim hlim (k / 64)
      have hgd := Nat.div_le_self ([b0, b1, b2, b3].getD (k / 64) 0) (2 ^ (k % 64))
      have hsq : Hid (a * a % 115792089237316195423570985008687907853269984665640564039457584007913129639936 < 115792089237316195423570985008687907853269984665640564039457584007913129639936) := ⟨Nat.mod_lt _ (by decide)⟩
      have hl4 : [b0, b1, b2, b3].length = 4 := rfl
      have hbit : [b0, b1, b2, b3].getD (k / 64) 0 / 2 ^ (k % 64) % 2 = 0 ∨ [b0, b1, b2, b3].getD (k / 64) 0 / 2 ^ (k % 64) % 2 = 1 := by omega
      rcases hbit with hbit | hbit
      · repeat (first | refine SeqS.go cok ?_ | refine And.intro (by omega) ?_ | refine And.intro (by dsimp only; omega) ?_ | (refine NatS.keep ?_; first | with_reducible refine NatS.nat ?_) | (refine ValS.keep ?_; first | (with_reducible refine ValS.kI64 ?_; first | (with_reducible refine ValS.quoI64_L ?_ ?_ ; omega) | with_reducible refine ValS.remN_L ?_) | (with_reducible refine ValS.kU64 ?_; first | (with_reducible refine ValS.and1U64 ?_ ?_; omega) | (with_reducible refine ValS.shrU64 ?_ ?_ ; omega))) | (refine QuG.keep ?_; first | refine QuG.ar cok 2 rfl rfl rfl rfl rfl rfl (by first | omega | (simp; done) | (simp; omega)) (by first | omega | (simp; done) | (simp; omega)) ?_) | (refine QuG.keep ?_; first | refine QuG.lN cok 3 rfl rfl rfl rfl rfl (by first | exact Nat.le_of_ble_eq_true rfl | omega | (dsimp only; omega) | (simp only [addS_eq, mulS_eq]; omega)) ?_) | (refine CondS.keep ?_; first | refine CondS.d1 rfl (by omega) ?_ | refine CondS.nd0 rfl (by omega) ?_))
        refine (USq_spec ha.out).mono ?_
        rintro r _ - ⟨rfl, rfl⟩
        repeat (first | refine SeqS.go cok ?_ | (refine QuG.keep ?_; first | refine QuG.lN cok 3 rfl rfl rfl rfl rfl (by first | exact Nat.le_of_ble_eq_true rfl | omega | (dsimp only; omega) | (simp only [addS_eq, mulS_eq]; omega)) ?_) | (refine OpG.keep ?_; first | refine OpG.sL cok 3 rfl rfl rfl rfl rfl rfl rfl (by first | exact Nat.le_of_ble_eq_true rfl | omega | (dsimp only; omega) | (simp only [addS_eq, mulS_eq]; omega)) ?_))
        refine (UIsZero_spec hsq.out).mono ?_
        rintro r _ - ⟨rfl, rfl⟩
        repeat (first | refine SeqS.go cok ?_)
        (first | refine CondS.dec rfl (fun hz => ?_) (fun hz => ?_))
        · repeat (first | refine SeqS.go cok ?_ | refine And.intro (fillOk_of (Eq.refl true)) ?_ | (refine LdG.keep ?_; first | refine LdG.lN cok 1 rfl rfl rfl rfl rfl (by first | exact Nat.le_of_ble_eq_true rfl | omega | (dsimp only; omega) | (simp only [addS_eq, mulS_eq]; omega)) ?_) | (refine OpG.keep ?_; first | refine OpG.sL cok 1 rfl rfl rfl rfl rfl rfl rfl (by first | exact Nat.le_of_ble_eq_true rfl | omega | (dsimp only; omega) | (simp only [addS_eq, mulS_eq]; omega)) ?_))
          exact Fin.drop S.G [_, _, _, _] ⟨rfl, exp_zero_v rfl (exp_step0 E.out (by rw [← hbb]; exact hbit)) hz hk1⟩
        · repeat (first | refine SeqS.go cok ?_ | (refine ValS.keep ?_; first | (with_reducible refine ValS.kI64 ?_; first | (with_reducible refine ValS.addI64_L ?_ ?_ ; omega))))
          exact ⟨⟨k + 1, p, a * a % 115792089237316195423570985008687907853269984665640564039457584007913129639936, _, _⟩, ⟨rfl, by show k + 1 ≤ _; omega, ⟨hp.out⟩, hsq, ⟨(exp_step0 E.out (by rw [← hbb]; exact hbit))⟩, rfl, rfl, rfl, rfl, rfl, rfl, trivial⟩, by show blen B - 1 - (k + 1) < blen B - 1 - k; omega⟩
      · repeat (first | refine SeqS.go cok ?_ | refine And.intro (by omega) ?_ | refine And.intro (by dsimp only; omega) ?_ | (refine NatS.keep ?_; first | with_reducible refine NatS.nat ?_) | (refine ValS.keep ?_; first | (with_reducible refine ValS.kI64 ?_; first | (with_reducible refine ValS.quoI64_L ?_ ?_ ; omega) | with_reducible refine ValS.remN_L ?_) | (with_reducible refine ValS.kU64 ?_; first | (with_reducible refine ValS.and1U64 ?_ ?_; omega) | (with_reducible refine ValS.shrU64 ?_ ?_ ; omega))) | (refine QuG.keep ?_; first | refine QuG.ar cok 2 rfl rfl rfl rfl rfl rfl (by first | omega | (simp; done) | (simp; omega)) (by first | omega | (simp; done) | (simp; omega)) ?_) | (refine QuG.keep ?_; first | refine QuG.lN cok 0 rfl rfl rfl rfl rfl (by first | exact Nat.le_of_ble_eq_true rfl | omega | (dsimp only; omega) | (simp only [addS_eq, mulS_eq]; omega)) ?_ | refine QuG.lN cok 3 rfl rfl rfl rfl rfl (by first | exact Nat.le_of_ble_eq_true rfl | omega | (dsimp only; omega) | (simp only [addS_eq, mulS_eq]; omega)) ?_) | (refine CondS.keep ?_; first | refine CondS.d1 rfl (by omega) ?_ | refine CondS.nd1 rfl (by omega) ?_))
        refine (UMul_spec hp.out ha.out).mono ?_
        rintro r _ - ⟨rfl, rfl⟩
        repeat (first | refine SeqS.go cok ?_ | (refine QuG.keep ?_; first | refine QuG.lN cok 3 rfl rfl rfl rfl rfl (by first | exact Nat.le_of_ble_eq_true rfl | omega | (dsimp only; omega) | (simp only [addS_eq, mulS_eq]; omega)) ?_) | (refine OpG.keep ?_; first | refine OpG.sL cok 0 rfl rfl rfl rfl rfl rfl rfl (by first | exact Nat.le_of_ble_eq_true rfl | omega | (dsimp only; omega) | (simp only [addS_eq, mulS_eq]; omega)) ?_))
        refine (USq_spec ha.out).mono ?_
        rintro r _ - ⟨rfl, rfl⟩
        repeat (first | refine SeqS.go cok ?_ | (refine QuG.keep ?_; first | refine QuG.lN cok 3 rfl rfl rfl rfl rfl (by first | exact Nat.le_of_ble_eq_true rfl | omega | (dsimp only; omega) | (simp only [addS_eq, mulS_eq]; omega)) ?_) | (refine OpG.keep ?_; first | refine OpG.sL cok 3 rfl rfl rfl rfl rfl rfl rfl (by first | exact Nat.le_of_ble_eq_true rfl | omega | (dsimp only; omega) | (simp only [addS_eq, mulS_eq]; omega)) ?_))
        refine (UIsZero_spec hsq.out).mono ?_
        rintro r _ - ⟨rfl, rfl⟩
        repeat (first | refine SeqS.go cok ?_)
        (first | refine CondS.dec rfl (fun hz => ?_) (fun hz => ?_))
        · repeat (first | refine SeqS.go cok ?_ | refine And.intro (fillOk_of (Eq.refl true)) ?_ | (refine LdG.keep ?_; first | refine LdG.lN cok 1 rfl rfl rfl rfl rfl (by first | exact Nat.le_of_ble_eq_true rfl | omega | (dsimp only; omega) | (simp only [addS_eq, mulS_eq]; omega)) ?_) | (refine OpG.keep ?_; first | refine OpG.sL cok 1 rfl rfl rfl rfl rfl rfl rfl (by first | exact Nat.le_of_ble_eq_true rfl | omega | (dsimp only; omega) | (simp only [addS_eq, mulS_eq]; omega)) ?_))
          exact Fin.drop S.G [_, _, _, _] ⟨rfl, exp_zero_v rfl (exp_step1 E.out (by rw [← hbb]; exact hbit)) hz hk1⟩
        · repeat (first | refine SeqS.go cok ?_ | (refine ValS.keep ?_; first | (with_reducible refine ValS.kI64 ?_; first | (with_reducible refine ValS.addI64_L ?_ ?_ ; omega))))
          exact ⟨⟨k + 1, p * a % 115792089237316195423570985008687907853269984665640564039457584007913129639936, a * a % 115792089237316195423570985008687907853269984665640564039457584007913129639936, _, _⟩, ⟨rfl, by show k + 1 ≤ _; omega, ⟨Nat.mod_lt _ (by decide)⟩, hsq, ⟨(exp_step1 E.out (by rw [← hbb]; exact hbit))⟩, rfl, rfl, rfl, rfl, rfl, rfl, trivial⟩, by show blen B - 1 - (k + 1) < blen B - 1 - k; omega⟩
    · repeat (first | refine SeqS.go cok ?_ | (refine CondS.keep ?_; first | refine CondS.d0 rfl (by omega) ?_))
      have hkk : k = blen B - 1 := by omega
      have E := E.out
      rw [hkk, last_one hB0, Nat.pow_one] at E
      exact ⟨p, a, c1, c2, rfl, hp, ha, ⟨E⟩, rfl, rfl, rfl, trivial⟩

/-- u256.Exp -/
theorem UExp_spec {S : St} {A B : Nat} (hA : A < 115792089237316195423570985008687907853269984665640564039457584007913129639936) (hB : B < 115792089237316195423570985008687907853269984665640564039457584007913129639936) :
    CallG Hvaf.prog 287 #[wordV A, wordV B] S fun r S' => S = S' ∧ r = wordV (A ^ B % 115792089237316195423570985008687907853269984665640564039457584007913129639936) := by
  obtain ⟨b0, b1, b2, b3, g0, g1, g2, g3, eb, vb⟩ := word_cases hB
  rw [vb]
  have hN := nb g0 g1 g2 g3
  rw [← eb.out] at hN
  have hcs : b3 ≠ 0 ∨ (b3 = 0 ∧ b2 ≠ 0) ∨ (b3 = 0 ∧ b2 = 0 ∧ b1 ≠ 0) ∨ (b3 = 0 ∧ b2 = 0 ∧ b1 = 0 ∧ b0 ≠ 0) ∨ (b3 = 0 ∧ b2 = 0 ∧ b1 = 0 ∧ b0 = 0) := by omega
  rcases hcs with h1 | ⟨h1, h2⟩ | ⟨h1, h2, h3⟩ | ⟨h1, h2, h3, h4⟩ | ⟨h1, h2, h3, h4⟩
  · exact UExp_at (n := 3) (c := b3) hA g0 g1 g2 g3 eb.out (by decide) (by simp [nlimbs, *]) rfl (by rw [hN, if_pos h1]) (by rw [eb.out]; omega)
  · exact UExp_at (n := 2) (c := b2) hA g0 g1 g2 g3 eb.out (by decide) (by simp [nlimbs, *]) rfl (by rw [hN, if_neg (by simp [h1]), if_pos h2]) (by rw [eb.out]; omega)
  · exact UExp_at (n := 1) (c := b1) hA g0 g1 g2 g3 eb.out (by decide) (by simp [nlimbs, *]) rfl (by rw [hN, if_neg (by simp [h1]), if_neg (by simp [h2]), if_pos h3]) (by rw [eb.out]; omega)
  · exact UExp_at (n := 0) (c := b0) hA g0 g1 g2 g3 eb.out (by decide) (by simp [nlimbs, *]) rfl (by rw [hN, if_neg (by simp [h1]), if_neg (by simp [h2]), if_neg (by simp [h3])]; omega) (by rw [eb.out]; omega)
  · have hl : nlimbs b0 b1 b2 b3 = 0 := by simp [nlimbs, *]
    have hB0 : B = 0 := by rw [eb.out]; omega
    have hR : A ^ B % 115792089237316195423570985008687907853269984665640564039457584007913129639936 = 1 := by rw [hB0]; rfl
    rw [hR]
    clear hN eb vb hA hB hR
    refine CallG.start (C := mkC Hvaf.prog) cok (args := [wordV A, WV b0 b1 b2 b3]) Hvaf.func287 rfl Hvaf.ntmps287 (by simp) (by kernel_rfl) ?_
    intro xa xb xr
    repeat (first | refine SeqS.go cok ?_ | refine And.intro (fillOk_of (Eq.refl true)) ?_)
    intro xp
    repeat (first | refine SeqS.go cok ?_ | (refine QuG.keep ?_; first | refine QuG.lN cok 2 rfl rfl rfl rfl rfl (by first | exact Nat.le_of_ble_eq_true rfl | omega | (dsimp only; omega) | (simp only [addS_eq, mulS_eq]; omega)) ?_) | (refine OpG.keep ?_; first | refine OpG.sL cok 0 rfl rfl rfl rfl rfl rfl rfl (by first | exact Nat.le_of_ble_eq_true rfl | omega | (dsimp only; omega) | (simp only [addS_eq, mulS_eq]; omega)) ?_))
    refine ULimbs_spec.mono ?_
    rintro r _ - ⟨rfl, rfl⟩
    repeat (first | refine SeqS.go cok ?_ | (refine QuG.keep ?_; first | refine QuG.lN cok 0 rfl rfl rfl rfl rfl (by first | exact Nat.le_of_ble_eq_true rfl | omega | (dsimp only; omega) | (simp only [addS_eq, mulS_eq]; omega)) ?_) | (refine LdG.keep ?_; first | refine LdG.lN cok 1 rfl rfl rfl rfl rfl (by first | exact Nat.le_of_ble_eq_true rfl | omega | (dsimp only; omega) | (simp only [addS_eq, mulS_eq]; omega)) ?_) | (refine OpG.keep ?_; first | refine OpG.sL cok 1 rfl rfl rfl rfl rfl rfl rfl (by first | exact Nat.le_of_ble_eq_true rfl | omega | (dsimp only; omega) | (simp only [addS_eq, mulS_eq]; omega)) ?_) | (refine CondS.keep ?_; first | refine CondS.d1 rfl (by omega) ?_))
    exact Fin.drop S.G [_, _, _, _] ⟨rfl, rfl⟩
end Go.Proofs.YgvafwGreat
