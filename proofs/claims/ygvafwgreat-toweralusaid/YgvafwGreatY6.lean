import Derived.Test.YgvafwGreatY5
set_option maxRecDepth 100000
set_option maxHeartbeats 4000000
set_option linter.unusedVariables false
set_option linter.unusedSimpArgs false
-- v2
namespace Go.Proofs.YgvafwGreat
open Go.HL Go.Proofs

theorem callQ {P : Program} {f : FuncId} {args : Array Value} {I : Ent → Prop} {G : List Ent} {x y : Nat} {b : Bool} {K : Post} (h : CallG P f args ⟨I, G⟩ fun r S' => S'.G = G ∧ ∃ q m, r = .tuple #[q, m, .bool b] ∧ NatI S'.I q x ∧ NatI S'.I m y)
    (k : ∀ q m J, Sub I J → NatI J q x → NatI J m y → K (.tuple #[q, m, .bool b]) ⟨J, G⟩) : CallG P f args ⟨I, G⟩ K := by
  refine h.mono ?_
  rintro r ⟨J, G'⟩ hs ⟨h1, q, m, rfl, h2, h3⟩
  dsimp only at h1 hs h2 h3
  subst h1
  exact k q m J hs h2 h3
theorem low_bit {b s : Nat} : b.testBit s = decide (2 ^ s ≤ b % 2 ^ (s + 1)) := by
  rw [Nat.testBit_eq_decide_div_mod_eq, decide_eq_decide, Nat.mod_pow_succ]
  have h1 := Nat.mod_lt b (Nat.two_pow_pos s)
  have h2 := Nat.mod_lt (b / 2 ^ s) (by decide : 0 < 2)
  constructor
  · intro h; rw [h]; omega
  · intro h
    have : b / 2 ^ s % 2 ≠ 0 := by intro h0; rw [h0] at h; omega
    omega
def signX (a b : Nat) : Nat := if a < 31 then (if 2 ^ (8 * a + 7) ≤ b % 2 ^ (8 * a + 8) then b % 2 ^ (8 * a + 8) + 115792089237316195423570985008687907853269984665640564039457584007913129639936 - 2 ^ (8 * a + 8) else b % 2 ^ (8 * a + 8)) else b
/-- yp.signExtended -/
theorem ySignExt {I : Ent → Prop} {G : List Ent} {v u : Value} {a b : Nat} (hN : NatI I v a) (hN2 : NatI I u b) :
    CallG Hvaf.prog 353 #[v, u] ⟨I, G⟩ fun r S' => S'.G = G ∧ NatI S'.I r (signX a b) := by
  have h64 := nU64 (G := G) hN
  unfold signX
  by_cases h1 : a < 31
  · rw [if_pos (by omega), decide_eq_true (show a < 2 ^ 64 by omega)] at h64
    rw [if_pos h1]
    have hbit := low_bit (b := b) (s := 8 * a + 7)
    have hbt := fun (J : Ent → Prop) (hu : NatI J u b) => nBit (G := G) (i := 8 * a + 7) hu (by omega)
    rw [hbit] at hbt
    have h0 : ¬ 2 ^ (8 * a + 7 + 1) = 0 := by have := Nat.two_pow_pos (8 * a + 7 + 1); omega
    have hdm := fun (J : Ent → Prop) (w : Value) (hu : NatI J u b) (hw : NatI J w (2 ^ (8 * a + 7 + 1))) => nDivMod (G := G) hu hw
    simp only [if_neg h0] at hdm
    by_cases h2 : 2 ^ (8 * a + 7) ≤ b % 2 ^ (8 * a + 8)
    · rw [if_pos h2]
      rw [decide_eq_true h2] at hbt
      have hpw : 2 ^ (8 * a + 7 + 1) ≤ 2 ^ 256 := Nat.pow_le_pow_right (by decide) (by omega)
      have hml := Nat.mod_lt b (Nat.two_pow_pos (8 * a + 7 + 1))
      have hsum : Hid (b % 2 ^ (8 * a + 7 + 1) + (2 ^ 256 - 2 ^ (8 * a + 7 + 1)) < NB) := ⟨Nat.lt_of_lt_of_le (m := 2 ^ 256 + 2 ^ 256) (by omega) (by decide +kernel)⟩
      rw [show b % 2 ^ (8 * a + 8) + 115792089237316195423570985008687907853269984665640564039457584007913129639936 - 2 ^ (8 * a + 8) = b % 2 ^ (8 * a + 7 + 1) + (2 ^ 256 - 2 ^ (8 * a + 7 + 1)) by
        rw [show 8 * a + 8 = 8 * a + 7 + 1 from rfl]; rw [show (115792089237316195423570985008687907853269984665640564039457584007913129639936 : Nat) = 2 ^ 256 from rfl]; omega]
      clear hbit hpw hml h2
      refine CallG.start (C := mkC Hvaf.prog) cok (args := [v, u]) Hvaf.func353 rfl Hvaf.ntmps353 (by simp) (by kernel_rfl) ?_
      repeat (first | refine SeqS.go cok ?_)
      refine (h64).mono ?_
      rintro r _ - ⟨rfl, rfl⟩
      repeat (first | refine SeqS.go cok ?_ | refine GuardS.yes rfl ?_ | (refine ValS.keep ?_; first | (with_reducible refine ValS.kU64 ?_; first | (with_reducible refine ValS.addU64_L ?_ ?_ ; omega) | (with_reducible refine ValS.mulU64_M ?_ ?_ ; omega)) | (with_reducible refine ValS.kU16 ?_; first | (with_reducible refine ValS.convU16 ?_ ?_ ; omega) | (with_reducible refine ValS.addU16_L ?_ ?_ ; omega))) | (refine CondS.keep ?_; first | refine CondS.d0 rfl (by omega) ?_))
      refine callN (Pow2_spec (S := ⟨I, G⟩) (k := 8 * a + 7 + 1) (by omega)) ?_
      intro rhN3 I hshN3 hN3
      try replace hN := hN.up hshN3
      try replace hN2 := hN2.up hshN3
      skip
      refine callQ (hdm _ _ hN2 hN3) fun q m J hs hq hm => ?_
      replace hN2 := hN2.up hs
      repeat (first | refine SeqS.go cok ?_)
      refine (hbt _ hN2).mono ?_
      rintro r _ - ⟨rfl, rfl⟩
      repeat (first | refine SeqS.go cok ?_ | refine CondS.f rfl ?_)
      refine callN (Pow2_spec (S := ⟨J, G⟩) (k := 256) (by decide)) fun r4 J4 hs4 hN4 => ?_
      repeat (first | (refine ValS.keep ?_; first | (with_reducible refine ValS.kU16 ?_; first | (with_reducible refine ValS.addU16_L ?_ ?_ ; omega))))
      refine callN (Pow2_spec (S := ⟨J4, G⟩) (k := 8 * a + 7 + 1) (by omega)) fun r5 J5 hs5 hN5 => ?_
      skip
      refine callS (nSub (hN4.up hs5) hN5) fun w J6 hs6 hN6 => ?_
      repeat (first | refine SeqS.go cok ?_)
      refine callN (nAdd (((hm.up hs4).up hs5).up hs6) hN6 hsum.out) fun r7 J7 hs7 hN7 => ?_
      repeat (first | refine SeqS.go cok ?_)
      exact Fin.same ⟨rfl, hN7⟩
    · rw [if_neg h2]
      rw [decide_eq_false h2] at hbt
      clear hbit h2
      refine CallG.start (C := mkC Hvaf.prog) cok (args := [v, u]) Hvaf.func353 rfl Hvaf.ntmps353 (by simp) (by kernel_rfl) ?_
      repeat (first | refine SeqS.go cok ?_)
      refine (h64).mono ?_
      rintro r _ - ⟨rfl, rfl⟩
      repeat (first | refine SeqS.go cok ?_ | refine GuardS.yes rfl ?_ | (refine ValS.keep ?_; first | (with_reducible refine ValS.kU64 ?_; first | (with_reducible refine ValS.addU64_L ?_ ?_ ; omega) | (with_reducible refine ValS.mulU64_M ?_ ?_ ; omega)) | (with_reducible refine ValS.kU16 ?_; first | (with_reducible refine ValS.convU16 ?_ ?_ ; omega) | (with_reducible refine ValS.addU16_L ?_ ?_ ; omega))) | (refine CondS.keep ?_; first | refine CondS.d0 rfl (by omega) ?_))
      refine callN (Pow2_spec (S := ⟨I, G⟩) (k := 8 * a + 7 + 1) (by omega)) ?_
      intro rhN3 I hshN3 hN3
      try replace hN := hN.up hshN3
      try replace hN2 := hN2.up hshN3
      try replace hN3 := hN3.up hshN3
      skip
      refine callQ (hdm _ _ hN2 hN3) fun q m J hs hq hm => ?_
      replace hN2 := hN2.up hs
      repeat (first | refine SeqS.go cok ?_)
      refine (hbt _ hN2).mono ?_
      rintro r _ - ⟨rfl, rfl⟩
      repeat (first | refine SeqS.go cok ?_ | refine CondS.t rfl ?_)
      exact Fin.same ⟨rfl, hm⟩
  · rw [if_neg h1]
    by_cases h2 : a < 2 ^ 64
    · rw [if_pos h2, decide_eq_true h2] at h64
      refine CallG.start (C := mkC Hvaf.prog) cok (args := [v, u]) Hvaf.func353 rfl Hvaf.ntmps353 (by simp) (by kernel_rfl) ?_
      repeat (first | refine SeqS.go cok ?_)
      refine (h64).mono ?_
      rintro r _ - ⟨rfl, rfl⟩
      repeat (first | refine SeqS.go cok ?_ | refine GuardS.yes rfl ?_ | (refine CondS.keep ?_; first | refine CondS.d1 rfl (by omega) ?_))
      refine callN (nNorm hN2) ?_
      intro rhN3 I hshN3 hN3
      try replace hN := hN.up hshN3
      try replace hN2 := hN2.up hshN3
      try replace hN3 := hN3.up hshN3
      repeat (first | refine SeqS.go cok ?_)
      exact Fin.same ⟨rfl, hN3⟩
    · rw [if_neg h2, decide_eq_false h2] at h64
      refine CallG.start (C := mkC Hvaf.prog) cok (args := [v, u]) Hvaf.func353 rfl Hvaf.ntmps353 (by simp) (by kernel_rfl) ?_
      repeat (first | refine SeqS.go cok ?_)
      refine (h64).mono ?_
      rintro r _ - ⟨rfl, rfl⟩
      repeat (first | refine SeqS.go cok ?_ | refine GuardS.no rfl ?_ | refine CondS.t rfl ?_)
      refine callN (nNorm hN2) ?_
      intro rhN3 I hshN3 hN3
      try replace hN := hN.up hshN3
      try replace hN2 := hN2.up hshN3
      try replace hN3 := hN3.up hshN3
      repeat (first | refine SeqS.go cok ?_)
      exact Fin.same ⟨rfl, hN3⟩
theorem pow_min {a : Nat} : 2 ^ (min a 256) ≤ 115792089237316195423570985008687907853269984665640564039457584007913129639936 := Nat.pow_le_pow_right (n := 2) (j := 256) (by decide) (Nat.min_le_right _ _)
theorem yShlA {I : Ent → Prop} {G : List Ent} {v u : Value} {x b : Nat} (hN2 : NatI I u b) (hb : b < 115792089237316195423570985008687907853269984665640564039457584007913129639936) (hx : x ≤ 256) (hx2 : x < 18446744073709551616) (h64 : CallG Hvaf.prog 90 #[v] ⟨I, G⟩ fun r S' => ⟨I, G⟩ = S' ∧ r = .tuple #[.int .u64 (x : Nat), .bool true]) :
    CallG Hvaf.prog 358 #[.int .u8 27, v, u] ⟨I, G⟩ fun r S' => S'.G = G ∧ NatI S'.I r (b * 2 ^ x % 115792089237316195423570985008687907853269984665640564039457584007913129639936) := by
  have hmul : Hid (b * 2 ^ x < NB) := ⟨NB_big (Nat.mul_lt_mul_of_lt_of_le hb (Nat.pow_le_pow_right (n := 2) (j := 256) (by decide) (by omega)) (by decide))⟩
  replace hb : Hid _ := ⟨hb⟩
  refine CallG.start (C := mkC Hvaf.prog) cok (args := [.int .u8 27, v, u]) Hvaf.func358 rfl Hvaf.ntmps358 (by simp) (by kernel_rfl) ?_
  repeat (first | refine SeqS.go cok ?_)
  refine (h64).mono ?_
  rintro r _ - ⟨rfl, rfl⟩
  repeat (first | refine SeqS.go cok ?_ | refine GuardS.yes rfl ?_ | (refine ValS.keep ?_; first | (with_reducible refine ValS.kU16 ?_; first | (with_reducible refine ValS.convU16 ?_ ?_ ; omega))) | (refine CondS.keep ?_; first | refine CondS.d0 rfl (by omega) ?_))
  refine callN (Pow2_spec (S := ⟨I, G⟩) (k := x) (by omega)) ?_
  intro rhN3 I hshN3 hN3
  try replace hN2 := hN2.up hshN3
  repeat (first | refine SeqS.go cok ?_ | refine CondS.t rfl ?_)
  refine callN (nMul hN2 hN3 hmul.out) ?_
  intro rhN4 I hshN4 hN4
  try replace hN2 := hN2.up hshN4
  try replace hN3 := hN3.up hshN4
  skip
  refine callN (yWrapped hN4) ?_
  intro rhN5 I hshN5 hN5
  try replace hN2 := hN2.up hshN5
  try replace hN3 := hN3.up hshN5
  try replace hN4 := hN4.up hshN5
  repeat (first | refine SeqS.go cok ?_)
  exact Fin.same ⟨rfl, hN5⟩
theorem yShlB {I : Ent → Prop} {G : List Ent} {v u : Value} {x b : Nat} (hN2 : NatI I u b) (hb : b < 115792089237316195423570985008687907853269984665640564039457584007913129639936) (hx : 256 < x) (hx2 : x < 18446744073709551616) (h64 : CallG Hvaf.prog 90 #[v] ⟨I, G⟩ fun r S' => ⟨I, G⟩ = S' ∧ r = .tuple #[.int .u64 (x : Nat), .bool true]) :
    CallG Hvaf.prog 358 #[.int .u8 27, v, u] ⟨I, G⟩ fun r S' => S'.G = G ∧ NatI S'.I r (b * 2 ^ 256 % 115792089237316195423570985008687907853269984665640564039457584007913129639936) := by
  have hmul : Hid (b * 2 ^ 256 < NB) := ⟨NB_big (Nat.mul_lt_mul_of_lt_of_le hb (Nat.pow_le_pow_right (n := 2) (j := 256) (by decide) (by omega)) (by decide))⟩
  replace hb : Hid _ := ⟨hb⟩
  refine CallG.start (C := mkC Hvaf.prog) cok (args := [.int .u8 27, v, u]) Hvaf.func358 rfl Hvaf.ntmps358 (by simp) (by kernel_rfl) ?_
  repeat (first | refine SeqS.go cok ?_)
  refine (h64).mono ?_
  rintro r _ - ⟨rfl, rfl⟩
  repeat (first | refine SeqS.go cok ?_ | refine GuardS.yes rfl ?_ | (refine ValS.keep ?_; first | (with_reducible refine ValS.kU16 ?_; first | (with_reducible refine ValS.convU16_LL ?_ ?_ ; omega))) | (refine CondS.keep ?_; first | refine CondS.d1 rfl (by omega) ?_))
  refine callN (Pow2_spec (S := ⟨I, G⟩) (k := 256) (by omega)) ?_
  intro rhN3 I hshN3 hN3
  try replace hN2 := hN2.up hshN3
  repeat (first | refine SeqS.go cok ?_ | refine CondS.t rfl ?_)
  refine callN (nMul hN2 hN3 hmul.out) ?_
  intro rhN4 I hshN4 hN4
  try replace hN2 := hN2.up hshN4
  try replace hN3 := hN3.up hshN4
  skip
  refine callN (yWrapped hN4) ?_
  intro rhN5 I hshN5 hN5
  try replace hN2 := hN2.up hshN5
  try replace hN3 := hN3.up hshN5
  try replace hN4 := hN4.up hshN5
  repeat (first | refine SeqS.go cok ?_)
  exact Fin.same ⟨rfl, hN5⟩
theorem yShlC {I : Ent → Prop} {G : List Ent} {v u : Value} {x b : Nat} (hN2 : NatI I u b) (hb : b < 115792089237316195423570985008687907853269984665640564039457584007913129639936) (hx : 0 ≤ x) (hx2 : x < 18446744073709551616) (h64 : CallG Hvaf.prog 90 #[v] ⟨I, G⟩ fun r S' => ⟨I, G⟩ = S' ∧ r = .tuple #[.int .u64 (x : Nat), .bool false]) :
    CallG Hvaf.prog 358 #[.int .u8 27, v, u] ⟨I, G⟩ fun r S' => S'.G = G ∧ NatI S'.I r (b * 2 ^ 256 % 115792089237316195423570985008687907853269984665640564039457584007913129639936) := by
  have hmul : Hid (b * 2 ^ 256 < NB) := ⟨NB_big (Nat.mul_lt_mul_of_lt_of_le hb (Nat.pow_le_pow_right (n := 2) (j := 256) (by decide) (by omega)) (by decide))⟩
  replace hb : Hid _ := ⟨hb⟩
  refine CallG.start (C := mkC Hvaf.prog) cok (args := [.int .u8 27, v, u]) Hvaf.func358 rfl Hvaf.ntmps358 (by simp) (by kernel_rfl) ?_
  repeat (first | refine SeqS.go cok ?_)
  refine (h64).mono ?_
  rintro r _ - ⟨rfl, rfl⟩
  repeat (first | refine SeqS.go cok ?_ | refine GuardS.no rfl ?_ | refine CondS.t rfl ?_ | (refine ValS.keep ?_; first | (with_reducible refine ValS.kU16 ?_; first | (with_reducible refine ValS.convU16_LL ?_ ?_ ; omega))))
  refine callN (Pow2_spec (S := ⟨I, G⟩) (k := 256) (by omega)) ?_
  intro rhN3 I hshN3 hN3
  try replace hN2 := hN2.up hshN3
  repeat (first | refine SeqS.go cok ?_ | refine CondS.t rfl ?_)
  refine callN (nMul hN2 hN3 hmul.out) ?_
  intro rhN4 I hshN4 hN4
  try replace hN2 := hN2.up hshN4
  try replace hN3 := hN3.up hshN4
  skip
  refine callN (yWrapped hN4) ?_
  intro rhN5 I hshN5 hN5
  try replace hN2 := hN2.up hshN5
  try replace hN3 := hN3.up hshN5
  try replace hN4 := hN4.up hshN5
  repeat (first | refine SeqS.go cok ?_)
  exact Fin.same ⟨rfl, hN5⟩
theorem yShrA {I : Ent → Prop} {G : List Ent} {v u : Value} {x b : Nat} (hN2 : NatI I u b) (hneg : 28 = 29 → b.testBit 255 = false) (hx : x ≤ 256) (hx2 : x < 18446744073709551616) (h64 : CallG Hvaf.prog 90 #[v] ⟨I, G⟩ fun r S' => ⟨I, G⟩ = S' ∧ r = .tuple #[.int .u64 (x : Nat), .bool true]) :
    CallG Hvaf.prog 358 #[.int .u8 28, v, u] ⟨I, G⟩ fun r S' => S'.G = G ∧ NatI S'.I r (b / 2 ^ x) := by
  have hng := fun (J : Ent → Prop) (hu : NatI J u b) (h : b.testBit 255 = false) => (by have := yIsNeg (G := G) hu; rw [h] at this; exact this : CallG Hvaf.prog 351 #[u] ⟨J, G⟩ fun r S' => ⟨J, G⟩ = S' ∧ r = .bool false)
  refine CallG.start (C := mkC Hvaf.prog) cok (args := [.int .u8 28, v, u]) Hvaf.func358 rfl Hvaf.ntmps358 (by simp) (by kernel_rfl) ?_
  repeat (first | refine SeqS.go cok ?_)
  refine (h64).mono ?_
  rintro r _ - ⟨rfl, rfl⟩
  repeat (first | refine SeqS.go cok ?_ | refine GuardS.yes rfl ?_ | (refine ValS.keep ?_; first | (with_reducible refine ValS.kU16 ?_; first | (with_reducible refine ValS.convU16 ?_ ?_ ; omega))) | (refine CondS.keep ?_; first | refine CondS.d0 rfl (by omega) ?_))
  refine callN (Pow2_spec (S := ⟨I, G⟩) (k := x) (by omega)) ?_
  intro rhN3 I hshN3 hN3
  try replace hN2 := hN2.up hshN3
  repeat (first | refine SeqS.go cok ?_ | refine GuardS.no rfl ?_ | refine CondS.f rfl ?_)
  try refine (hng _ hN2 (hneg rfl)).mono ?_
  try rintro r _ - ⟨rfl, rfl⟩
  skip
  refine callQ (nDivMod hN2 hN3) fun q m J hs hq hm => ?_
  repeat (first | refine SeqS.go cok ?_)
  exact Fin.same ⟨rfl, hq⟩
theorem yShrB {I : Ent → Prop} {G : List Ent} {v u : Value} {x b : Nat} (hN2 : NatI I u b) (hneg : 28 = 29 → b.testBit 255 = false) (hx : 256 < x) (hx2 : x < 18446744073709551616) (h64 : CallG Hvaf.prog 90 #[v] ⟨I, G⟩ fun r S' => ⟨I, G⟩ = S' ∧ r = .tuple #[.int .u64 (x : Nat), .bool true]) :
    CallG Hvaf.prog 358 #[.int .u8 28, v, u] ⟨I, G⟩ fun r S' => S'.G = G ∧ NatI S'.I r (b / 2 ^ 256) := by
  have hng := fun (J : Ent → Prop) (hu : NatI J u b) (h : b.testBit 255 = false) => (by have := yIsNeg (G := G) hu; rw [h] at this; exact this : CallG Hvaf.prog 351 #[u] ⟨J, G⟩ fun r S' => ⟨J, G⟩ = S' ∧ r = .bool false)
  refine CallG.start (C := mkC Hvaf.prog) cok (args := [.int .u8 28, v, u]) Hvaf.func358 rfl Hvaf.ntmps358 (by simp) (by kernel_rfl) ?_
  repeat (first | refine SeqS.go cok ?_)
  refine (h64).mono ?_
  rintro r _ - ⟨rfl, rfl⟩
  repeat (first | refine SeqS.go cok ?_ | refine GuardS.yes rfl ?_ | (refine ValS.keep ?_; first | (with_reducible refine ValS.kU16 ?_; first | (with_reducible refine ValS.convU16_LL ?_ ?_ ; omega))) | (refine CondS.keep ?_; first | refine CondS.d1 rfl (by omega) ?_))
  refine callN (Pow2_spec (S := ⟨I, G⟩) (k := 256) (by omega)) ?_
  intro rhN3 I hshN3 hN3
  try replace hN2 := hN2.up hshN3
  repeat (first | refine SeqS.go cok ?_ | refine GuardS.no rfl ?_ | refine CondS.f rfl ?_)
  try refine (hng _ hN2 (hneg rfl)).mono ?_
  try rintro r _ - ⟨rfl, rfl⟩
  skip
  refine callQ (nDivMod hN2 hN3) fun q m J hs hq hm => ?_
  repeat (first | refine SeqS.go cok ?_)
  exact Fin.same ⟨rfl, hq⟩
theorem yShrC {I : Ent → Prop} {G : List Ent} {v u : Value} {x b : Nat} (hN2 : NatI I u b) (hneg : 28 = 29 → b.testBit 255 = false) (hx : 0 ≤ x) (hx2 : x < 18446744073709551616) (h64 : CallG Hvaf.prog 90 #[v] ⟨I, G⟩ fun r S' => ⟨I, G⟩ = S' ∧ r = .tuple #[.int .u64 (x : Nat), .bool false]) :
    CallG Hvaf.prog 358 #[.int .u8 28, v, u] ⟨I, G⟩ fun r S' => S'.G = G ∧ NatI S'.I r (b / 2 ^ 256) := by
  have hng := fun (J : Ent → Prop) (hu : NatI J u b) (h : b.testBit 255 = false) => (by have := yIsNeg (G := G) hu; rw [h] at this; exact this : CallG Hvaf.prog 351 #[u] ⟨J, G⟩ fun r S' => ⟨J, G⟩ = S' ∧ r = .bool false)
  refine CallG.start (C := mkC Hvaf.prog) cok (args := [.int .u8 28, v, u]) Hvaf.func358 rfl Hvaf.ntmps358 (by simp) (by kernel_rfl) ?_
  repeat (first | refine SeqS.go cok ?_)
  refine (h64).mono ?_
  rintro r _ - ⟨rfl, rfl⟩
  repeat (first | refine SeqS.go cok ?_ | refine GuardS.no rfl ?_ | refine CondS.t rfl ?_ | (refine ValS.keep ?_; first | (with_reducible refine ValS.kU16 ?_; first | (with_reducible refine ValS.convU16_LL ?_ ?_ ; omega))))
  refine callN (Pow2_spec (S := ⟨I, G⟩) (k := 256) (by omega)) ?_
  intro rhN3 I hshN3 hN3
  try replace hN2 := hN2.up hshN3
  repeat (first | refine SeqS.go cok ?_ | refine GuardS.no rfl ?_ | refine CondS.f rfl ?_)
  try refine (hng _ hN2 (hneg rfl)).mono ?_
  try rintro r _ - ⟨rfl, rfl⟩
  skip
  refine callQ (nDivMod hN2 hN3) fun q m J hs hq hm => ?_
  repeat (first | refine SeqS.go cok ?_)
  exact Fin.same ⟨rfl, hq⟩
theorem ySarA {I : Ent → Prop} {G : List Ent} {v u : Value} {x b : Nat} (hN2 : NatI I u b) (hneg : 29 = 29 → b.testBit 255 = false) (hx : x ≤ 256) (hx2 : x < 18446744073709551616) (h64 : CallG Hvaf.prog 90 #[v] ⟨I, G⟩ fun r S' => ⟨I, G⟩ = S' ∧ r = .tuple #[.int .u64 (x : Nat), .bool true]) :
    CallG Hvaf.prog 358 #[.int .u8 29, v, u] ⟨I, G⟩ fun r S' => S'.G = G ∧ NatI S'.I r (b / 2 ^ x) := by
  have hng := fun (J : Ent → Prop) (hu : NatI J u b) (h : b.testBit 255 = false) => (by have := yIsNeg (G := G) hu; rw [h] at this; exact this : CallG Hvaf.prog 351 #[u] ⟨J, G⟩ fun r S' => ⟨J, G⟩ = S' ∧ r = .bool false)
  refine CallG.start (C := mkC Hvaf.prog) cok (args := [.int .u8 29, v, u]) Hvaf.func358 rfl Hvaf.ntmps358 (by simp) (by kernel_rfl) ?_
  repeat (first | refine SeqS.go cok ?_)
  refine (h64).mono ?_
  rintro r _ - ⟨rfl, rfl⟩
  repeat (first | refine SeqS.go cok ?_ | refine GuardS.yes rfl ?_ | (refine ValS.keep ?_; first | (with_reducible refine ValS.kU16 ?_; first | (with_reducible refine ValS.convU16 ?_ ?_ ; omega))) | (refine CondS.keep ?_; first | refine CondS.d0 rfl (by omega) ?_))
  refine callN (Pow2_spec (S := ⟨I, G⟩) (k := x) (by omega)) ?_
  intro rhN3 I hshN3 hN3
  try replace hN2 := hN2.up hshN3
  repeat (first | refine SeqS.go cok ?_ | refine GuardS.yes rfl ?_ | refine CondS.f rfl ?_)
  try refine (hng _ hN2 (hneg rfl)).mono ?_
  try rintro r _ - ⟨rfl, rfl⟩
  repeat (first | refine SeqS.go cok ?_ | refine CondS.f rfl ?_)
  refine callQ (nDivMod hN2 hN3) fun q m J hs hq hm => ?_
  repeat (first | refine SeqS.go cok ?_)
  exact Fin.same ⟨rfl, hq⟩
theorem ySarB {I : Ent → Prop} {G : List Ent} {v u : Value} {x b : Nat} (hN2 : NatI I u b) (hneg : 29 = 29 → b.testBit 255 = false) (hx : 256 < x) (hx2 : x < 18446744073709551616) (h64 : CallG Hvaf.prog 90 #[v] ⟨I, G⟩ fun r S' => ⟨I, G⟩ = S' ∧ r = .tuple #[.int .u64 (x : Nat), .bool true]) :
    CallG Hvaf.prog 358 #[.int .u8 29, v, u] ⟨I, G⟩ fun r S' => S'.G = G ∧ NatI S'.I r (b / 2 ^ 256) := by
  have hng := fun (J : Ent → Prop) (hu : NatI J u b) (h : b.testBit 255 = false) => (by have := yIsNeg (G := G) hu; rw [h] at this; exact this : CallG Hvaf.prog 351 #[u] ⟨J, G⟩ fun r S' => ⟨J, G⟩ = S' ∧ r = .bool false)
  refine CallG.start (C := mkC Hvaf.prog) cok (args := [.int .u8 29, v, u]) Hvaf.func358 rfl Hvaf.ntmps358 (by simp) (by kernel_rfl) ?_
  repeat (first | refine SeqS.go cok ?_)
  refine (h64).mono ?_
  rintro r _ - ⟨rfl, rfl⟩
  repeat (first | refine SeqS.go cok ?_ | refine GuardS.yes rfl ?_ | (refine ValS.keep ?_; first | (with_reducible refine ValS.kU16 ?_; first | (with_reducible refine ValS.convU16_LL ?_ ?_ ; omega))) | (refine CondS.keep ?_; first | refine CondS.d1 rfl (by omega) ?_))
  refine callN (Pow2_spec (S := ⟨I, G⟩) (k := 256) (by omega)) ?_
  intro rhN3 I hshN3 hN3
  try replace hN2 := hN2.up hshN3
  repeat (first | refine SeqS.go cok ?_ | refine GuardS.yes rfl ?_ | refine CondS.f rfl ?_)
  try refine (hng _ hN2 (hneg rfl)).mono ?_
  try rintro r _ - ⟨rfl, rfl⟩
  repeat (first | refine SeqS.go cok ?_ | refine CondS.f rfl ?_)
  refine callQ (nDivMod hN2 hN3) fun q m J hs hq hm => ?_
  repeat (first | refine SeqS.go cok ?_)
  exact Fin.same ⟨rfl, hq⟩
theorem ySarC {I : Ent → Prop} {G : List Ent} {v u : Value} {x b : Nat} (hN2 : NatI I u b) (hneg : 29 = 29 → b.testBit 255 = false) (hx : 0 ≤ x) (hx2 : x < 18446744073709551616) (h64 : CallG Hvaf.prog 90 #[v] ⟨I, G⟩ fun r S' => ⟨I, G⟩ = S' ∧ r = .tuple #[.int .u64 (x : Nat), .bool false]) :
    CallG Hvaf.prog 358 #[.int .u8 29, v, u] ⟨I, G⟩ fun r S' => S'.G = G ∧ NatI S'.I r (b / 2 ^ 256) := by
  have hng := fun (J : Ent → Prop) (hu : NatI J u b) (h : b.testBit 255 = false) => (by have := yIsNeg (G := G) hu; rw [h] at this; exact this : CallG Hvaf.prog 351 #[u] ⟨J, G⟩ fun r S' => ⟨J, G⟩ = S' ∧ r = .bool false)
  refine CallG.start (C := mkC Hvaf.prog) cok (args := [.int .u8 29, v, u]) Hvaf.func358 rfl Hvaf.ntmps358 (by simp) (by kernel_rfl) ?_
  repeat (first | refine SeqS.go cok ?_)
  refine (h64).mono ?_
  rintro r _ - ⟨rfl, rfl⟩
  repeat (first | refine SeqS.go cok ?_ | refine GuardS.no rfl ?_ | refine CondS.t rfl ?_ | (refine ValS.keep ?_; first | (with_reducible refine ValS.kU16 ?_; first | (with_reducible refine ValS.convU16_LL ?_ ?_ ; omega))))
  refine callN (Pow2_spec (S := ⟨I, G⟩) (k := 256) (by omega)) ?_
  intro rhN3 I hshN3 hN3
  try replace hN2 := hN2.up hshN3
  repeat (first | refine SeqS.go cok ?_ | refine GuardS.yes rfl ?_ | refine CondS.f rfl ?_)
  try refine (hng _ hN2 (hneg rfl)).mono ?_
  try rintro r _ - ⟨rfl, rfl⟩
  repeat (first | refine SeqS.go cok ?_ | refine CondS.f rfl ?_)
  refine callQ (nDivMod hN2 hN3) fun q m J hs hq hm => ?_
  repeat (first | refine SeqS.go cok ?_)
  exact Fin.same ⟨rfl, hq⟩
theorem ySarNA {I : Ent → Prop} {G : List Ent} {v u : Value} {x b : Nat} (hN2 : NatI I u b) (hb : b < 115792089237316195423570985008687907853269984665640564039457584007913129639936) (hneg : b.testBit 255 = true) (hx : x ≤ 256) (hx2 : x < 18446744073709551616) (h64 : CallG Hvaf.prog 90 #[v] ⟨I, G⟩ fun r S' => ⟨I, G⟩ = S' ∧ r = .tuple #[.int .u64 (x : Nat), .bool true]) :
    CallG Hvaf.prog 358 #[.int .u8 29, v, u] ⟨I, G⟩ fun r S' => S'.G = G ∧ NatI S'.I r (115792089237316195423570985008687907853269984665640564039457584007913129639936 - 1 - (115792089237316195423570985008687907853269984665640564039457584007913129639936 - 1 - b) / 2 ^ x) := by
  have hlt : Hid ((115792089237316195423570985008687907853269984665640564039457584007913129639936 - 1 - b) / 2 ^ x < 115792089237316195423570985008687907853269984665640564039457584007913129639936) := ⟨Nat.lt_of_le_of_lt (Nat.div_le_self _ _) (by omega)⟩
  replace hb : Hid _ := ⟨hb⟩
  have hng := fun (J : Ent → Prop) (hu : NatI J u b) (h : b.testBit 255 = true) => (by have := yIsNeg (G := G) hu; rw [h] at this; exact this : CallG Hvaf.prog 351 #[u] ⟨J, G⟩ fun r S' => ⟨J, G⟩ = S' ∧ r = .bool true)
  refine CallG.start (C := mkC Hvaf.prog) cok (args := [.int .u8 29, v, u]) Hvaf.func358 rfl Hvaf.ntmps358 (by simp) (by kernel_rfl) ?_
  repeat (first | refine SeqS.go cok ?_)
  refine (h64).mono ?_
  rintro r _ - ⟨rfl, rfl⟩
  repeat (first | refine SeqS.go cok ?_ | refine GuardS.yes rfl ?_ | (refine ValS.keep ?_; first | (with_reducible refine ValS.kU16 ?_; first | (with_reducible refine ValS.convU16 ?_ ?_ ; omega))) | (refine CondS.keep ?_; first | refine CondS.d0 rfl (by omega) ?_))
  refine callN (Pow2_spec (S := ⟨I, G⟩) (k := x) (by omega)) ?_
  intro rhN3 I hshN3 hN3
  try replace hN2 := hN2.up hshN3
  repeat (first | refine SeqS.go cok ?_ | refine GuardS.yes rfl ?_ | refine CondS.f rfl ?_)
  refine (hng _ hN2 hneg).mono ?_
  rintro r _ - ⟨rfl, rfl⟩
  repeat (first | refine SeqS.go cok ?_ | refine CondS.t rfl ?_)
  refine callN (yNot hN2 hb.out) ?_
  intro rhN4 I hshN4 hN4
  try replace hN2 := hN2.up hshN4
  try replace hN3 := hN3.up hshN4
  skip
  refine callQ (nDivMod hN4 hN3) fun q m J hs hq hm => ?_
  repeat (first | refine SeqS.go cok ?_)
  refine callN (yNot hq hlt.out) fun r5 J5 hs5 hN5 => ?_
  repeat (first | refine SeqS.go cok ?_)
  exact Fin.same ⟨rfl, hN5⟩
theorem ySarNB {I : Ent → Prop} {G : List Ent} {v u : Value} {x b : Nat} (hN2 : NatI I u b) (hb : b < 115792089237316195423570985008687907853269984665640564039457584007913129639936) (hneg : b.testBit 255 = true) (hx : 256 < x) (hx2 : x < 18446744073709551616) (h64 : CallG Hvaf.prog 90 #[v] ⟨I, G⟩ fun r S' => ⟨I, G⟩ = S' ∧ r = .tuple #[.int .u64 (x : Nat), .bool true]) :
    CallG Hvaf.prog 358 #[.int .u8 29, v, u] ⟨I, G⟩ fun r S' => S'.G = G ∧ NatI S'.I r (115792089237316195423570985008687907853269984665640564039457584007913129639936 - 1 - (115792089237316195423570985008687907853269984665640564039457584007913129639936 - 1 - b) / 2 ^ 256) := by
  have hlt : Hid ((115792089237316195423570985008687907853269984665640564039457584007913129639936 - 1 - b) / 2 ^ 256 < 115792089237316195423570985008687907853269984665640564039457584007913129639936) := ⟨Nat.lt_of_le_of_lt (Nat.div_le_self _ _) (by omega)⟩
  replace hb : Hid _ := ⟨hb⟩
  have hng := fun (J : Ent → Prop) (hu : NatI J u b) (h : b.testBit 255 = true) => (by have := yIsNeg (G := G) hu; rw [h] at this; exact this : CallG Hvaf.prog 351 #[u] ⟨J, G⟩ fun r S' => ⟨J, G⟩ = S' ∧ r = .bool true)
  refine CallG.start (C := mkC Hvaf.prog) cok (args := [.int .u8 29, v, u]) Hvaf.func358 rfl Hvaf.ntmps358 (by simp) (by kernel_rfl) ?_
  repeat (first | refine SeqS.go cok ?_)
  refine (h64).mono ?_
  rintro r _ - ⟨rfl, rfl⟩
  repeat (first | refine SeqS.go cok ?_ | refine GuardS.yes rfl ?_ | (refine ValS.keep ?_; first | (with_reducible refine ValS.kU16 ?_; first | (with_reducible refine ValS.convU16_LL ?_ ?_ ; omega))) | (refine CondS.keep ?_; first | refine CondS.d1 rfl (by omega) ?_))
  refine callN (Pow2_spec (S := ⟨I, G⟩) (k := 256) (by omega)) ?_
  intro rhN3 I hshN3 hN3
  try replace hN2 := hN2.up hshN3
  repeat (first | refine SeqS.go cok ?_ | refine GuardS.yes rfl ?_ | refine CondS.f rfl ?_)
  refine (hng _ hN2 hneg).mono ?_
  rintro r _ - ⟨rfl, rfl⟩
  repeat (first | refine SeqS.go cok ?_ | refine CondS.t rfl ?_)
  refine callN (yNot hN2 hb.out) ?_
  intro rhN4 I hshN4 hN4
  try replace hN2 := hN2.up hshN4
  try replace hN3 := hN3.up hshN4
  skip
  refine callQ (nDivMod hN4 hN3) fun q m J hs hq hm => ?_
  repeat (first | refine SeqS.go cok ?_)
  refine callN (yNot hq hlt.out) fun r5 J5 hs5 hN5 => ?_
  repeat (first | refine SeqS.go cok ?_)
  exact Fin.same ⟨rfl, hN5⟩
theorem ySarNC {I : Ent → Prop} {G : List Ent} {v u : Value} {x b : Nat} (hN2 : NatI I u b) (hb : b < 115792089237316195423570985008687907853269984665640564039457584007913129639936) (hneg : b.testBit 255 = true) (hx : 0 ≤ x) (hx2 : x < 18446744073709551616) (h64 : CallG Hvaf.prog 90 #[v] ⟨I, G⟩ fun r S' => ⟨I, G⟩ = S' ∧ r = .tuple #[.int .u64 (x : Nat), .bool false]) :
    CallG Hvaf.prog 358 #[.int .u8 29, v, u] ⟨I, G⟩ fun r S' => S'.G = G ∧ NatI S'.I r (115792089237316195423570985008687907853269984665640564039457584007913129639936 - 1 - (115792089237316195423570985008687907853269984665640564039457584007913129639936 - 1 - b) / 2 ^ 256) := by
  have hlt : Hid ((115792089237316195423570985008687907853269984665640564039457584007913129639936 - 1 - b) / 2 ^ 256 < 115792089237316195423570985008687907853269984665640564039457584007913129639936) := ⟨Nat.lt_of_le_of_lt (Nat.div_le_self _ _) (by omega)⟩
  replace hb : Hid _ := ⟨hb⟩
  have hng := fun (J : Ent → Prop) (hu : NatI J u b) (h : b.testBit 255 = true) => (by have := yIsNeg (G := G) hu; rw [h] at this; exact this : CallG Hvaf.prog 351 #[u] ⟨J, G⟩ fun r S' => ⟨J, G⟩ = S' ∧ r = .bool true)
  refine CallG.start (C := mkC Hvaf.prog) cok (args := [.int .u8 29, v, u]) Hvaf.func358 rfl Hvaf.ntmps358 (by simp) (by kernel_rfl) ?_
  repeat (first | refine SeqS.go cok ?_)
  refine (h64).mono ?_
  rintro r _ - ⟨rfl, rfl⟩
  repeat (first | refine SeqS.go cok ?_ | refine GuardS.no rfl ?_ | refine CondS.t rfl ?_ | (refine ValS.keep ?_; first | (with_reducible refine ValS.kU16 ?_; first | (with_reducible refine ValS.convU16_LL ?_ ?_ ; omega))))
  refine callN (Pow2_spec (S := ⟨I, G⟩) (k := 256) (by omega)) ?_
  intro rhN3 I hshN3 hN3
  try replace hN2 := hN2.up hshN3
  repeat (first | refine SeqS.go cok ?_ | refine GuardS.yes rfl ?_ | refine CondS.f rfl ?_)
  refine (hng _ hN2 hneg).mono ?_
  rintro r _ - ⟨rfl, rfl⟩
  repeat (first | refine SeqS.go cok ?_ | refine CondS.t rfl ?_)
  refine callN (yNot hN2 hb.out) ?_
  intro rhN4 I hshN4 hN4
  try replace hN2 := hN2.up hshN4
  try replace hN3 := hN3.up hshN4
  skip
  refine callQ (nDivMod hN4 hN3) fun q m J hs hq hm => ?_
  repeat (first | refine SeqS.go cok ?_)
  refine callN (yNot hq hlt.out) fun r5 J5 hs5 hN5 => ?_
  repeat (first | refine SeqS.go cok ?_)
  exact Fin.same ⟨rfl, hN5⟩
theorem u64_split {I : Ent → Prop} {G : List Ent} {v : Value} {a : Nat} (hN : NatI I v a) {Q : Prop}
    (h1 : a ≤ 256 → CallG Hvaf.prog 90 #[v] ⟨I, G⟩ (fun r S' => ⟨I, G⟩ = S' ∧ r = .tuple #[.int .u64 (a : Nat), .bool true]) → Q)
    (h2 : 256 < a → a < 18446744073709551616 → CallG Hvaf.prog 90 #[v] ⟨I, G⟩ (fun r S' => ⟨I, G⟩ = S' ∧ r = .tuple #[.int .u64 (a : Nat), .bool true]) → Q)
    (h3 : 256 < a → CallG Hvaf.prog 90 #[v] ⟨I, G⟩ (fun r S' => ⟨I, G⟩ = S' ∧ r = .tuple #[.int .u64 (0 : Nat), .bool false]) → Q) : Q := by
  have h64 := nU64 (G := G) hN
  by_cases h : a < 2 ^ 64
  · rw [if_pos h, decide_eq_true h] at h64
    by_cases h' : a ≤ 256
    · exact h1 h' h64
    · exact h2 (by omega) h h64
  · rw [if_neg h, decide_eq_false h] at h64
    exact h3 (by omega) h64
/-- yp.shifted -/
theorem yShl {I : Ent → Prop} {G : List Ent} {v u : Value} {a b : Nat} (hN : NatI I v a) (hN2 : NatI I u b) (hb : b < 115792089237316195423570985008687907853269984665640564039457584007913129639936) :
    CallG Hvaf.prog 358 #[.int .u8 27, v, u] ⟨I, G⟩ fun r S' => S'.G = G ∧ NatI S'.I r (b * 2 ^ (min a 256) % 115792089237316195423570985008687907853269984665640564039457584007913129639936) := by
  refine u64_split (G := G) hN (fun h k => ?_) (fun h h' k => ?_) (fun h k => ?_)
  · rw [Nat.min_eq_left h]; exact yShlA hN2 hb h (by omega) k
  · rw [Nat.min_eq_right (Nat.le_of_lt h)]; exact yShlB hN2 hb h h' k
  · rw [Nat.min_eq_right (Nat.le_of_lt h)]; exact yShlC hN2 hb (Nat.zero_le 0) (by decide) k
theorem yShr {I : Ent → Prop} {G : List Ent} {v u : Value} {a b : Nat} (hN : NatI I v a) (hN2 : NatI I u b) :
    CallG Hvaf.prog 358 #[.int .u8 28, v, u] ⟨I, G⟩ fun r S' => S'.G = G ∧ NatI S'.I r (b / 2 ^ (min a 256)) := by
  refine u64_split (G := G) hN (fun h k => ?_) (fun h h' k => ?_) (fun h k => ?_)
  · rw [Nat.min_eq_left h]; exact yShrA hN2 (fun h => absurd h (by decide)) h (by omega) k
  · rw [Nat.min_eq_right (Nat.le_of_lt h)]; exact yShrB hN2 (fun h => absurd h (by decide)) h h' k
  · rw [Nat.min_eq_right (Nat.le_of_lt h)]; exact yShrC hN2 (fun h => absurd h (by decide)) (Nat.zero_le 0) (by decide) k
theorem ySar {I : Ent → Prop} {G : List Ent} {v u : Value} {a b : Nat} (hN : NatI I v a) (hN2 : NatI I u b) (hb : b < 115792089237316195423570985008687907853269984665640564039457584007913129639936) :
    CallG Hvaf.prog 358 #[.int .u8 29, v, u] ⟨I, G⟩ fun r S' => S'.G = G ∧ NatI S'.I r (if b.testBit 255 then 115792089237316195423570985008687907853269984665640564039457584007913129639936 - 1 - (115792089237316195423570985008687907853269984665640564039457584007913129639936 - 1 - b) / 2 ^ (min a 256) else b / 2 ^ (min a 256)) := by
  cases hn : b.testBit 255
  · rw [if_neg (by decide)]
    refine u64_split (G := G) hN (fun h k => ?_) (fun h h' k => ?_) (fun h k => ?_)
    · rw [Nat.min_eq_left h]; exact ySarA hN2 (fun _ => hn) h (by omega) k
    · rw [Nat.min_eq_right (Nat.le_of_lt h)]; exact ySarB hN2 (fun _ => hn) h h' k
    · rw [Nat.min_eq_right (Nat.le_of_lt h)]; exact ySarC hN2 (fun _ => hn) (Nat.zero_le 0) (by decide) k
  · rw [if_pos rfl]
    refine u64_split (G := G) hN (fun h k => ?_) (fun h h' k => ?_) (fun h k => ?_)
    · rw [Nat.min_eq_left h]; exact ySarNA hN2 hb hn h (by omega) k
    · rw [Nat.min_eq_right (Nat.le_of_lt h)]; exact ySarNB hN2 hb hn h h' k
    · rw [Nat.min_eq_right (Nat.le_of_lt h)]; exact ySarNC hN2 hb hn (Nat.zero_le 0) (by decide) k
end Go.Proofs.YgvafwGreat
