import Derived.Test.YgvafwGreatU7
set_option maxRecDepth 100000
set_option maxHeartbeats 4000000
set_option linter.unusedVariables false
set_option linter.unusedSimpArgs false
-- v2
namespace Go.Proofs.YgvafwGreat
open Go.HL Go.Proofs

theorem byte_low {c Y u : Nat} (hu : u ≤ 56) : (c + 18446744073709551616 * Y) / 2 ^ u % 256 = c / 2 ^ u % 256 := by
  have e : 18446744073709551616 = 2 ^ u * (256 * 2 ^ (56 - u)) := by rw [show (256 : Nat) = 2 ^ 8 from rfl, ← Nat.pow_add, ← Nat.pow_add, show u + (8 + (56 - u)) = 64 by omega]
  rw [e, Nat.mul_assoc, Nat.add_mul_div_left _ _ (Nat.two_pow_pos u), Nat.mul_assoc, Nat.add_mul_mod_self_left]
theorem byte3 {b0 b1 b2 b3 u : Nat} (g0 : b0 < 18446744073709551616) (g1 : b1 < 18446744073709551616) (g2 : b2 < 18446744073709551616) (hu : u ≤ 56) : (b0 + 18446744073709551616 * b1 + 340282366920938463463374607431768211456 * b2 + 6277101735386680763835789423207666416102355444464034512896 * b3) / 2 ^ (64 * 3 + u) % 256 = b3 / 2 ^ u % 256 := by
  rw [pw3, Nat.mul_comm (2 ^ u), ← Nat.div_div_eq_div_mul, show (b0 + 18446744073709551616 * b1 + 340282366920938463463374607431768211456 * b2 + 6277101735386680763835789423207666416102355444464034512896 * b3) / 6277101735386680763835789423207666416102355444464034512896 = b3 by omega]
theorem byte2 {b0 b1 b2 b3 u : Nat} (g0 : b0 < 18446744073709551616) (g1 : b1 < 18446744073709551616) (g2 : b2 < 18446744073709551616) (hu : u ≤ 56) : (b0 + 18446744073709551616 * b1 + 340282366920938463463374607431768211456 * b2 + 6277101735386680763835789423207666416102355444464034512896 * b3) / 2 ^ (64 * 2 + u) % 256 = b2 / 2 ^ u % 256 := by
  rw [pw2, Nat.mul_comm (2 ^ u), ← Nat.div_div_eq_div_mul, show (b0 + 18446744073709551616 * b1 + 340282366920938463463374607431768211456 * b2 + 6277101735386680763835789423207666416102355444464034512896 * b3) / 340282366920938463463374607431768211456 = b2 + 18446744073709551616 * b3 by omega, byte_low hu]
theorem byte1 {b0 b1 b2 b3 u : Nat} (g0 : b0 < 18446744073709551616) (g1 : b1 < 18446744073709551616) (g2 : b2 < 18446744073709551616) (hu : u ≤ 56) : (b0 + 18446744073709551616 * b1 + 340282366920938463463374607431768211456 * b2 + 6277101735386680763835789423207666416102355444464034512896 * b3) / 2 ^ (64 * 1 + u) % 256 = b1 / 2 ^ u % 256 := by
  rw [pw1, Nat.mul_comm (2 ^ u), ← Nat.div_div_eq_div_mul, show (b0 + 18446744073709551616 * b1 + 340282366920938463463374607431768211456 * b2 + 6277101735386680763835789423207666416102355444464034512896 * b3) / 18446744073709551616 = b1 + 18446744073709551616 * (b2 + 18446744073709551616 * b3) by omega, byte_low hu]
theorem byte0 {b0 b1 b2 b3 u : Nat} (g0 : b0 < 18446744073709551616) (g1 : b1 < 18446744073709551616) (g2 : b2 < 18446744073709551616) (hu : u ≤ 56) : (b0 + 18446744073709551616 * b1 + 340282366920938463463374607431768211456 * b2 + 6277101735386680763835789423207666416102355444464034512896 * b3) / 2 ^ (64 * 0 + u) % 256 = b0 / 2 ^ u % 256 := by
  rw [Nat.mul_zero, Nat.zero_add, show (b0 + 18446744073709551616 * b1 + 340282366920938463463374607431768211456 * b2 + 6277101735386680763835789423207666416102355444464034512896 * b3) = b0 + 18446744073709551616 * (b1 + 18446744073709551616 * (b2 + 18446744073709551616 * b3)) by omega, byte_low hu]
theorem WV_low {x : Nat} (hx : x < 18446744073709551616) : WV x 0 0 0 = wordV x := WV_eq hx (by omega) (by omega) (by omega) (by omega)

/-- u256.Byte -/
theorem UByte_spec {S : St} {a b : Nat} (ha : a < 115792089237316195423570985008687907853269984665640564039457584007913129639936) (hb : b < 115792089237316195423570985008687907853269984665640564039457584007913129639936) :
    CallG Hvaf.prog 298 #[wordV a, wordV b] S fun r S' => S = S' ∧ r = wordV (if a < 32 then b / 2 ^ (8 * (31 - a)) % 256 else 0) := by
  obtain ⟨b0, b1, b2, b3, g0, g1, g2, g3, eb, vb⟩ := word_cases hb
  rw [vb]
  clear vb hb
  replace ha : Hid _ := ⟨ha⟩
  refine CallG.start (C := mkC Hvaf.prog) cok (args := [wordV a, WV b0 b1 b2 b3]) Hvaf.func298 rfl Hvaf.ntmps298 (by simp) (by kernel_rfl) ?_
  intro xa xb xr
  repeat (first | refine SeqS.go cok ?_ | (refine QuG.keep ?_; first | refine QuG.lN cok 2 rfl rfl rfl rfl rfl (by first | exact Nat.le_of_ble_eq_true rfl | omega | (dsimp only; omega) | (simp only [addS_eq, mulS_eq]; omega)) ?_))
  refine (Ubelow_spec (n := 32) ha.out (by omega)).mono ?_
  rintro r _ - ⟨rfl, x, rfl, hx⟩
  by_cases hs : a < 32
  · rw [if_pos hs]
    have := (hx hs).symm
    subst this
    have d0 := Nat.div_le_self b0 (2 ^ (56 - 8 * (a % 8)))
    have d1 := Nat.div_le_self b1 (2 ^ (56 - 8 * (a % 8)))
    have d2 := Nat.div_le_self b2 (2 ^ (56 - 8 * (a % 8)))
    have d3 := Nat.div_le_self b3 (2 ^ (56 - 8 * (a % 8)))
    have hcs : a / 8 = 0 ∨ a / 8 = 1 ∨ a / 8 = 2 ∨ a / 8 = 3 := by omega
    rcases hcs with hk | hk | hk | hk
    · repeat (first | (refine ValS.keep ?_; with_reducible refine ValS.quoK 0 (by omega) (by omega) ?_) | refine SeqS.go cok ?_ | refine And.intro (fillOk_of (Eq.refl true)) ?_ | refine And.intro (by omega) ?_ | refine And.intro (by dsimp only; omega) ?_ | (refine NatS.keep ?_; first | with_reducible refine NatS.nat ?_) | (refine ValS.keep ?_; first | (with_reducible refine ValS.kU64 ?_; first | (with_reducible refine ValS.and255U64 ?_ ?_; omega) | (with_reducible refine ValS.subU64_M ?_ ?_ ?_ ; omega; omega) | (with_reducible refine ValS.shrU64 ?_ ?_ ; omega) | (with_reducible refine ValS.mulU64_M ?_ ?_ ; omega) | with_reducible refine ValS.remN_L ?_)) | (refine QuG.keep ?_; first | refine QuG.l1 cok 1 rfl rfl rfl rfl rfl (by first | exact Nat.le_of_ble_eq_true rfl | omega | (dsimp only; omega) | (simp only [addS_eq, mulS_eq]; omega)) ?_) | (refine LdG.keep ?_; first | refine LdG.lN cok 0 rfl rfl rfl rfl rfl (by first | exact Nat.le_of_ble_eq_true rfl | omega | (dsimp only; omega) | (simp only [addS_eq, mulS_eq]; omega)) ?_) | (refine OpG.keep ?_; first | refine OpG.sL cok 0 rfl rfl rfl rfl rfl rfl rfl (by first | exact Nat.le_of_ble_eq_true rfl | omega | (dsimp only; omega) | (simp only [addS_eq, mulS_eq]; omega)) ?_) | (refine CondS.keep ?_; first | refine CondS.nd0 rfl (by omega) ?_))
      obtain ⟨rfl⟩ := eb
      refine Fin.drop S.G [_, _, _] ⟨rfl, tW rfl (Eq.trans (WV_low (by omega)) ?_)⟩
      rw [show 8 * (31 - a) = 64 * 3 + (56 - 8 * (a % 8)) by omega, byte3 g0 g1 g2 (by omega)]
    · repeat (first | (refine ValS.keep ?_; with_reducible refine ValS.quoK 1 (by omega) (by omega) ?_) | refine SeqS.go cok ?_ | refine And.intro (fillOk_of (Eq.refl true)) ?_ | refine And.intro (by omega) ?_ | refine And.intro (by dsimp only; omega) ?_ | (refine NatS.keep ?_; first | with_reducible refine NatS.nat ?_) | (refine ValS.keep ?_; first | (with_reducible refine ValS.kU64 ?_; first | (with_reducible refine ValS.and255U64 ?_ ?_; omega) | (with_reducible refine ValS.subU64_M ?_ ?_ ?_ ; omega; omega) | (with_reducible refine ValS.shrU64 ?_ ?_ ; omega) | (with_reducible refine ValS.mulU64_M ?_ ?_ ; omega) | with_reducible refine ValS.remN_L ?_)) | (refine QuG.keep ?_; first | refine QuG.l1 cok 1 rfl rfl rfl rfl rfl (by first | exact Nat.le_of_ble_eq_true rfl | omega | (dsimp only; omega) | (simp only [addS_eq, mulS_eq]; omega)) ?_) | (refine LdG.keep ?_; first | refine LdG.lN cok 0 rfl rfl rfl rfl rfl (by first | exact Nat.le_of_ble_eq_true rfl | omega | (dsimp only; omega) | (simp only [addS_eq, mulS_eq]; omega)) ?_) | (refine OpG.keep ?_; first | refine OpG.sL cok 0 rfl rfl rfl rfl rfl rfl rfl (by first | exact Nat.le_of_ble_eq_true rfl | omega | (dsimp only; omega) | (simp only [addS_eq, mulS_eq]; omega)) ?_) | (refine CondS.keep ?_; first | refine CondS.nd0 rfl (by omega) ?_))
      obtain ⟨rfl⟩ := eb
      refine Fin.drop S.G [_, _, _] ⟨rfl, tW rfl (Eq.trans (WV_low (by omega)) ?_)⟩
      rw [show 8 * (31 - a) = 64 * 2 + (56 - 8 * (a % 8)) by omega, byte2 g0 g1 g2 (by omega)]
    · repeat (first | (refine ValS.keep ?_; with_reducible refine ValS.quoK 2 (by omega) (by omega) ?_) | refine SeqS.go cok ?_ | refine And.intro (fillOk_of (Eq.refl true)) ?_ | refine And.intro (by omega) ?_ | refine And.intro (by dsimp only; omega) ?_ | (refine NatS.keep ?_; first | with_reducible refine NatS.nat ?_) | (refine ValS.keep ?_; first | (with_reducible refine ValS.kU64 ?_; first | (with_reducible refine ValS.and255U64 ?_ ?_; omega) | (with_reducible refine ValS.subU64_M ?_ ?_ ?_ ; omega; omega) | (with_reducible refine ValS.shrU64 ?_ ?_ ; omega) | (with_reducible refine ValS.mulU64_M ?_ ?_ ; omega) | with_reducible refine ValS.remN_L ?_)) | (refine QuG.keep ?_; first | refine QuG.l1 cok 1 rfl rfl rfl rfl rfl (by first | exact Nat.le_of_ble_eq_true rfl | omega | (dsimp only; omega) | (simp only [addS_eq, mulS_eq]; omega)) ?_) | (refine LdG.keep ?_; first | refine LdG.lN cok 0 rfl rfl rfl rfl rfl (by first | exact Nat.le_of_ble_eq_true rfl | omega | (dsimp only; omega) | (simp only [addS_eq, mulS_eq]; omega)) ?_) | (refine OpG.keep ?_; first | refine OpG.sL cok 0 rfl rfl rfl rfl rfl rfl rfl (by first | exact Nat.le_of_ble_eq_true rfl | omega | (dsimp only; omega) | (simp only [addS_eq, mulS_eq]; omega)) ?_) | (refine CondS.keep ?_; first | refine CondS.nd0 rfl (by omega) ?_))
      obtain ⟨rfl⟩ := eb
      refine Fin.drop S.G [_, _, _] ⟨rfl, tW rfl (Eq.trans (WV_low (by omega)) ?_)⟩
      rw [show 8 * (31 - a) = 64 * 1 + (56 - 8 * (a % 8)) by omega, byte1 g0 g1 g2 (by omega)]
    · repeat (first | (refine ValS.keep ?_; with_reducible refine ValS.quoK 3 (by omega) (by omega) ?_) | refine SeqS.go cok ?_ | refine And.intro (fillOk_of (Eq.refl true)) ?_ | refine And.intro (by omega) ?_ | refine And.intro (by dsimp only; omega) ?_ | (refine NatS.keep ?_; first | with_reducible refine NatS.nat ?_) | (refine ValS.keep ?_; first | (with_reducible refine ValS.kU64 ?_; first | (with_reducible refine ValS.and255U64 ?_ ?_; omega) | (with_reducible refine ValS.subU64_M ?_ ?_ ?_ ; omega; omega) | (with_reducible refine ValS.shrU64 ?_ ?_ ; omega) | (with_reducible refine ValS.mulU64_M ?_ ?_ ; omega) | with_reducible refine ValS.remN_L ?_)) | (refine QuG.keep ?_; first | refine QuG.l1 cok 1 rfl rfl rfl rfl rfl (by first | exact Nat.le_of_ble_eq_true rfl | omega | (dsimp only; omega) | (simp only [addS_eq, mulS_eq]; omega)) ?_) | (refine LdG.keep ?_; first | refine LdG.lN cok 0 rfl rfl rfl rfl rfl (by first | exact Nat.le_of_ble_eq_true rfl | omega | (dsimp only; omega) | (simp only [addS_eq, mulS_eq]; omega)) ?_) | (refine OpG.keep ?_; first | refine OpG.sL cok 0 rfl rfl rfl rfl rfl rfl rfl (by first | exact Nat.le_of_ble_eq_true rfl | omega | (dsimp only; omega) | (simp only [addS_eq, mulS_eq]; omega)) ?_) | (refine CondS.keep ?_; first | refine CondS.nd0 rfl (by omega) ?_))
      obtain ⟨rfl⟩ := eb
      refine Fin.drop S.G [_, _, _] ⟨rfl, tW rfl (Eq.trans (WV_low (by omega)) ?_)⟩
      rw [show 8 * (31 - a) = 64 * 0 + (56 - 8 * (a % 8)) by omega, byte0 g0 g1 g2 (by omega)]
  · rw [if_neg hs]
    repeat (first | refine SeqS.go cok ?_ | refine And.intro (fillOk_of (Eq.refl true)) ?_ | (refine LdG.keep ?_; first | refine LdG.lN cok 0 rfl rfl rfl rfl rfl (by first | exact Nat.le_of_ble_eq_true rfl | omega | (dsimp only; omega) | (simp only [addS_eq, mulS_eq]; omega)) ?_) | (refine OpG.keep ?_; first | refine OpG.sL cok 0 rfl rfl rfl rfl rfl rfl rfl (by first | exact Nat.le_of_ble_eq_true rfl | omega | (dsimp only; omega) | (simp only [addS_eq, mulS_eq]; omega)) ?_) | (refine CondS.keep ?_; first | refine CondS.nd1 rfl (by omega) ?_))
    exact Fin.drop S.G [_, _, _] ⟨rfl, rfl⟩

theorem nb {a b c d : Nat} (ha : a < 18446744073709551616) (hb : b < 18446744073709551616) (hc : c < 18446744073709551616) (hd : d < 18446744073709551616) : blen (a + 18446744073709551616 * b + 340282366920938463463374607431768211456 * c + 6277101735386680763835789423207666416102355444464034512896 * d) = if d ≠ 0 then 192 + blen d else if c ≠ 0 then 128 + blen c else if b ≠ 0 then 64 + blen b else blen a := by
  split
  · have := blen_shift (x := a + 18446744073709551616 * b + 340282366920938463463374607431768211456 * c + 6277101735386680763835789423207666416102355444464034512896 * d) (k := 192) (by show 6277101735386680763835789423207666416102355444464034512896 ≤ _; omega)
    rw [this, show (a + 18446744073709551616 * b + 340282366920938463463374607431768211456 * c + 6277101735386680763835789423207666416102355444464034512896 * d) / 2 ^ 192 = d by show _ / 6277101735386680763835789423207666416102355444464034512896 = d; omega]
  · split
    · have := blen_shift (x := a + 18446744073709551616 * b + 340282366920938463463374607431768211456 * c + 6277101735386680763835789423207666416102355444464034512896 * d) (k := 128) (by show 340282366920938463463374607431768211456 ≤ _; omega)
      rw [this, show (a + 18446744073709551616 * b + 340282366920938463463374607431768211456 * c + 6277101735386680763835789423207666416102355444464034512896 * d) / 2 ^ 128 = c by show _ / 340282366920938463463374607431768211456 = c; omega]
    · split
      · have := blen_shift (x := a + 18446744073709551616 * b + 340282366920938463463374607431768211456 * c + 6277101735386680763835789423207666416102355444464034512896 * d) (k := 64) (by show 18446744073709551616 ≤ _; omega)
        rw [this, show (a + 18446744073709551616 * b + 340282366920938463463374607431768211456 * c + 6277101735386680763835789423207666416102355444464034512896 * d) / 2 ^ 64 = b by show _ / 18446744073709551616 = b; omega]
      · rw [show a + 18446744073709551616 * b + 340282366920938463463374607431768211456 * c + 6277101735386680763835789423207666416102355444464034512896 * d = a by omega]
/-- u256.Word.NBytes -/
theorem UNBytes_spec {S : St} {n : Nat} (hn : n < 115792089237316195423570985008687907853269984665640564039457584007913129639936) :
    CallG Hvaf.prog 416 #[wordV n] S fun r S' => S = S' ∧ r = .int .u8 ((blen n + 7) / 8 : Nat) := by
  obtain ⟨a, b, c, d, g0, g1, g2, g3, eb, vb⟩ := word_cases hn
  have hN : Hid (blen n = if d ≠ 0 then 192 + blen d else if c ≠ 0 then 128 + blen c else if b ≠ 0 then 64 + blen b else blen a) := ⟨by rw [eb.out]; exact nb g0 g1 g2 g3⟩
  rw [vb]
  clear vb hn
  have q0 := blen_le (n := 64) g0
  have q1 := blen_le (n := 64) g1
  have q2 := blen_le (n := 64) g2
  have q3 := blen_le (n := 64) g3
  have hcs : d ≠ 0 ∨ (d = 0 ∧ c ≠ 0) ∨ (d = 0 ∧ c = 0 ∧ b ≠ 0) ∨ (d = 0 ∧ c = 0 ∧ b = 0 ∧ a ≠ 0) ∨ (d = 0 ∧ c = 0 ∧ b = 0 ∧ a = 0) := by omega
  rcases hcs with h1 | ⟨h1, h2⟩ | ⟨h1, h2, h3⟩ | ⟨h1, h2, h3, h4⟩ | ⟨h1, h2, h3, h4⟩
  · have hl : nlimbs a b c d = 4 := by simp [nlimbs, *]
    refine CallG.start (C := mkC Hvaf.prog) cok (args := [WV a b c d]) Hvaf.func416 rfl Hvaf.ntmps416 (by simp) (by kernel_rfl) ?_
    intro xa
    repeat (first | refine SeqS.go cok ?_ | (refine QuG.keep ?_; first | refine QuG.lN cok 0 rfl rfl rfl rfl rfl (by first | exact Nat.le_of_ble_eq_true rfl | omega | (dsimp only; omega) | (simp only [addS_eq, mulS_eq]; omega)) ?_))
    refine ULimbs_spec.mono ?_
    rintro r _ - ⟨rfl, rfl⟩
    rw [hl]
    repeat (first | refine SeqS.go cok ?_ | refine CondS.f rfl ?_ | refine And.intro (by dsimp only; omega) ?_ | (refine NatS.keep ?_; first | with_reducible refine NatS.nat ?_) | (refine ValS.keep ?_; first | (with_reducible refine ValS.kU8 ?_; first | (with_reducible refine ValS.subU8_L ?_ ?_ ?_ ; omega; omega) | (with_reducible refine ValS.mulU8_M ?_ ?_ ; omega))) | (refine QuG.keep ?_; first | refine QuG.l1 cok 0 rfl rfl rfl rfl rfl (by first | exact Nat.le_of_ble_eq_true rfl | omega | (dsimp only; omega) | (simp only [addS_eq, mulS_eq]; omega)) ?_))
    refine (Len64_spec g3).mono ?_
    rintro r _ - ⟨rfl, rfl⟩
    repeat (first | refine SeqS.go cok ?_ | refine And.intro (by omega) ?_ | (refine ValS.keep ?_; first | (with_reducible refine ValS.kI64 ?_; first | (with_reducible refine ValS.addI64_L ?_ ?_ ; omega) | (with_reducible refine ValS.quoI64_L ?_ ?_ ; omega)) | (with_reducible refine ValS.kU8 ?_; first | (with_reducible refine ValS.convU8 ?_ ?_ ; omega) | (with_reducible refine ValS.addU8 ?_ ?_ ; omega))))
    have hN := hN.out
    simp only [h1, ne_eq, not_true, not_false_iff, if_true, if_false] at hN
    exact Fin.drop S.G [_] ⟨rfl, vI rfl (by omega)⟩
  · have hl : nlimbs a b c d = 3 := by simp [nlimbs, *]
    refine CallG.start (C := mkC Hvaf.prog) cok (args := [WV a b c d]) Hvaf.func416 rfl Hvaf.ntmps416 (by simp) (by kernel_rfl) ?_
    intro xa
    repeat (first | refine SeqS.go cok ?_ | (refine QuG.keep ?_; first | refine QuG.lN cok 0 rfl rfl rfl rfl rfl (by first | exact Nat.le_of_ble_eq_true rfl | omega | (dsimp only; omega) | (simp only [addS_eq, mulS_eq]; omega)) ?_))
    refine ULimbs_spec.mono ?_
    rintro r _ - ⟨rfl, rfl⟩
    rw [hl]
    repeat (first | refine SeqS.go cok ?_ | refine CondS.f rfl ?_ | refine And.intro (by dsimp only; omega) ?_ | (refine NatS.keep ?_; first | with_reducible refine NatS.nat ?_) | (refine ValS.keep ?_; first | (with_reducible refine ValS.kU8 ?_; first | (with_reducible refine ValS.subU8_L ?_ ?_ ?_ ; omega; omega) | (with_reducible refine ValS.mulU8_M ?_ ?_ ; omega))) | (refine QuG.keep ?_; first | refine QuG.l1 cok 0 rfl rfl rfl rfl rfl (by first | exact Nat.le_of_ble_eq_true rfl | omega | (dsimp only; omega) | (simp only [addS_eq, mulS_eq]; omega)) ?_))
    refine (Len64_spec g2).mono ?_
    rintro r _ - ⟨rfl, rfl⟩
    repeat (first | refine SeqS.go cok ?_ | refine And.intro (by omega) ?_ | (refine ValS.keep ?_; first | (with_reducible refine ValS.kI64 ?_; first | (with_reducible refine ValS.addI64_L ?_ ?_ ; omega) | (with_reducible refine ValS.quoI64_L ?_ ?_ ; omega)) | (with_reducible refine ValS.kU8 ?_; first | (with_reducible refine ValS.convU8 ?_ ?_ ; omega) | (with_reducible refine ValS.addU8 ?_ ?_ ; omega))))
    have hN := hN.out
    simp only [h1, h2, ne_eq, not_true, not_false_iff, if_true, if_false] at hN
    exact Fin.drop S.G [_] ⟨rfl, vI rfl (by omega)⟩
  · have hl : nlimbs a b c d = 2 := by simp [nlimbs, *]
    refine CallG.start (C := mkC Hvaf.prog) cok (args := [WV a b c d]) Hvaf.func416 rfl Hvaf.ntmps416 (by simp) (by kernel_rfl) ?_
    intro xa
    repeat (first | refine SeqS.go cok ?_ | (refine QuG.keep ?_; first | refine QuG.lN cok 0 rfl rfl rfl rfl rfl (by first | exact Nat.le_of_ble_eq_true rfl | omega | (dsimp only; omega) | (simp only [addS_eq, mulS_eq]; omega)) ?_))
    refine ULimbs_spec.mono ?_
    rintro r _ - ⟨rfl, rfl⟩
    rw [hl]
    repeat (first | refine SeqS.go cok ?_ | refine CondS.f rfl ?_ | refine And.intro (by dsimp only; omega) ?_ | (refine NatS.keep ?_; first | with_reducible refine NatS.nat ?_) | (refine ValS.keep ?_; first | (with_reducible refine ValS.kU8 ?_; first | (with_reducible refine ValS.subU8_L ?_ ?_ ?_ ; omega; omega) | (with_reducible refine ValS.mulU8_M ?_ ?_ ; omega))) | (refine QuG.keep ?_; first | refine QuG.l1 cok 0 rfl rfl rfl rfl rfl (by first | exact Nat.le_of_ble_eq_true rfl | omega | (dsimp only; omega) | (simp only [addS_eq, mulS_eq]; omega)) ?_))
    refine (Len64_spec g1).mono ?_
    rintro r _ - ⟨rfl, rfl⟩
    repeat (first | refine SeqS.go cok ?_ | refine And.intro (by omega) ?_ | (refine ValS.keep ?_; first | (with_reducible refine ValS.kI64 ?_; first | (with_reducible refine ValS.addI64_L ?_ ?_ ; omega) | (with_reducible refine ValS.quoI64_L ?_ ?_ ; omega)) | (with_reducible refine ValS.kU8 ?_; first | (with_reducible refine ValS.convU8 ?_ ?_ ; omega) | (with_reducible refine ValS.addU8 ?_ ?_ ; omega))))
    have hN := hN.out
    simp only [h1, h2, h3, ne_eq, not_true, not_false_iff, if_true, if_false] at hN
    exact Fin.drop S.G [_] ⟨rfl, vI rfl (by omega)⟩
  · have hl : nlimbs a b c d = 1 := by simp [nlimbs, *]
    refine CallG.start (C := mkC Hvaf.prog) cok (args := [WV a b c d]) Hvaf.func416 rfl Hvaf.ntmps416 (by simp) (by kernel_rfl) ?_
    intro xa
    repeat (first | refine SeqS.go cok ?_ | (refine QuG.keep ?_; first | refine QuG.lN cok 0 rfl rfl rfl rfl rfl (by first | exact Nat.le_of_ble_eq_true rfl | omega | (dsimp only; omega) | (simp only [addS_eq, mulS_eq]; omega)) ?_))
    refine ULimbs_spec.mono ?_
    rintro r _ - ⟨rfl, rfl⟩
    rw [hl]
    repeat (first | refine SeqS.go cok ?_ | refine CondS.f rfl ?_ | refine And.intro (by dsimp only; omega) ?_ | (refine NatS.keep ?_; first | with_reducible refine NatS.nat ?_) | (refine ValS.keep ?_; first | (with_reducible refine ValS.kU8 ?_; first | (with_reducible refine ValS.subU8_L ?_ ?_ ?_ ; omega; omega) | (with_reducible refine ValS.mulU8_M ?_ ?_ ; omega))) | (refine QuG.keep ?_; first | refine QuG.l1 cok 0 rfl rfl rfl rfl rfl (by first | exact Nat.le_of_ble_eq_true rfl | omega | (dsimp only; omega) | (simp only [addS_eq, mulS_eq]; omega)) ?_))
    refine (Len64_spec g0).mono ?_
    rintro r _ - ⟨rfl, rfl⟩
    repeat (first | refine SeqS.go cok ?_ | refine And.intro (by omega) ?_ | (refine ValS.keep ?_; first | (with_reducible refine ValS.kI64 ?_; first | (with_reducible refine ValS.addI64_L ?_ ?_ ; omega) | (with_reducible refine ValS.quoI64_L ?_ ?_ ; omega)) | (with_reducible refine ValS.kU8 ?_; first | (with_reducible refine ValS.convU8 ?_ ?_ ; omega) | (with_reducible refine ValS.addU8 ?_ ?_ ; omega))))
    have hN := hN.out
    simp only [h1, h2, h3, ne_eq, not_true, not_false_iff, if_true, if_false] at hN
    exact Fin.drop S.G [_] ⟨rfl, vI rfl (by omega)⟩
  · have hl : nlimbs a b c d = 0 := by simp [nlimbs, *]
    refine CallG.start (C := mkC Hvaf.prog) cok (args := [WV a b c d]) Hvaf.func416 rfl Hvaf.ntmps416 (by simp) (by kernel_rfl) ?_
    intro xa
    repeat (first | refine SeqS.go cok ?_ | (refine QuG.keep ?_; first | refine QuG.lN cok 0 rfl rfl rfl rfl rfl (by first | exact Nat.le_of_ble_eq_true rfl | omega | (dsimp only; omega) | (simp only [addS_eq, mulS_eq]; omega)) ?_))
    refine ULimbs_spec.mono ?_
    rintro r _ - ⟨rfl, rfl⟩
    rw [hl]
    repeat (first | refine SeqS.go cok ?_ | refine CondS.t rfl ?_)
    have hN := hN.out
    subst h1 h2 h3 h4
    simp only [ne_eq, not_true, if_false] at hN
    have h0 : blen 0 = 0 := by simp [blen]
    rw [h0] at hN
    exact Fin.drop S.G [_] ⟨rfl, Eq.trans (b := Value.int .u8 ((0 : Nat) : Int)) rfl (by rw [hN])⟩
end Go.Proofs.YgvafwGreat
