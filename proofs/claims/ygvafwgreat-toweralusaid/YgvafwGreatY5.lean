import Derived.Test.YgvafwGreatY4
set_option maxRecDepth 100000
set_option maxHeartbeats 4000000
set_option linter.unusedVariables false
set_option linter.unusedSimpArgs false
-- v2
-- plus: (refine ValS.keep ?_; with_reducible refine ValS.minL ?_)
namespace Go.Proofs.YgvafwGreat
open Go.HL Go.Proofs

/-! What is made is handed over, or forgotten, amid a walk. -/

/-- yp.pickedByte -/
theorem yPicked {I : Ent → Prop} {G : List Ent} {v u : Value} {a b : Nat} (hN : NatI I v a) (hN2 : NatI I u b) :
    CallG Hvaf.prog 357 #[v, u] ⟨I, G⟩ fun r S' => S'.G = G ∧ NatI S'.I r (if a < 32 then b / 2 ^ (8 * (31 - a)) % 256 else 0) := by
  have h64 := nU64 (G := G) hN
  by_cases h1 : a < 2 ^ 64
  · rw [if_pos h1, decide_eq_true h1] at h64
    by_cases h2 : a < 32
    · rw [if_pos h2]
      obtain ⟨db, hb, k2, k3, k4⟩ := hN2.byt G
      have hd := dig_at hb.1 (31 - a)
      rw [k3, show (256 : Nat) ^ (31 - a) = 2 ^ (8 * (31 - a)) by rw [Nat.pow_mul]] at hd
      have hd8 := getD_lt hb.1 (31 - a)
      rw [hd]
      by_cases h3 : 31 - a < db.length
      · rcases hb.cases with ⟨rfl, rfl⟩ | ⟨x, o, cap, rfl, m1, m2, m3, m4⟩
        · simp at h3
        · refine CallG.start (C := mkC Hvaf.prog) cok (args := [v, .slice (some ⟨x.b, o, none⟩) db.length cap]) Hvaf.func357 rfl Hvaf.ntmps357 (by simp) (by kernel_rfl) ?_
          repeat (first | refine SeqS.go cok ?_)
          refine (h64).mono ?_
          rintro r _ - ⟨rfl, rfl⟩
          repeat (first | refine SeqS.go cok ?_ | refine GuardS.yes rfl ?_ | refine And.intro (fillOk_of (Eq.refl true)) ?_ | refine And.intro (by omega) ?_ | refine And.intro (by dsimp only; omega) ?_ | (refine NatS.keep ?_; first | with_reducible refine NatS.nat ?_) | (refine ValS.keep ?_; first | (with_reducible refine ValS.kI64 ?_; first | (with_reducible refine ValS.convI64 ?_ ?_ ; omega) | (with_reducible refine ValS.subI64_M ?_ ?_ ?_ ; omega; omega)) | (with_reducible refine ValS.kU64 ?_; first | (with_reducible refine ValS.subU64_M ?_ ?_ ?_ ; omega; omega))) | (refine QuG.keep ?_; first | refine QuG.bs cok (by assumption) (by assumption) rfl rfl rfl rfl (by omega) ?_) | (refine GuardS.keep ?_; first | refine GuardS.F0 rfl (by omega) ?_) | (refine CondS.keep ?_; first | refine CondS.d0 rfl (by omega) ?_))
          intro bb
          have m3' : Rd ⟨I, ⟨bb, 1, 5, fun _ => .int .u8 (db.getD (31 - a) 0 : Nat)⟩ :: G⟩ x := m3.mono (.refl _) (fun _ h => List.mem_cons_of_mem _ h)
          skip
          refine callN (n := db.getD (31 - a) 0) ((Norm_spec (S := ⟨I, _ :: G⟩) (ds := [db.getD (31 - a) 0]) ?_ ?_).mono ?_) ?_
          · refine Byt.one1 (x := ⟨bb, 1, _, _⟩) List.mem_cons_self ?_ ?_ hd8 <;> rfl
          · simp only [val]; exact Nat.lt_of_lt_of_le (by omega : _ < 256) (by decide +kernel)
          · rintro r S' - ⟨e1, e2⟩
            exact ⟨e1, by simpa only [val, Nat.mul_zero, Nat.add_zero] using e2⟩
          intro r J hs hr
          repeat (first | refine SeqS.go cok ?_)
          exact Fin.drop G [_] ⟨rfl, hr⟩
      · rw [getD_big h3]
        refine CallG.start (C := mkC Hvaf.prog) cok (args := [v, u]) Hvaf.func357 rfl Hvaf.ntmps357 (by simp) (by kernel_rfl) ?_
        obtain ⟨w1, w2, rfl, w3, w4, w5⟩ := hb.form
        repeat (first | refine SeqS.go cok ?_)
        refine (h64).mono ?_
        rintro r _ - ⟨rfl, rfl⟩
        repeat (first | refine SeqS.go cok ?_ | refine GuardS.yes rfl ?_ | (refine ValS.keep ?_; first | (with_reducible refine ValS.kI64 ?_; first | (with_reducible refine ValS.convI64 ?_ ?_ ; omega) | (with_reducible refine ValS.subI64_M ?_ ?_ ?_ ; omega; omega))) | (refine GuardS.keep ?_; first | refine GuardS.F0 rfl (by omega) ?_) | (refine CondS.keep ?_; first | refine CondS.d1 rfl (by omega) ?_))
        exact Fin.same ⟨rfl, NatI.zero _⟩
    · rw [if_neg h2]
      refine CallG.start (C := mkC Hvaf.prog) cok (args := [v, u]) Hvaf.func357 rfl Hvaf.ntmps357 (by simp) (by kernel_rfl) ?_
      repeat (first | refine SeqS.go cok ?_)
      refine (h64).mono ?_
      rintro r _ - ⟨rfl, rfl⟩
      repeat (first | refine SeqS.go cok ?_ | refine GuardS.yes rfl ?_ | refine GuardS.no rfl ?_ | refine CondS.t rfl ?_ | (refine GuardS.keep ?_; first | refine GuardS.F1 rfl (by omega) ?_))
      exact Fin.same ⟨rfl, NatI.zero _⟩
  · rw [if_neg h1, decide_eq_false h1] at h64
    rw [if_neg (by omega)]
    refine CallG.start (C := mkC Hvaf.prog) cok (args := [v, u]) Hvaf.func357 rfl Hvaf.ntmps357 (by simp) (by kernel_rfl) ?_
    repeat (first | refine SeqS.go cok ?_)
    refine (h64).mono ?_
    rintro r _ - ⟨rfl, rfl⟩
    repeat (first | refine SeqS.go cok ?_ | refine GuardS.no rfl ?_ | refine CondS.t rfl ?_)
    exact Fin.same ⟨rfl, NatI.zero _⟩
theorem sq_mod (x w : Nat) : x % w * (x % w) % w = x * x % w := (Nat.mul_mod x x w).symm
theorem pow_even {a q : Nat} (w : Nat) : a ^ q % w * (a ^ q % w) % w = a ^ (2 * q) % w := by rw [sq_mod, ← Nat.pow_add, Nat.two_mul]
theorem pow_odd {a q : Nat} (w : Nat) : a ^ (2 * q) % w * a % w = a ^ (2 * q + 1) % w := by rw [Nat.pow_succ, Nat.mod_mul_mod]
theorem half_step {e i : Nat} : e / 2 ^ i = 2 * (e / 2 ^ (i + 1)) + (if e.testBit i then 1 else 0) := by
  rw [Nat.pow_succ, ← Nat.div_div_eq_div_mul, Nat.testBit_eq_decide_div_mod_eq]
  have := Nat.div_add_mod (e / 2 ^ i) 2
  have h2 := Nat.mod_lt (e / 2 ^ i) (by decide : 0 < 2)
  by_cases h : e / 2 ^ i % 2 = 1
  · simp only [h, decide_true, if_true]; omega
  · simp only [h, decide_false]; simp; omega
theorem NB_sq {x y : Nat} (hx : x < 115792089237316195423570985008687907853269984665640564039457584007913129639936) (hy : y < 115792089237316195423570985008687907853269984665640564039457584007913129639936) : x * y < NB := NB_big (Nat.mul_lt_mul_of_lt_of_le hx (Nat.le_of_lt hy) (by decide))
/-- yp.power -/
theorem yPower {I : Ent → Prop} {G : List Ent} {v u : Value} {a b : Nat} (hN : NatI I v a) (hN2 : NatI I u b) (ha : a < 115792089237316195423570985008687907853269984665640564039457584007913129639936) (hb : b < 115792089237316195423570985008687907853269984665640564039457584007913129639936) :
    CallG Hvaf.prog 352 #[v, u] ⟨I, G⟩ fun r S' => S'.G = G ∧ NatI S'.I r (a ^ b % 115792089237316195423570985008687907853269984665640564039457584007913129639936) := by
  obtain ⟨db, k1, k2, k3, k4⟩ := hN2.byt G
  obtain ⟨ad, cap, rfl, k5, k6, k7⟩ := k1.form
  have hlen : db.length ≤ 32 := by
    rcases k2 with rfl | h
    · simp
    · refine Nat.le_of_not_lt fun hl => ?_
      exact h (dig_zero (by rw [k3]; exact hb) (by omega))
  have hz : b / 2 ^ (8 * min db.length 32) = 0 := by
    rw [Nat.min_eq_left hlen]
    refine Nat.div_eq_of_lt ?_
    have := val_lt db k1.1
    rw [k3, show (256 : Nat) ^ db.length = 2 ^ (8 * db.length) by rw [Nat.pow_mul]] at this
    exact this
  replace ha : Hid _ := ⟨ha⟩
  replace hb : Hid _ := ⟨hb⟩
  refine CallG.start (C := mkC Hvaf.prog) cok (args := [v, .slice ad db.length cap]) Hvaf.func352 rfl Hvaf.ntmps352 (by simp) (by kernel_rfl) ?_
  repeat (first | refine SeqS.go cok ?_ | refine And.intro (fillOk_of (Eq.refl true)) ?_ | refine And.intro (by dsimp only; omega) ?_)
  intro b1
  repeat (first | (refine ValS.keep ?_; with_reducible refine ValS.minL ?_) | refine SeqS.go cok ?_ | (refine ValS.keep ?_; first | (with_reducible refine ValS.kI64 ?_; first | (with_reducible refine ValS.mulI64_M ?_ ?_ ; omega))))
  refine GW.frz [_] G ?_
  refine W.loopE cok (by kernel_rfl) 0 (fun (i : Nat) e' S' => S'.G = G ∧ i ≤ 8 * min db.length 32 ∧ ∃ pv, NatI S'.I pv (a ^ (b / 2 ^ i) % 115792089237316195423570985008687907853269984665640564039457584007913129639936) ∧ slots [(0, v), (1, .slice ad db.length cap), (5, pv), (6, .int .i64 (i : Nat))] e') (fun i => i) (8 * min db.length 32)
    ⟨rfl, Nat.le_refl _, sl b1 0 1 1, by rw [hz, Nat.pow_zero, show 1 % 115792089237316195423570985008687907853269984665640564039457584007913129639936 = 1 from rfl]; refine NatI.one1 (x := ⟨b1, 1, _, _⟩) (.inr List.mem_cons_self) ?_ ?_ (by decide) (by decide) <;> rfl, rfl, rfl, rfl, rfl, trivial⟩ (fun e' S' => S'.G = G ∧ ∃ pv, NatI S'.I pv (a ^ b % 115792089237316195423570985008687907853269984665640564039457584007913129639936) ∧ slots [(5, pv)] e') ?_ ?_
  · rintro e' ⟨J, G'⟩ hs ⟨rfl, pv, hp, hsl⟩
    refine SeqS.slots cok _ hsl fun e => ?_
    repeat (first | refine SeqS.go cok ?_)
    exact Fin.same ⟨rfl, hp⟩
  · rintro i e' ⟨J, G'⟩ hs ⟨rfl, hi, pv, hNp, hsl⟩
    replace hN := hN.up (sub_frz.trans hs)
    replace hN2 := hN2.up (sub_frz.trans hs)
    refine W.slots _ hsl fun e => ?_
    by_cases hi0 : i = 0
    · subst hi0
      rw [Nat.pow_zero, Nat.div_one] at hNp
      repeat (first | refine SeqS.go cok ?_ | refine CondS.f rfl ?_)
      exact ⟨rfl, pv, hNp, rfl, trivial⟩
    · obtain ⟨m, rfl⟩ : ∃ m, i = m + 1 := ⟨i - 1, by omega⟩
      have hst := half_step (e := b) (i := m)
      have hpl : Hid (a ^ (b / 2 ^ (m + 1)) % 115792089237316195423570985008687907853269984665640564039457584007913129639936 < 115792089237316195423570985008687907853269984665640564039457584007913129639936) := ⟨Nat.mod_lt _ (by decide)⟩
      repeat (first | refine SeqS.go cok ?_ | (refine CondS.keep ?_; first | refine CondS.d1 rfl (by omega) ?_))
      refine callN (nMul hNp hNp (NB_sq hpl.out hpl.out)) fun r1 J1 hs1 hN1 => ?_
      skip
      refine callN (yWrapped hN1) fun r2 J2 hs2 hN2' => ?_
      replace hN2' : NatI J2 r2 (a ^ (2 * (b / 2 ^ (m + 1))) % 115792089237316195423570985008687907853269984665640564039457584007913129639936) := by rw [← pow_even]; exact hN2'
      repeat (first | refine SeqS.go cok ?_ | (refine ValS.keep ?_; first | (with_reducible refine ValS.kI64 ?_; first | (with_reducible refine ValS.subI64_L ?_ ?_ ?_ ; omega; omega)) | (with_reducible refine ValS.kU16 ?_; first | (with_reducible refine ValS.convU16 ?_ ?_ ; omega))))
      refine (nBit (i := m) ((hN2.up hs1).up hs2) (by omega)).mono ?_
      cases hbit : b.testBit m
      · rintro r _ - ⟨rfl, rfl⟩
        repeat (first | refine SeqS.go cok ?_ | refine CondS.f rfl ?_ | (refine ValS.keep ?_; first | (with_reducible refine ValS.kI64 ?_; first | (with_reducible refine ValS.subI64_L ?_ ?_ ?_ ; omega; omega))))
        refine ⟨m, ⟨rfl, by omega, r2, ?_, rfl, rfl, rfl, rfl, trivial⟩, by show m < m + 1; omega⟩
        rw [hst, hbit]; exact hN2'
      · rintro r _ - ⟨rfl, rfl⟩
        repeat (first | refine SeqS.go cok ?_ | refine CondS.t rfl ?_)
        refine callN (nMul hN2' ((hN.up hs1).up hs2) (NB_sq (Nat.mod_lt _ (by decide)) ha.out)) fun r3 J3 hs3 hN3 => ?_
        skip
        refine callN (yWrapped hN3) fun r4 J4 hs4 hN4 => ?_
        repeat (first | refine SeqS.go cok ?_ | (refine ValS.keep ?_; first | (with_reducible refine ValS.kI64 ?_; first | (with_reducible refine ValS.subI64_L ?_ ?_ ?_ ; omega; omega))))
        refine ⟨m, ⟨rfl, by omega, r4, ?_, rfl, rfl, rfl, rfl, trivial⟩, by show m < m + 1; omega⟩
        rw [hst, hbit, if_pos rfl, ← pow_odd]; exact hN4
end Go.Proofs.YgvafwGreat
