import Derived.Test.YgvafwGreatD4
set_option maxRecDepth 100000
set_option maxHeartbeats 4000000
set_option linter.unusedVariables false
set_option linter.unusedSimpArgs false
-- v2
-- v3
namespace Go.Proofs.YgvafwGreat
open Go.HL Go.Proofs

structure TR where
  q : Nat
  r : Nat
  o : Nat
  f : Nat
theorem Hid.use {p q : Prop} (h : Hid p) (k : Hid p → q) : q := k h
theorem tr_start {s k high mid top : Nat} (e : s + 18446744073709551616 * k = mid + top + 0) (h : high = top) : 18446744073709551615 * top + (s + 18446744073709551616 * k) = high * 18446744073709551616 + mid := by subst h; omega
theorem tr_next {q r s k top H : Nat} (h1 : q * top + (r + 18446744073709551616 * 0) = H) (hq : 1 ≤ q) (e : s + 18446744073709551616 * k = r + top + 0) : (q - 1) * top + (s + 18446744073709551616 * k) = H := by
  obtain ⟨q', rfl⟩ : ∃ q', q = q' + 1 := ⟨q - 1, by omega⟩
  rw [Nat.add_mul] at h1
  simp only [Nat.add_sub_cancel]
  omega

/-- u256.trial -/
theorem trial_spec {S : St} {high mid low top next : Nat} (hh : high ≤ top) (hmid : mid < 18446744073709551616) (hlow : low < 18446744073709551616) (htop2 : top < 18446744073709551616) (htop : 0 < top) (hn : next < 18446744073709551616) :
    CallG Hvaf.prog 435 #[.int .u64 (high : Nat), .int .u64 (mid : Nat), .int .u64 (low : Nat), .int .u64 (top : Nat), .int .u64 (next : Nat)] S fun r S' => S = S' ∧ ∃ f : Nat, f < 256 ∧ r = .tuple #[.int .u64 (trQ high mid low top next : Nat), .int .u8 (f : Nat)] := by
  refine CallG.start (C := mkC Hvaf.prog) cok (args := [.int .u64 (high : Nat), .int .u64 (mid : Nat), .int .u64 (low : Nat), .int .u64 (top : Nat), .int .u64 (next : Nat)]) Hvaf.func435 rfl Hvaf.ntmps435 (by simp) (by kernel_rfl) ?_
  repeat (first | refine SeqS.go cok ?_)
  refine (NDiv64_spec (by omega) hmid htop2).mono ?_
  rintro r _ - ⟨rfl, rfl⟩
  by_cases hc : high < top
  · rw [if_pos hc]
    have hF := tr_first (next := next) hc hmid hlow htop2
    have hM := Nat.div_add_mod (high * 18446744073709551616 + mid) top
    have hR := Nat.mod_lt (high * 18446744073709551616 + mid) htop
    refine Hid.use ⟨hF⟩ fun hF => ?_
    refine Hid.use ⟨hM⟩ fun hM => ?_
    clear hc hh hmid
    repeat (first | refine SeqS.go cok ?_ | refine CondS.f rfl ?_)
    refine W.loopE cok (by kernel_rfl) 0 (fun (p : TR) e' S' => S = S' ∧ p.q * top + (p.r + 18446744073709551616 * p.o) = high * 18446744073709551616 + mid ∧ p.q ≤ 18446744073709551615 ∧ trQ high mid low top next ≤ p.q ∧ p.r < 18446744073709551616 ∧ p.o ≤ 1 ∧ p.f < 256 ∧
        slots [(2, .int .u64 (low : Nat)), (3, .int .u64 (top : Nat)), (4, .int .u64 (next : Nat)), (10, .int .u64 (p.q : Nat)), (11, .int .u8 (p.f : Nat)), (12, .int .u64 (p.r : Nat)), (14, .int .u64 (p.o : Nat))] e') (fun p => p.q) ⟨(high * 18446744073709551616 + mid) / top, (high * 18446744073709551616 + mid) % top, 0, 0⟩
        ⟨rfl, by show (high * 18446744073709551616 + mid) / top * top + ((high * 18446744073709551616 + mid) % top + 18446744073709551616 * 0) = _; rw [Nat.mul_comm, Nat.mul_zero, Nat.add_zero]; exact hM.out, hF.out.1, hF.out.2, Nat.lt_trans hR htop2, by show 0 ≤ 1; decide, by show 0 < 256; decide, rfl, rfl, rfl, rfl, rfl, rfl, rfl, trivial⟩
        (fun e' S' => S = S' ∧ ∃ f : Nat, f < 256 ∧ slots [(10, .int .u64 (trQ high mid low top next : Nat)), (11, .int .u8 (f : Nat))] e') ?_ ?_
    · rintro e' _ - ⟨rfl, f, hf, hsl⟩
      refine SeqS.slots cok _ hsl fun e => ?_
      repeat (first | refine SeqS.go cok ?_)
      exact Fin.same ⟨rfl, f, hf, rfl⟩
    · rintro ⟨q, r, o, f⟩ e' _ - ⟨rfl, h1, h2, h3, h4, h5, h6, hsl⟩
      dsimp only at h1 h2 h3 h4 h5 h6 hsl
      refine W.slots _ hsl fun e => ?_
      replace h1 : Hid _ := ⟨h1⟩
      replace h3 : Hid _ := ⟨h3⟩
      have ho : o = 0 ∨ o = 1 := by omega
      rcases ho with ho | ho
      · subst ho
        repeat (first | refine SeqS.go cok ?_ | refine CondS.t rfl ?_)
        refine (Mul64_h (by omega) hn).mono ?_
        rintro r1 _ - ⟨rfl, hi, lo, z1, z2, e1, rfl⟩
        have hcs : hi < r ∨ (hi = r ∧ lo ≤ low) ∨ r < hi ∨ (r = hi ∧ low < lo) := by omega
        rcases hcs with hc | hc | hc | hc
        · repeat (first | refine SeqS.go cok ?_ | refine GuardS.no rfl ?_ | refine GuardS.U rfl ?_ | refine CondS.t rfl ?_ | (refine GuardS.keep ?_; first | refine GuardS.F1 rfl (by omega) ?_))
          have hf := tr_stop htop h1.out e1.out z1 hlow (.inl hc) h2 h3.out
          exact ⟨rfl, f, h6, vI rfl hf, rfl, trivial⟩
        · have hc1 := hc.1
          have hc2 := hc.2
          repeat (first | refine SeqS.go cok ?_ | refine GuardS.yes rfl ?_ | (refine GuardS.keep ?_; first | refine GuardS.T1 rfl (by omega) ?_ | refine GuardS.F0 rfl (by omega) ?_) | (refine CondS.keep ?_; first | refine CondS.d1 rfl (by omega) ?_))
          have hf := tr_stop htop h1.out e1.out z1 hlow (.inr hc) h2 h3.out
          exact ⟨rfl, f, h6, vI rfl hf, rfl, trivial⟩
        · have hd := tr_down htop h1.out e1.out z1 hlow (.inl hc) h3.out
          have hd1 := hd.1
          have hd2 : Hid _ := ⟨hd.2⟩
          clear hd
          repeat (first | refine SeqS.go cok ?_ | refine GuardS.yes rfl ?_ | refine GuardS.no rfl ?_ | refine CondS.f rfl ?_ | (refine ValS.keep ?_; first | (with_reducible refine ValS.kU64 ?_; first | (with_reducible refine ValS.subU64_L ?_ ?_ ?_ ; omega; omega)) | (with_reducible refine ValS.kU8 ?_; first | (with_reducible refine ValS.addWU8_L ?_ ))) | (refine GuardS.keep ?_; first | refine GuardS.T0 rfl (by omega) ?_ | refine GuardS.F0 rfl (by omega) ?_))
          refine (Add64_h (c := 0) h4 htop2 (by omega)).mono ?_
          rintro r1 _ - ⟨rfl, s, k, z3, z4, e2, rfl⟩
          skip
          exact ⟨⟨q - 1, s, k, (f + 1) % 256⟩, ⟨rfl, tr_next h1.out hd1 e2.out, by show q - 1 ≤ _; omega, hd2.out, z3, z4, Nat.mod_lt _ (by decide), rfl, rfl, rfl, rfl, rfl, rfl, rfl, trivial⟩, by show q - 1 < q; omega⟩
        · have hd := tr_down htop h1.out e1.out z1 hlow (.inr hc) h3.out
          have hc1 := hc.1
          have hc2 := hc.2
          have hd1 := hd.1
          have hd2 : Hid _ := ⟨hd.2⟩
          clear hd
          repeat (first | refine SeqS.go cok ?_ | refine GuardS.yes rfl ?_ | (refine ValS.keep ?_; first | (with_reducible refine ValS.kU64 ?_; first | (with_reducible refine ValS.subU64_L ?_ ?_ ?_ ; omega; omega)) | (with_reducible refine ValS.kU8 ?_; first | (with_reducible refine ValS.addWU8_L ?_ ))) | (refine GuardS.keep ?_; first | refine GuardS.T1 rfl (by omega) ?_ | refine GuardS.F0 rfl (by omega) ?_) | (refine CondS.keep ?_; first | refine CondS.d0 rfl (by omega) ?_))
          refine (Add64_h (c := 0) h4 htop2 (by omega)).mono ?_
          rintro r1 _ - ⟨rfl, s, k, z3, z4, e2, rfl⟩
          skip
          exact ⟨⟨q - 1, s, k, (f + 1) % 256⟩, ⟨rfl, tr_next h1.out hd1 e2.out, by show q - 1 ≤ _; omega, hd2.out, z3, z4, Nat.mod_lt _ (by decide), rfl, rfl, rfl, rfl, rfl, rfl, rfl, trivial⟩, by show q - 1 < q; omega⟩
      · subst ho
        repeat (first | refine SeqS.go cok ?_ | refine CondS.f rfl ?_)
        have hf := tr_over htop h1.out hn h2 h3.out
        exact ⟨rfl, f, h6, vI rfl hf, rfl, trivial⟩
  · rw [if_neg hc]
    have hht : high = top := by omega
    repeat (first | refine SeqS.go cok ?_ | refine CondS.t rfl ?_)
    refine (Add64_h (c := 0) hmid htop2 (by omega)).mono ?_
    rintro r1 _ - ⟨rfl, s0, k0, y1, y2, e0, rfl⟩
    repeat (first | refine SeqS.go cok ?_)
    refine W.loopE cok (by kernel_rfl) 0 (fun (p : TR) e' S' => S = S' ∧ p.q * top + (p.r + 18446744073709551616 * p.o) = high * 18446744073709551616 + mid ∧ p.q ≤ 18446744073709551615 ∧ trQ high mid low top next ≤ p.q ∧ p.r < 18446744073709551616 ∧ p.o ≤ 1 ∧ p.f < 256 ∧
        slots [(2, .int .u64 (low : Nat)), (3, .int .u64 (top : Nat)), (4, .int .u64 (next : Nat)), (10, .int .u64 (p.q : Nat)), (11, .int .u8 (p.f : Nat)), (12, .int .u64 (p.r : Nat)), (14, .int .u64 (p.o : Nat))] e') (fun p => p.q) ⟨18446744073709551615, s0, k0, 0⟩
        ⟨rfl, tr_start e0.out hht, by show _ ≤ _; exact Nat.le_refl _, Nat.min_le_left _ _, y1, y2, by show 0 < 256; decide, rfl, rfl, rfl, rfl, rfl, rfl, rfl, trivial⟩
        (fun e' S' => S = S' ∧ ∃ f : Nat, f < 256 ∧ slots [(10, .int .u64 (trQ high mid low top next : Nat)), (11, .int .u8 (f : Nat))] e') ?_ ?_
    · rintro e' _ - ⟨rfl, f, hf, hsl⟩
      refine SeqS.slots cok _ hsl fun e => ?_
      repeat (first | refine SeqS.go cok ?_)
      exact Fin.same ⟨rfl, f, hf, rfl⟩
    · rintro ⟨q, r, o, f⟩ e' _ - ⟨rfl, h1, h2, h3, h4, h5, h6, hsl⟩
      dsimp only at h1 h2 h3 h4 h5 h6 hsl
      refine W.slots _ hsl fun e => ?_
      replace h1 : Hid _ := ⟨h1⟩
      replace h3 : Hid _ := ⟨h3⟩
      have ho : o = 0 ∨ o = 1 := by omega
      rcases ho with ho | ho
      · subst ho
        repeat (first | refine SeqS.go cok ?_ | refine CondS.t rfl ?_)
        refine (Mul64_h (by omega) hn).mono ?_
        rintro r1 _ - ⟨rfl, hi, lo, z1, z2, e1, rfl⟩
        have hcs : hi < r ∨ (hi = r ∧ lo ≤ low) ∨ r < hi ∨ (r = hi ∧ low < lo) := by omega
        rcases hcs with hc | hc | hc | hc
        · repeat (first | refine SeqS.go cok ?_ | refine GuardS.no rfl ?_ | refine GuardS.U rfl ?_ | refine CondS.t rfl ?_ | (refine GuardS.keep ?_; first | refine GuardS.F1 rfl (by omega) ?_))
          have hf := tr_stop htop h1.out e1.out z1 hlow (.inl hc) h2 h3.out
          exact ⟨rfl, f, h6, vI rfl hf, rfl, trivial⟩
        · have hc1 := hc.1
          have hc2 := hc.2
          repeat (first | refine SeqS.go cok ?_ | refine GuardS.yes rfl ?_ | (refine GuardS.keep ?_; first | refine GuardS.T1 rfl (by omega) ?_ | refine GuardS.F0 rfl (by omega) ?_) | (refine CondS.keep ?_; first | refine CondS.d1 rfl (by omega) ?_))
          have hf := tr_stop htop h1.out e1.out z1 hlow (.inr hc) h2 h3.out
          exact ⟨rfl, f, h6, vI rfl hf, rfl, trivial⟩
        · have hd := tr_down htop h1.out e1.out z1 hlow (.inl hc) h3.out
          have hd1 := hd.1
          have hd2 : Hid _ := ⟨hd.2⟩
          clear hd
          repeat (first | refine SeqS.go cok ?_ | refine GuardS.yes rfl ?_ | refine GuardS.no rfl ?_ | refine CondS.f rfl ?_ | (refine ValS.keep ?_; first | (with_reducible refine ValS.kU64 ?_; first | (with_reducible refine ValS.subU64_L ?_ ?_ ?_ ; omega; omega)) | (with_reducible refine ValS.kU8 ?_; first | (with_reducible refine ValS.addWU8_L ?_ ))) | (refine GuardS.keep ?_; first | refine GuardS.T0 rfl (by omega) ?_ | refine GuardS.F0 rfl (by omega) ?_))
          refine (Add64_h (c := 0) h4 htop2 (by omega)).mono ?_
          rintro r1 _ - ⟨rfl, s, k, z3, z4, e2, rfl⟩
          skip
          exact ⟨⟨q - 1, s, k, (f + 1) % 256⟩, ⟨rfl, tr_next h1.out hd1 e2.out, by show q - 1 ≤ _; omega, hd2.out, z3, z4, Nat.mod_lt _ (by decide), rfl, rfl, rfl, rfl, rfl, rfl, rfl, trivial⟩, by show q - 1 < q; omega⟩
        · have hd := tr_down htop h1.out e1.out z1 hlow (.inr hc) h3.out
          have hc1 := hc.1
          have hc2 := hc.2
          have hd1 := hd.1
          have hd2 : Hid _ := ⟨hd.2⟩
          clear hd
          repeat (first | refine SeqS.go cok ?_ | refine GuardS.yes rfl ?_ | (refine ValS.keep ?_; first | (with_reducible refine ValS.kU64 ?_; first | (with_reducible refine ValS.subU64_L ?_ ?_ ?_ ; omega; omega)) | (with_reducible refine ValS.kU8 ?_; first | (with_reducible refine ValS.addWU8_L ?_ ))) | (refine GuardS.keep ?_; first | refine GuardS.T1 rfl (by omega) ?_ | refine GuardS.F0 rfl (by omega) ?_) | (refine CondS.keep ?_; first | refine CondS.d0 rfl (by omega) ?_))
          refine (Add64_h (c := 0) h4 htop2 (by omega)).mono ?_
          rintro r1 _ - ⟨rfl, s, k, z3, z4, e2, rfl⟩
          skip
          exact ⟨⟨q - 1, s, k, (f + 1) % 256⟩, ⟨rfl, tr_next h1.out hd1 e2.out, by show q - 1 ≤ _; omega, hd2.out, z3, z4, Nat.mod_lt _ (by decide), rfl, rfl, rfl, rfl, rfl, rfl, rfl, trivial⟩, by show q - 1 < q; omega⟩
      · subst ho
        repeat (first | refine SeqS.go cok ?_ | refine CondS.f rfl ?_)
        have hf := tr_over htop h1.out hn h2 h3.out
        exact ⟨rfl, f, h6, vI rfl hf, rfl, trivial⟩
end Go.Proofs.YgvafwGreat
