import Derived.Test.YgvafwGreatD12
set_option maxRecDepth 100000
set_option maxHeartbeats 4000000
set_option linter.unusedVariables false
set_option linter.unusedSimpArgs false
-- v2
namespace Go.Proofs.YgvafwGreat
open Go.HL Go.Proofs

theorem lv4 (a b c d : Nat) : lv [a, b, c, d] = a + 18446744073709551616 * b + 340282366920938463463374607431768211456 * c + 6277101735386680763835789423207666416102355444464034512896 * d := by simp only [lv]; omega
/-- u256.divide -/
theorem Udivide_spec {I : Ent → Prop} {G : List Ent} {xb B : Nat} {T : TypeId} {c : Nat → Value} {X : List Nat} (hr : Row c 0 (ivs .u64 X)) (hX : Lim X) (hl : X.length = 8) (hB : B < 115792089237316195423570985008687907853269984665640564039457584007913129639936) :
    CallG Hvaf.prog 418 #[ptr xb 0, wordV B] ⟨I, ⟨xb, 8, T, c⟩ :: G⟩ (DivPost I G xb T c (lv X) B) := by
  obtain ⟨v0, v1, v2, v3, g0, g1, g2, g3, eb, vb⟩ := word_cases hB
  have e := eb.out
  rw [← lv4] at e
  have hV : Lim [v0, v1, v2, v3] := by
    intro d hd; simp at hd; rcases hd with rfl | rfl | rfl | rfl <;> assumption
  have hu := updN_self hr
  have main : CallG Hvaf.prog 418 #[ptr xb 0, WV v0 v1 v2 v3] ⟨I, ⟨xb, 8, T, updN c 0 (ivs .u64 X)⟩ :: G⟩ (DivPost I G xb T c (lv X) (lv [v0, v1, v2, v3])) := by
    have hcs : v3 ≠ 0 ∨ (v3 = 0 ∧ v2 ≠ 0) ∨ (v3 = 0 ∧ v2 = 0 ∧ v1 ≠ 0) ∨ (v3 = 0 ∧ v2 = 0 ∧ v1 = 0 ∧ v0 ≠ 0) ∨ (v3 = 0 ∧ v2 = 0 ∧ v1 = 0 ∧ v0 = 0) := by omega
    rcases hcs with h1 | ⟨h1, h2⟩ | ⟨h1, h2, h3⟩ | ⟨h1, h2, h3, h4⟩ | ⟨h1, h2, h3, h4⟩
    · refine divide_rest hX hl 4 (by simp [nlimbs, *]) (by decide) (by decide) hV (fun i hi => ?_) (by simp; omega)
      rw [List.getD_eq_getElem?_getD, List.getElem?_eq_none (by simpa using hi)]; rfl
    · subst h1
      refine divide_rest hX hl 3 (by simp [nlimbs, *]) (by decide) (by decide) hV (fun i hi => ?_) (by simp; omega)
      by_cases h : i = 3
      · subst h; rfl
      · rw [List.getD_eq_getElem?_getD, List.getElem?_eq_none (by simp; omega)]; rfl
    · subst h1 h2
      refine divide_rest hX hl 2 (by simp [nlimbs, *]) (by decide) (by decide) hV (fun i hi => ?_) (by simp; omega)
      by_cases h : i = 2
      · subst h; rfl
      by_cases h : i = 3
      · subst h; rfl
      · rw [List.getD_eq_getElem?_getD, List.getElem?_eq_none (by simp; omega)]; rfl
    · subst h1 h2 h3
      refine divide_rest hX hl 1 (by simp [nlimbs, *]) (by decide) (by decide) hV (fun i hi => ?_) (by simp; omega)
      by_cases h : i = 1
      · subst h; rfl
      by_cases h : i = 2
      · subst h; rfl
      by_cases h : i = 3
      · subst h; rfl
      · rw [List.getD_eq_getElem?_getD, List.getElem?_eq_none (by simp; omega)]; rfl
    · subst h1 h2 h3 h4
      exact divide_zero hX hl
  rw [hu, ← e] at main
  rw [vb]; exact main
theorem lv8 (a b c d e f g h : Nat) : lv [a, b, c, d, e, f, g, h] = a + 18446744073709551616 * b + 340282366920938463463374607431768211456 * c + 6277101735386680763835789423207666416102355444464034512896 * d + 115792089237316195423570985008687907853269984665640564039457584007913129639936 * (e + 18446744073709551616 * f + 340282366920938463463374607431768211456 * g + 6277101735386680763835789423207666416102355444464034512896 * h) := by simp only [lv]; omega
theorem lv8z (a b c d : Nat) : lv [a, b, c, d, 0, 0, 0, 0] = a + 18446744073709551616 * b + 340282366920938463463374607431768211456 * c + 6277101735386680763835789423207666416102355444464034512896 * d := by simp only [lv]; omega
theorem Lim8 {a b c d e f g h : Nat} (h0 : a < 18446744073709551616) (h1 : b < 18446744073709551616) (h2 : c < 18446744073709551616) (h3 : d < 18446744073709551616) (h4 : e < 18446744073709551616) (h5 : f < 18446744073709551616) (h6 : g < 18446744073709551616) (h7 : h < 18446744073709551616) : Lim [a, b, c, d, e, f, g, h] := by
  intro x hx; simp at hx; rcases hx with rfl | rfl | rfl | rfl | rfl | rfl | rfl | rfl <;> assumption
theorem low8 {a b c d e f g h n : Nat} (hn : n < 115792089237316195423570985008687907853269984665640564039457584007913129639936) (e8 : lv [a, b, c, d, e, f, g, h] = n) : n = a + 18446744073709551616 * b + 340282366920938463463374607431768211456 * c + 6277101735386680763835789423207666416102355444464034512896 * d := by
  rw [lv8] at e8; omega
theorem tup3 {v a a' b p : Value} (h : v = .tuple #[a, b, p]) (e : a = a') : v = .tuple #[a', b, p] := by rw [h, e]
theorem row8 {c : Nat → Value} {a b d e f g h k : Nat} (h0 : c 0 = .int .u64 (a : Nat)) (h1 : c 1 = .int .u64 (b : Nat)) (h2 : c 2 = .int .u64 (d : Nat)) (h3 : c 3 = .int .u64 (e : Nat)) (h4 : c 4 = .int .u64 (f : Nat)) (h5 : c 5 = .int .u64 (g : Nat)) (h6 : c 6 = .int .u64 (h : Nat)) (h7 : c 7 = .int .u64 (k : Nat)) : Row c 0 (ivs .u64 [a, b, d, e, f, g, h, k]) := by
  refine ⟨fun i hi => ?_⟩
  match i, hi with
  | 0, _ => exact h0
  | 1, _ => exact h1
  | 2, _ => exact h2
  | 3, _ => exact h3
  | 4, _ => exact h4
  | 5, _ => exact h5
  | 6, _ => exact h6
  | 7, _ => exact h7
/-- a modulo b, 0 for b = 0. -/
def modZ (a b : Nat) : Nat := if b = 0 then 0 else a % b
theorem modZ_lt {a b m : Nat} (hb : b < m) (hm : 0 < m) : modZ a b < m := by
  unfold modZ; split
  · exact hm
  · exact Nat.lt_trans (Nat.mod_lt _ (by omega)) hb
/-- u256.DivRem -/
theorem UDivRem_spec {S : St} {a b : Nat} (ha : a < 115792089237316195423570985008687907853269984665640564039457584007913129639936) (hb : b < 115792089237316195423570985008687907853269984665640564039457584007913129639936) :
    CallG Hvaf.prog 384 #[wordV a, wordV b] S fun r S' => S = S' ∧ ∃ p0 p1 p2, r = .tuple #[wordV (a / b), wordV (modZ a b), PV p0 p1 p2] := by
  obtain ⟨a0, a1, a2, a3, h0, h1, h2, h3, ea, va⟩ := word_cases ha
  rw [va]
  have hq : Hid (a / b < 115792089237316195423570985008687907853269984665640564039457584007913129639936) := ⟨Nat.lt_of_le_of_lt (Nat.div_le_self a b) ha⟩
  replace ha : Hid _ := ⟨ha⟩
  replace hb : Hid _ := ⟨hb⟩
  refine CallG.start (C := mkC Hvaf.prog) cok (args := [WV a0 a1 a2 a3, wordV b]) Hvaf.func384 rfl Hvaf.ntmps384 (by simp) (by kernel_rfl) ?_
  intro b2 b3 b4 b5 b6
  repeat (first | refine SeqS.go cok ?_ | refine And.intro (fillOk_of (Eq.refl true)) ?_ | refine And.intro (by dsimp only; omega) ?_ | (refine NatS.keep ?_; first | with_reducible refine NatS.lit ?_) | (refine QuG.keep ?_; first | refine QuG.l1 cok 4 rfl rfl rfl rfl rfl (by first | exact Nat.le_of_ble_eq_true rfl | omega | (dsimp only; omega) | (simp only [addS_eq, mulS_eq]; omega)) ?_))
  intro b7
  repeat (first | refine SeqS.go cok ?_ | (refine QuG.keep ?_; first | refine QuG.lN cok 4 rfl rfl rfl rfl rfl (by first | exact Nat.le_of_ble_eq_true rfl | omega | (dsimp only; omega) | (simp only [addS_eq, mulS_eq]; omega)) ?_) | (refine OpG.keep ?_; first | refine OpG.sL cok 0 rfl rfl rfl rfl rfl rfl rfl (by first | exact Nat.le_of_ble_eq_true rfl | omega | (dsimp only; omega) | (simp only [addS_eq, mulS_eq]; omega)) ?_))
  refine (Udivide_spec (X := [a0, a1, a2, a3, 0, 0, 0, 0]) (row8 rfl rfl rfl rfl rfl rfl rfl rfl) (Lim8 h0 h1 h2 h3 (by decide) (by decide) (by decide) (by decide)) rfl hb.out).mono ?_
  rintro r _ - ⟨X', p0, p1, p2, rfl, l1, m1, e1, rfl⟩
  obtain ⟨x0, x1, x2, x3, x4, x5, x6, x7, rfl⟩ := eight l1
  rw [lv8z, ← ea.out] at *
  replace e1 : Hid _ := ⟨e1⟩
  repeat (first | refine SeqS.go cok ?_ | refine And.intro (Eq.refl true) ?_ | refine And.intro (by dsimp only; omega) ?_ | (refine NatS.keep ?_; first | with_reducible refine NatS.lit ?_) | (refine ValS.keep ?_; first | with_reducible refine ValS.sl0 ?_) | (refine QuG.keep ?_; first | refine QuG.lN cok 0 rfl rfl rfl rfl rfl (by first | exact Nat.le_of_ble_eq_true rfl | omega | (dsimp only; omega) | (simp only [addS_eq, mulS_eq]; omega)) ?_ | refine QuG.lN cok 1 rfl rfl rfl rfl rfl (by first | exact Nat.le_of_ble_eq_true rfl | omega | (dsimp only; omega) | (simp only [addS_eq, mulS_eq]; omega)) ?_ | refine QuG.lN cok 2 rfl rfl rfl rfl rfl (by first | exact Nat.le_of_ble_eq_true rfl | omega | (dsimp only; omega) | (simp only [addS_eq, mulS_eq]; omega)) ?_) | (refine still_in ?_; first | refine still_nil ?_ | refine still_drop (by decide) ?_ | (refine still_keep (by decide) rfl ?_ ?_; first | exact QuV.lN cok 1 rfl rfl rfl rfl rfl (by first | exact Nat.le_of_ble_eq_true rfl | omega | (dsimp only; omega) | (simp only [addS_eq, mulS_eq]; omega)) rfl | exact QuV.lN cok 2 rfl rfl rfl rfl rfl (by first | exact Nat.le_of_ble_eq_true rfl | omega | (dsimp only; omega) | (simp only [addS_eq, mulS_eq]; omega)) rfl)) | (refine LdG.keep ?_; first | refine LdG.lN cok 1 rfl rfl rfl rfl rfl (by first | exact Nat.le_of_ble_eq_true rfl | omega | (dsimp only; omega) | (simp only [addS_eq, mulS_eq]; omega)) ?_ | refine LdG.lN cok 2 rfl rfl rfl rfl rfl (by first | exact Nat.le_of_ble_eq_true rfl | omega | (dsimp only; omega) | (simp only [addS_eq, mulS_eq]; omega)) ?_ | refine LdG.lN cok 3 rfl rfl rfl rfl rfl (by first | exact Nat.le_of_ble_eq_true rfl | omega | (dsimp only; omega) | (simp only [addS_eq, mulS_eq]; omega)) ?_) | (refine OpG.keep ?_; first | refine OpG.sL cok 1 rfl rfl rfl rfl rfl rfl rfl (by first | exact Nat.le_of_ble_eq_true rfl | omega | (dsimp only; omega) | (simp only [addS_eq, mulS_eq]; omega)) ?_ | refine OpG.sL cok 2 rfl rfl rfl rfl rfl rfl rfl (by first | exact Nat.le_of_ble_eq_true rfl | omega | (dsimp only; omega) | (simp only [addS_eq, mulS_eq]; omega)) ?_ | refine OpG.sL cok 3 rfl rfl rfl rfl rfl rfl rfl (by first | exact Nat.le_of_ble_eq_true rfl | omega | (dsimp only; omega) | (simp only [addS_eq, mulS_eq]; omega)) ?_) | refine W.drawI 3 cok [0, 1, 3, 0, 0, 7, 47, 127] [0, 1, 2, 3, 4, 5, 6, 7] [2, 3, 4] (by kernel_rfl) (by kernel_rfl) ?_)
  refine Fin.drop S.G [_, _, _, _, _, _] ⟨rfl, p0, p1, p2, tup3 (a := WV x0 x1 x2 x3) rfl ?_⟩
  exact WV_eq (m1 _ (by simp)) (m1 _ (by simp)) (m1 _ (by simp)) (m1 _ (by simp)) (low8 hq.out e1.out)
/-- u256.Rem512 -/
theorem URem512_spec {S : St} {x0 x1 x2 x3 x4 x5 x6 x7 n b : Nat} (h : Lim [x0, x1, x2, x3, x4, x5, x6, x7]) (hn : lv [x0, x1, x2, x3, x4, x5, x6, x7] = n) (hb : b < 115792089237316195423570985008687907853269984665640564039457584007913129639936) :
    CallG Hvaf.prog 389 #[WV8 x0 x1 x2 x3 x4 x5 x6 x7, wordV b] S fun r S' => S = S' ∧ ∃ p0 p1 p2, r = .tuple #[wordV (modZ n b), PV p0 p1 p2] := by
  replace hb : Hid _ := ⟨hb⟩
  refine CallG.start (C := mkC Hvaf.prog) cok (args := [WV8 x0 x1 x2 x3 x4 x5 x6 x7, wordV b]) Hvaf.func389 rfl Hvaf.ntmps389 (by simp) (by kernel_rfl) ?_
  intro b2 b3 b4 b5
  repeat (first | refine SeqS.go cok ?_ | (refine QuG.keep ?_; first | refine QuG.lN cok 2 rfl rfl rfl rfl rfl (by first | exact Nat.le_of_ble_eq_true rfl | omega | (dsimp only; omega) | (simp only [addS_eq, mulS_eq]; omega)) ?_))
  refine CallG.focus 3 rfl ?_
  refine (Udivide_spec (X := [x0, x1, x2, x3, x4, x5, x6, x7]) (row8 rfl rfl rfl rfl rfl rfl rfl rfl) h rfl hb.out).mono ?_
  rw [hn]
  rintro r _ - ⟨X', p0, p1, p2, rfl, l1, m1, e1, rfl⟩
  repeat (first | refine SeqS.go cok ?_ | (refine LdG.keep ?_; first | refine LdG.lN cok 1 rfl rfl rfl rfl rfl (by first | exact Nat.le_of_ble_eq_true rfl | omega | (dsimp only; omega) | (simp only [addS_eq, mulS_eq]; omega)) ?_ | refine LdG.lN cok 2 rfl rfl rfl rfl rfl (by first | exact Nat.le_of_ble_eq_true rfl | omega | (dsimp only; omega) | (simp only [addS_eq, mulS_eq]; omega)) ?_) | (refine OpG.keep ?_; first | refine OpG.sL cok 1 rfl rfl rfl rfl rfl rfl rfl (by first | exact Nat.le_of_ble_eq_true rfl | omega | (dsimp only; omega) | (simp only [addS_eq, mulS_eq]; omega)) ?_ | refine OpG.sL cok 2 rfl rfl rfl rfl rfl rfl rfl (by first | exact Nat.le_of_ble_eq_true rfl | omega | (dsimp only; omega) | (simp only [addS_eq, mulS_eq]; omega)) ?_))
  exact Fin.drop S.G [_, _, _, _] ⟨rfl, p0, p1, p2, rfl⟩
/-- u256.Div -/
theorem UDiv_spec {S : St} {a b : Nat} (ha : a < 115792089237316195423570985008687907853269984665640564039457584007913129639936) (hb : b < 115792089237316195423570985008687907853269984665640564039457584007913129639936) :
    CallG Hvaf.prog 283 #[wordV a, wordV b] S fun r S' => S = S' ∧ r = wordV (a / b) := by
  replace ha : Hid _ := ⟨ha⟩
  replace hb : Hid _ := ⟨hb⟩
  refine CallG.start (C := mkC Hvaf.prog) cok (args := [wordV a, wordV b]) Hvaf.func283 rfl Hvaf.ntmps283 (by simp) (by kernel_rfl) ?_
  intro b2 b3 b4
  repeat (first | refine SeqS.go cok ?_ | (refine QuG.keep ?_; first | refine QuG.lN cok 1 rfl rfl rfl rfl rfl (by first | exact Nat.le_of_ble_eq_true rfl | omega | (dsimp only; omega) | (simp only [addS_eq, mulS_eq]; omega)) ?_ | refine QuG.lN cok 2 rfl rfl rfl rfl rfl (by first | exact Nat.le_of_ble_eq_true rfl | omega | (dsimp only; omega) | (simp only [addS_eq, mulS_eq]; omega)) ?_))
  refine (UDivRem_spec ha.out hb.out).mono ?_
  rintro r _ - ⟨rfl, p0, p1, p2, rfl⟩
  intro b5 b6 b7
  repeat (first | refine SeqS.go cok ?_ | (refine QuG.keep ?_; first | refine QuG.lN cok 2 rfl rfl rfl rfl rfl (by first | exact Nat.le_of_ble_eq_true rfl | omega | (dsimp only; omega) | (simp only [addS_eq, mulS_eq]; omega)) ?_) | (refine LdG.keep ?_; first | refine LdG.lN cok 3 rfl rfl rfl rfl rfl (by first | exact Nat.le_of_ble_eq_true rfl | omega | (dsimp only; omega) | (simp only [addS_eq, mulS_eq]; omega)) ?_) | (refine OpG.keep ?_; first | refine OpG.sL cok 0 rfl rfl rfl rfl rfl rfl rfl (by first | exact Nat.le_of_ble_eq_true rfl | omega | (dsimp only; omega) | (simp only [addS_eq, mulS_eq]; omega)) ?_ | refine OpG.sL cok 1 rfl rfl rfl rfl rfl rfl rfl (by first | exact Nat.le_of_ble_eq_true rfl | omega | (dsimp only; omega) | (simp only [addS_eq, mulS_eq]; omega)) ?_ | refine OpG.sL cok 2 rfl rfl rfl rfl rfl rfl rfl (by first | exact Nat.le_of_ble_eq_true rfl | omega | (dsimp only; omega) | (simp only [addS_eq, mulS_eq]; omega)) ?_ | refine OpG.sL cok 3 rfl rfl rfl rfl rfl rfl rfl (by first | exact Nat.le_of_ble_eq_true rfl | omega | (dsimp only; omega) | (simp only [addS_eq, mulS_eq]; omega)) ?_))
  exact Fin.drop S.G [_, _, _, _, _, _] ⟨rfl, rfl⟩
/-- u256.Mod -/
theorem UMod_spec {S : St} {a b : Nat} (ha : a < 115792089237316195423570985008687907853269984665640564039457584007913129639936) (hb : b < 115792089237316195423570985008687907853269984665640564039457584007913129639936) :
    CallG Hvaf.prog 285 #[wordV a, wordV b] S fun r S' => S = S' ∧ r = wordV (modZ a b) := by
  replace ha : Hid _ := ⟨ha⟩
  replace hb : Hid _ := ⟨hb⟩
  refine CallG.start (C := mkC Hvaf.prog) cok (args := [wordV a, wordV b]) Hvaf.func285 rfl Hvaf.ntmps285 (by simp) (by kernel_rfl) ?_
  intro b2 b3 b4
  repeat (first | refine SeqS.go cok ?_ | (refine QuG.keep ?_; first | refine QuG.lN cok 1 rfl rfl rfl rfl rfl (by first | exact Nat.le_of_ble_eq_true rfl | omega | (dsimp only; omega) | (simp only [addS_eq, mulS_eq]; omega)) ?_ | refine QuG.lN cok 2 rfl rfl rfl rfl rfl (by first | exact Nat.le_of_ble_eq_true rfl | omega | (dsimp only; omega) | (simp only [addS_eq, mulS_eq]; omega)) ?_))
  refine (UDivRem_spec ha.out hb.out).mono ?_
  rintro r _ - ⟨rfl, p0, p1, p2, rfl⟩
  intro b5 b6 b7
  repeat (first | refine SeqS.go cok ?_ | (refine QuG.keep ?_; first | refine QuG.lN cok 1 rfl rfl rfl rfl rfl (by first | exact Nat.le_of_ble_eq_true rfl | omega | (dsimp only; omega) | (simp only [addS_eq, mulS_eq]; omega)) ?_) | (refine LdG.keep ?_; first | refine LdG.lN cok 3 rfl rfl rfl rfl rfl (by first | exact Nat.le_of_ble_eq_true rfl | omega | (dsimp only; omega) | (simp only [addS_eq, mulS_eq]; omega)) ?_) | (refine OpG.keep ?_; first | refine OpG.sL cok 0 rfl rfl rfl rfl rfl rfl rfl (by first | exact Nat.le_of_ble_eq_true rfl | omega | (dsimp only; omega) | (simp only [addS_eq, mulS_eq]; omega)) ?_ | refine OpG.sL cok 1 rfl rfl rfl rfl rfl rfl rfl (by first | exact Nat.le_of_ble_eq_true rfl | omega | (dsimp only; omega) | (simp only [addS_eq, mulS_eq]; omega)) ?_ | refine OpG.sL cok 2 rfl rfl rfl rfl rfl rfl rfl (by first | exact Nat.le_of_ble_eq_true rfl | omega | (dsimp only; omega) | (simp only [addS_eq, mulS_eq]; omega)) ?_ | refine OpG.sL cok 3 rfl rfl rfl rfl rfl rfl rfl (by first | exact Nat.le_of_ble_eq_true rfl | omega | (dsimp only; omega) | (simp only [addS_eq, mulS_eq]; omega)) ?_))
  exact Fin.drop S.G [_, _, _, _, _, _] ⟨rfl, rfl⟩
end Go.Proofs.YgvafwGreat
