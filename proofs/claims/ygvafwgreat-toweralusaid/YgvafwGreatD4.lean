import Derived.Test.YgvafwGreatD3
set_option maxRecDepth 100000
set_option maxHeartbeats 4000000
set_option linter.unusedVariables false
set_option linter.unusedSimpArgs false
-- v2
-- v3
namespace Go.Proofs.YgvafwGreat
open Go.HL Go.Proofs

/-- u256.putBack -/
theorem putBack_spec {I : Ent → Prop} {G : List Ent} {bu su ou pu bv sv ov pv : Nat} {Tu Tv : TypeId} {cu cv : Nat → Value} {U V : List Nat} (hU : Lim U) (hV : Lim V) (hl : U.length = V.length + 1) (hm : U.length < 2 ^ 40) (h1 : ou + U.length ≤ su) (h2 : ov + V.length ≤ sv) :
    CallG Hvaf.prog 437 #[sl bu ou U.length pu, sl bv ov V.length pv] ⟨I, ⟨bu, su, Tu, updN cu ou (ivs .u64 U)⟩ :: ⟨bv, sv, Tv, updN cv ov (ivs .u64 V)⟩ :: G⟩ fun r S' =>
      ∃ U' b, S' = ⟨I, ⟨bu, su, Tu, updN cu ou (ivs .u64 U')⟩ :: ⟨bv, sv, Tv, updN cv ov (ivs .u64 V)⟩ :: G⟩ ∧ U'.length = U.length ∧ Lim U' ∧ lv U' + 18446744073709551616 ^ U.length * b = lv U + lv V := by
  refine CallG.start (C := mkC Hvaf.prog) cok (args := [sl bu ou U.length pu, sl bv ov V.length pv]) Hvaf.func437 rfl Hvaf.ntmps437 (by simp) (by kernel_rfl) ?_
  repeat (first | refine SeqS.go cok ?_)
  refine W.loopE cok (by kernel_rfl) 0 (fun (p : TT) e' S' => S' = ⟨I, ⟨bu, su, Tu, updN cu ou (ivs .u64 (p.P ++ p.R))⟩ :: ⟨bv, sv, Tv, updN cv ov (ivs .u64 V)⟩ :: G⟩ ∧ V = p.A ++ p.B ∧ p.P.length = p.A.length ∧ p.R.length = p.B.length + 1 ∧ Lim p.P ∧ Lim p.R ∧ p.c ≤ 1 ∧ Hid (lv p.P + 18446744073709551616 ^ p.A.length * lv p.R + 18446744073709551616 ^ p.A.length * p.c = lv U + lv p.A) ∧
      slots [(0, sl bu ou U.length pu), (1, sl bv ov V.length pv), (4, .int .u64 (p.c : Nat)), (9, sl bv ov V.length pv), (10, .int .i64 (V.length : Nat)), (11, .int .i64 (p.A.length : Nat))] e') (fun p => p.B.length) ⟨[], U, [], V, 0, 0⟩
      ⟨rfl, rfl, rfl, hl, fun d hd => by simp at hd, hU, by show 0 ≤ 1; decide, ⟨by simp [lv]⟩, rfl, rfl, rfl, rfl, rfl, rfl, trivial⟩
      (fun e' S' => ∃ P y c, S' = ⟨I, ⟨bu, su, Tu, updN cu ou (ivs .u64 (P ++ [y]))⟩ :: ⟨bv, sv, Tv, updN cv ov (ivs .u64 V)⟩ :: G⟩ ∧ P.length = V.length ∧ Lim P ∧ y < 18446744073709551616 ∧ c ≤ 1 ∧ Hid (lv P + 18446744073709551616 ^ V.length * y + 18446744073709551616 ^ V.length * c = lv U + lv V) ∧
        slots [(0, sl bu ou U.length pu), (1, sl bv ov V.length pv), (4, .int .u64 (c : Nat))] e') ?_ ?_
  · rintro e' S2 - ⟨P, y, c, hS, g1, g2, g3, g5, E, hsl⟩
    subst hS
    refine SeqS.slots cok _ hsl fun e => ?_
    have hg : (P ++ [y]).getD V.length 0 = y := getD_at P y [] _ g1
    have hgl : (P ++ [y]).getD V.length 0 < 18446744073709551616 := by rw [hg]; exact g3
    have hln : (P ++ [y]).length = V.length + 1 := by simp [g1]
    repeat (first | refine And.intro (by omega) ?_ | (refine NatS.keep ?_; first | with_reducible refine NatS.nat ?_) | (refine QuG.keep ?_; first | refine QuG.ar cok 0 rfl rfl rfl rfl rfl rfl (by first | omega | (simp; done) | (simp; omega)) (by first | omega | (simp; done) | (simp; omega)) ?_))
    refine ValS.addR ?_
    intro d b hd e2
    repeat (first | refine And.intro (by omega) ?_ | (refine NatS.keep ?_; first | with_reducible refine NatS.nat ?_) | (refine OpG.keep ?_; first | refine OpG.ar cok 0 rfl rfl rfl rfl rfl rfl (by first | omega | (simp; done) | (simp; omega)) (by first | omega | (simp; done) | (simp; omega)) rfl ?_))
    refine Fin.same ⟨P ++ [d], b, ?_, by simp [g1, hl], Lim.snoc g2 hd, ?_⟩
    · exact (by rw [set_at P y d [] _ g1] : (⟨I, ⟨bu, su, Tu, updN cu ou (ivs .u64 ((P ++ [y]).set V.length d))⟩ :: ⟨bv, sv, Tv, updN cv ov (ivs .u64 V)⟩ :: G⟩ : St) = ⟨I, ⟨bu, su, Tu, updN cu ou (ivs .u64 (P ++ [d]))⟩ :: ⟨bv, sv, Tv, updN cv ov (ivs .u64 V)⟩ :: G⟩)
    · have e2 := e2.out
      rw [hg] at e2
      rw [lv_snoc, g1, hl, Nat.pow_succ]
      exact pb_last E.out e2
  · rintro ⟨P, R, A, B, c, k⟩ e' S2 - ⟨hS, hA, g1, g2, g3, g4, g5, E, hsl⟩
    dsimp only at hS hA g1 g2 g3 g4 g5 E hsl
    subst hS
    refine W.slots _ hsl fun e => ?_
    have hVl : V.length = A.length + B.length := by rw [hA]; simp
    cases B with
    | nil =>
      simp only [List.length_nil] at hVl g2
      match R, g2 with
      | [y], _ =>
        simp only [List.append_nil] at hA
        repeat (first | refine SeqS.go cok ?_ | (refine CondS.keep ?_; first | refine CondS.d0 rfl (by omega) ?_))
        refine ⟨P, y, c, rfl, by omega, g3, g4 y (by simp), g5, ⟨?_⟩, rfl, rfl, rfl, trivial⟩
        have E := E.out
        simp only [lv, Nat.mul_zero, Nat.add_zero] at E
        rw [hA]; exact E
    | cons x B =>
      simp only [List.length_cons] at hVl g2
      match R, g2 with
      | y :: R, g2 =>
        simp only [List.length_cons] at g2
        have hgv : V.getD A.length 0 = x := by rw [hA]; exact getD_mid A x B
        have hx : x < 18446744073709551616 := hV x (by rw [hA]; simp)
        have hgvl : V.getD A.length 0 < 18446744073709551616 := by rw [hgv]; exact hx
        have hgu : (P ++ y :: R).getD A.length 0 = y := getD_at P y R _ g1
        have hgul : (P ++ y :: R).getD A.length 0 < 18446744073709551616 := by rw [hgu]; exact g4 y (by simp)
        have hln : (P ++ y :: R).length = U.length := by simp; omega
        repeat (first | refine SeqS.go cok ?_ | refine And.intro (by omega) ?_ | (refine NatS.keep ?_; first | with_reducible refine NatS.nat ?_) | (refine QuG.keep ?_; first | refine QuG.ar cok 0 rfl rfl rfl rfl rfl rfl (by first | omega | (simp; done) | (simp; omega)) (by first | omega | (simp; done) | (simp; omega)) ?_ | refine QuG.ar cok 1 rfl rfl rfl rfl rfl rfl (by first | omega | (simp; done) | (simp; omega)) (by first | omega | (simp; done) | (simp; omega)) ?_) | (refine CondS.keep ?_; first | refine CondS.d1 rfl (by omega) ?_))
        refine (Add64_h hgul hgvl g5).mono ?_
        rintro r _ - ⟨rfl, d, b, z3, z4, e2, rfl⟩
        repeat (first | refine SeqS.go cok ?_ | refine And.intro (by omega) ?_ | (refine NatS.keep ?_; first | with_reducible refine NatS.nat ?_) | (refine ValS.keep ?_; first | (with_reducible refine ValS.kI64 ?_; first | (with_reducible refine ValS.addI64_L ?_ ?_ ; omega))) | (refine OpG.keep ?_; first | refine OpG.ar cok 0 rfl rfl rfl rfl rfl rfl (by first | omega | (simp; done) | (simp; omega)) (by first | omega | (simp; done) | (simp; omega)) rfl ?_))
        refine ⟨⟨P ++ [d], R, A ++ [x], B, b, 0⟩, ⟨?_, by rw [hA]; simp, by simp [g1], by show R.length = B.length + 1; omega, Lim.snoc g3 z3, Lim.tail g4, z4, ⟨?_⟩, rfl, rfl, rfl, rfl, rfl, ?_, trivial⟩, by show B.length < (x :: B).length; simp⟩
        · exact (by rw [set_at P y d R _ g1]; simp : (⟨I, ⟨bu, su, Tu, updN cu ou (ivs .u64 ((P ++ y :: R).set A.length d))⟩ :: ⟨bv, sv, Tv, updN cv ov (ivs .u64 V)⟩ :: G⟩ : St) = ⟨I, ⟨bu, su, Tu, updN cu ou (ivs .u64 ((P ++ [d]) ++ R))⟩ :: ⟨bv, sv, Tv, updN cv ov (ivs .u64 V)⟩ :: G⟩)
        · have e2 := e2.out
          rw [hgv, hgu] at e2
          rw [lv_snoc, lv_snoc, pow_len_succ, g1]
          exact pb_step E.out rfl e2
        · exact vI rfl (by simp)

/-! ### The trial digit -/
def trQ (high mid low top next : Nat) : Nat := min 18446744073709551615 (((high * 18446744073709551616 + mid) * 18446744073709551616 + low) / (top * 18446744073709551616 + next))
theorem tr_down {high mid low top next q r hi lo : Nat} (ht : 0 < top) (s : q * top + (r + 18446744073709551616 * 0) = high * 18446744073709551616 + mid) (e : lo + 18446744073709551616 * hi = q * next) (hlo : lo < 18446744073709551616) (hlow : low < 18446744073709551616) (hc : r < hi ∨ r = hi ∧ low < lo) (hg : trQ high mid low top next ≤ q) : 1 ≤ q ∧ trQ high mid low top next ≤ q - 1 := by
  have h1 : (high * 18446744073709551616 + mid) * 18446744073709551616 + low < q * (top * 18446744073709551616 + next) := by
    rw [← s, Nat.mul_add, ← e]
    have : q * (top * 18446744073709551616) = q * top * 18446744073709551616 := by rw [Nat.mul_assoc]
    rw [this, Nat.mul_zero, Nat.add_zero, Nat.add_mul]
    omega
  have h2 : ((high * 18446744073709551616 + mid) * 18446744073709551616 + low) / (top * 18446744073709551616 + next) < q := (Nat.div_lt_iff_lt_mul (by omega)).2 h1
  have h3 : 1 ≤ q := Nat.lt_of_le_of_lt (Nat.zero_le _) h2
  exact ⟨h3, Nat.le_trans (Nat.min_le_right _ _) (Nat.le_sub_one_of_lt h2)⟩
theorem tr_stop {high mid low top next q r hi lo : Nat} (ht : 0 < top) (s : q * top + (r + 18446744073709551616 * 0) = high * 18446744073709551616 + mid) (e : lo + 18446744073709551616 * hi = q * next) (hlo : lo < 18446744073709551616) (hlow : low < 18446744073709551616) (hc : hi < r ∨ hi = r ∧ lo ≤ low) (hq : q ≤ 18446744073709551615) (hg : trQ high mid low top next ≤ q) : q = trQ high mid low top next := by
  refine Nat.le_antisymm (Nat.le_min.2 ⟨hq, ?_⟩) hg
  rw [Nat.le_div_iff_mul_le (by omega), ← s, Nat.mul_add, ← e]
  have : q * (top * 18446744073709551616) = q * top * 18446744073709551616 := by rw [Nat.mul_assoc]
  rw [this, Nat.mul_zero, Nat.add_zero, Nat.add_mul]
  omega
theorem tr_over {high mid low top next q r : Nat} (ht : 0 < top) (s : q * top + (r + 18446744073709551616 * 1) = high * 18446744073709551616 + mid) (hn : next < 18446744073709551616) (hq : q ≤ 18446744073709551615) (hg : trQ high mid low top next ≤ q) : q = trQ high mid low top next := by
  refine Nat.le_antisymm (Nat.le_min.2 ⟨hq, ?_⟩) hg
  rw [Nat.le_div_iff_mul_le (by omega), ← s, Nat.mul_add]
  have : q * (top * 18446744073709551616) = q * top * 18446744073709551616 := by rw [Nat.mul_assoc]
  have hm : q * next ≤ 18446744073709551615 * 18446744073709551615 := Nat.mul_le_mul hq (by omega)
  rw [this, Nat.add_mul]
  omega
theorem tr_first {high mid low top next : Nat} (hh : high < top) (hm : mid < 18446744073709551616) (hlow : low < 18446744073709551616) (ht : top < 18446744073709551616) : (high * 18446744073709551616 + mid) / top ≤ 18446744073709551615 ∧ trQ high mid low top next ≤ (high * 18446744073709551616 + mid) / top := by
  constructor
  · rw [← Nat.lt_succ_iff, Nat.div_lt_iff_lt_mul (by omega)]
    have : (high + 1) * 18446744073709551616 ≤ top * 18446744073709551616 := Nat.mul_le_mul_right _ hh
    have h2 : Nat.succ 18446744073709551615 = 18446744073709551616 := rfl
    rw [h2, Nat.mul_comm 18446744073709551616]
    omega
  · refine Nat.le_trans (Nat.min_le_right _ _) ?_
    refine Nat.le_trans (Nat.div_le_div_left (Nat.le_add_right (top * 18446744073709551616) next) (by omega)) ?_
    rw [Nat.mul_comm top, ← Nat.div_div_eq_div_mul]
    refine Nat.div_le_div_right ?_
    omega
end Go.Proofs.YgvafwGreat
