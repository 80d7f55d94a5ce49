import Derived.Test.YgvafwGreatD2
set_option maxRecDepth 100000
set_option maxHeartbeats 4000000
set_option linter.unusedVariables false
set_option linter.unusedSimpArgs false
-- v2
-- v3
namespace Go.Proofs.YgvafwGreat
open Go.HL Go.Proofs

theorem Sub64_h {S : St} {x y c : Nat} (hx : x < 18446744073709551616) (hy : y < 18446744073709551616) (hc : c ≤ 1) :
    CallG Hvaf.prog 256 #[.int .u64 (x : Nat), .int .u64 (y : Nat), .int .u64 (c : Nat)] S fun r S' => S = S' ∧ ∃ s k : Nat, s < 18446744073709551616 ∧ k ≤ 1 ∧ Hid (s + y + c = x + 18446744073709551616 * k) ∧ r = .tuple #[.int .u64 (s : Nat), .int .u64 (k : Nat)] := by
  refine (Sub64_lin hx hy hc).mono ?_
  rintro r _ - ⟨rfl, s, k, h1, h2, h3, rfl⟩
  exact ⟨rfl, s, k, h1, h2, ⟨h3⟩, rfl⟩
theorem tt_step {p Pn r q a u c k y r' x lo hi d b : Nat} (E : p + Pn * r + q * a = u + Pn * (c + k)) (er : r = y + 18446744073709551616 * r') (e1 : lo + 18446744073709551616 * hi = q * x + c + 0) (e2 : d + lo + k = y + 18446744073709551616 * b) :
    (p + Pn * d) + (Pn * 18446744073709551616) * r' + q * (a + Pn * x) = u + (Pn * 18446744073709551616) * (hi + b) := by grind
theorem tt_last {p Pn q a u c k y d b : Nat} (E : p + Pn * y + q * a = u + Pn * (c + k)) (e2 : d + c + k = y + 18446744073709551616 * b) : (p + Pn * d) + q * a = u + (Pn * 18446744073709551616) * b := by grind
theorem pb_step {p Pn r a u c y r' x s k : Nat} (E : p + Pn * r + Pn * c = u + a) (er : r = y + 18446744073709551616 * r') (e1 : s + 18446744073709551616 * k = y + x + c) :
    (p + Pn * s) + (Pn * 18446744073709551616) * r' + (Pn * 18446744073709551616) * k = u + (a + Pn * x) := by grind
theorem pb_last {p Pn a u c y s k : Nat} (E : p + Pn * y + Pn * c = u + a) (e1 : s + 18446744073709551616 * k = y + c) : (p + Pn * s) + (Pn * 18446744073709551616) * k = u + a := by grind

structure TT where
  P : List Nat
  R : List Nat
  A : List Nat
  B : List Nat
  c : Nat
  k : Nat
theorem getD_at (P : List Nat) (x : Nat) (R : List Nat) (n : Nat) (h : P.length = n) : (P ++ x :: R).getD n 0 = x := by subst h; exact getD_mid P x R
theorem set_at (P : List Nat) (x y : Nat) (R : List Nat) (n : Nat) (h : P.length = n) : (P ++ x :: R).set n y = P ++ y :: R := by subst h; exact set_mid P x y R
theorem Lim.snoc {P : List Nat} {x : Nat} (h : Lim P) (hx : x < 18446744073709551616) : Lim (P ++ [x]) := by
  intro d hd
  simp only [List.mem_append, List.mem_singleton] at hd
  rcases hd with hd | rfl
  · exact h d hd
  · exact hx
theorem Lim.tail {l : Nat} {R : List Nat} (h : Lim (l :: R)) : Lim R := fun d hd => h d (by simp [hd])

/-- u256.takeTimes -/
theorem takeTimes_spec {I : Ent → Prop} {G : List Ent} {bu su ou pu bv sv ov pv q : Nat} {Tu Tv : TypeId} {cu cv : Nat → Value} {U V : List Nat} (hU : Lim U) (hV : Lim V) (hq : q < 18446744073709551616) (hl : U.length = V.length + 1) (hm : U.length < 2 ^ 40) (h1 : ou + U.length ≤ su) (h2 : ov + V.length ≤ sv) :
    CallG Hvaf.prog 436 #[sl bu ou U.length pu, sl bv ov V.length pv, .int .u64 (q : Nat)] ⟨I, ⟨bu, su, Tu, updN cu ou (ivs .u64 U)⟩ :: ⟨bv, sv, Tv, updN cv ov (ivs .u64 V)⟩ :: G⟩ fun r S' =>
      ∃ U' b, S' = ⟨I, ⟨bu, su, Tu, updN cu ou (ivs .u64 U')⟩ :: ⟨bv, sv, Tv, updN cv ov (ivs .u64 V)⟩ :: G⟩ ∧ U'.length = U.length ∧ Lim U' ∧ b ≤ 1 ∧ lv U' + q * lv V = lv U + 18446744073709551616 ^ U.length * b ∧ r = .bool (decide (b ≠ 0)) := by
  refine CallG.start (C := mkC Hvaf.prog) cok (args := [sl bu ou U.length pu, sl bv ov V.length pv, .int .u64 (q : Nat)]) Hvaf.func436 rfl Hvaf.ntmps436 (by simp) (by kernel_rfl) ?_
  repeat (first | refine SeqS.go cok ?_)
  refine W.loopE cok (by kernel_rfl) 0 (fun (p : TT) e' S' => S' = ⟨I, ⟨bu, su, Tu, updN cu ou (ivs .u64 (p.P ++ p.R))⟩ :: ⟨bv, sv, Tv, updN cv ov (ivs .u64 V)⟩ :: G⟩ ∧ V = p.A ++ p.B ∧ p.P.length = p.A.length ∧ p.R.length = p.B.length + 1 ∧ Lim p.P ∧ Lim p.R ∧ p.c < 18446744073709551616 ∧ p.k ≤ 1 ∧ Hid (lv p.P + 18446744073709551616 ^ p.A.length * lv p.R + q * lv p.A = lv U + 18446744073709551616 ^ p.A.length * (p.c + p.k)) ∧
      slots [(0, sl bu ou U.length pu), (1, sl bv ov V.length pv), (2, .int .u64 (q : Nat)), (7, .int .u64 (p.c : Nat)), (8, .int .u64 (p.k : Nat)), (17, sl bv ov V.length pv), (18, .int .i64 (V.length : Nat)), (19, .int .i64 (p.A.length : Nat))] e') (fun p => p.B.length) ⟨[], U, [], V, 0, 0⟩
      ⟨rfl, rfl, rfl, hl, fun d hd => by simp at hd, hU, by show 0 < 18446744073709551616; decide, by show 0 ≤ 1; decide, ⟨by simp [lv]⟩, rfl, rfl, rfl, rfl, rfl, rfl, rfl, rfl, trivial⟩
      (fun e' S' => ∃ P y c k, S' = ⟨I, ⟨bu, su, Tu, updN cu ou (ivs .u64 (P ++ [y]))⟩ :: ⟨bv, sv, Tv, updN cv ov (ivs .u64 V)⟩ :: G⟩ ∧ P.length = V.length ∧ Lim P ∧ y < 18446744073709551616 ∧ c < 18446744073709551616 ∧ k ≤ 1 ∧ Hid (lv P + 18446744073709551616 ^ V.length * y + q * lv V = lv U + 18446744073709551616 ^ V.length * (c + k)) ∧
        slots [(0, sl bu ou U.length pu), (1, sl bv ov V.length pv), (7, .int .u64 (c : Nat)), (8, .int .u64 (k : Nat))] e') ?_ ?_
  · rintro e' S2 - ⟨P, y, c, k, hS, g1, g2, g3, g4, g5, E, hsl⟩
    subst hS
    refine SeqS.slots cok _ hsl fun e => ?_
    have hg : (P ++ [y]).getD V.length 0 = y := getD_at P y [] _ g1
    have hgl : (P ++ [y]).getD V.length 0 < 18446744073709551616 := by rw [hg]; exact g3
    have hln : (P ++ [y]).length = V.length + 1 := by simp [g1]
    repeat (first | refine And.intro (by omega) ?_ | (refine NatS.keep ?_; first | with_reducible refine NatS.nat ?_) | (refine QuG.keep ?_; first | refine QuG.ar cok 0 rfl rfl rfl rfl rfl rfl (by first | omega | (simp; done) | (simp; omega)) (by first | omega | (simp; done) | (simp; omega)) ?_))
    refine (Sub64_h hgl g4 g5).mono ?_
    rintro r _ - ⟨rfl, d, b, hd, hb, e2, rfl⟩
    repeat (first | refine SeqS.go cok ?_ | refine And.intro (by omega) ?_ | (refine NatS.keep ?_; first | with_reducible refine NatS.nat ?_) | (refine OpG.keep ?_; first | refine OpG.ar cok 0 rfl rfl rfl rfl rfl rfl (by first | omega | (simp; done) | (simp; omega)) (by first | omega | (simp; done) | (simp; omega)) rfl ?_))
    refine Fin.same ⟨P ++ [d], b, ?_, by simp [g1, hl], Lim.snoc g2 hd, hb, ?_, vB rfl (bne_nat b)⟩
    · exact (by rw [set_at P y d [] _ g1] : (⟨I, ⟨bu, su, Tu, updN cu ou (ivs .u64 ((P ++ [y]).set V.length d))⟩ :: ⟨bv, sv, Tv, updN cv ov (ivs .u64 V)⟩ :: G⟩ : St) = ⟨I, ⟨bu, su, Tu, updN cu ou (ivs .u64 (P ++ [d]))⟩ :: ⟨bv, sv, Tv, updN cv ov (ivs .u64 V)⟩ :: G⟩)
    · have e2 := e2.out
      rw [hg] at e2
      rw [lv_snoc, g1, hl, Nat.pow_succ]
      exact tt_last E.out e2
  · rintro ⟨P, R, A, B, c, k⟩ e' S2 - ⟨hS, hA, g1, g2, g3, g4, g5, g6, E, hsl⟩
    dsimp only at hS hA g1 g2 g3 g4 g5 g6 E hsl
    subst hS
    refine W.slots _ hsl fun e => ?_
    have hVl : V.length = A.length + B.length := by rw [hA]; simp
    cases B with
    | nil =>
      simp only [List.length_nil] at hVl g2
      match R, g2 with
      | [y], _ =>
        simp only [List.append_nil] at hA
        repeat (first | refine SeqS.go cok ?_ | (refine CondS.keep ?_; first | refine CondS.d0 rfl (by omega) ?_))
        refine ⟨P, y, c, k, rfl, by omega, g3, g4 y (by simp), g5, g6, ⟨?_⟩, rfl, rfl, rfl, rfl, trivial⟩
        have E := E.out
        simp only [lv, Nat.mul_zero, Nat.add_zero] at E
        rw [hA]; exact E
    | cons x B =>
      simp only [List.length_cons] at hVl g2
      match R, g2 with
      | y :: R, g2 =>
        simp only [List.length_cons] at g2
        have hgv : V.getD A.length 0 = x := by rw [hA]; exact getD_mid A x B
        have hx : x < 18446744073709551616 := hV x (by rw [hA]; simp)
        have hgvl : V.getD A.length 0 < 18446744073709551616 := by rw [hgv]; exact hx
        have hgu : (P ++ y :: R).getD A.length 0 = y := getD_at P y R _ g1
        have hgul : (P ++ y :: R).getD A.length 0 < 18446744073709551616 := by rw [hgu]; exact g4 y (by simp)
        have hln : (P ++ y :: R).length = U.length := by simp; omega
        repeat (first | refine SeqS.go cok ?_ | refine And.intro (by omega) ?_ | (refine NatS.keep ?_; first | with_reducible refine NatS.nat ?_) | (refine QuG.keep ?_; first | refine QuG.ar cok 1 rfl rfl rfl rfl rfl rfl (by first | omega | (simp; done) | (simp; omega)) (by first | omega | (simp; done) | (simp; omega)) ?_) | (refine CondS.keep ?_; first | refine CondS.d1 rfl (by omega) ?_))
        refine (mulAdd_spec (c := 0) hq hgvl g5 (by omega)).mono ?_
        rintro r _ - ⟨rfl, lo, hi, z1, z2, e1, rfl⟩
        repeat (first | refine SeqS.go cok ?_ | refine And.intro (by omega) ?_ | (refine NatS.keep ?_; first | with_reducible refine NatS.nat ?_) | (refine QuG.keep ?_; first | refine QuG.ar cok 0 rfl rfl rfl rfl rfl rfl (by first | omega | (simp; done) | (simp; omega)) (by first | omega | (simp; done) | (simp; omega)) ?_))
        refine (Sub64_h hgul z1 g6).mono ?_
        rintro r _ - ⟨rfl, d, b, z3, z4, e2, rfl⟩
        repeat (first | refine SeqS.go cok ?_ | refine And.intro (by omega) ?_ | (refine NatS.keep ?_; first | with_reducible refine NatS.nat ?_) | (refine ValS.keep ?_; first | (with_reducible refine ValS.kI64 ?_; first | (with_reducible refine ValS.addI64_L ?_ ?_ ; omega))) | (refine OpG.keep ?_; first | refine OpG.ar cok 0 rfl rfl rfl rfl rfl rfl (by first | omega | (simp; done) | (simp; omega)) (by first | omega | (simp; done) | (simp; omega)) rfl ?_))
        refine ⟨⟨P ++ [d], R, A ++ [x], B, hi, b⟩, ⟨?_, by rw [hA]; simp, by simp [g1], by show R.length = B.length + 1; omega, Lim.snoc g3 z3, Lim.tail g4, z2, z4, ⟨?_⟩, rfl, rfl, rfl, rfl, rfl, rfl, rfl, ?_, trivial⟩, by show B.length < (x :: B).length; simp⟩
        · exact (by rw [set_at P y d R _ g1]; simp : (⟨I, ⟨bu, su, Tu, updN cu ou (ivs .u64 ((P ++ y :: R).set A.length d))⟩ :: ⟨bv, sv, Tv, updN cv ov (ivs .u64 V)⟩ :: G⟩ : St) = ⟨I, ⟨bu, su, Tu, updN cu ou (ivs .u64 ((P ++ [d]) ++ R))⟩ :: ⟨bv, sv, Tv, updN cv ov (ivs .u64 V)⟩ :: G⟩)
        · have e1 := e1.out
          have e2 := e2.out
          rw [hgv] at e1
          rw [hgu] at e2
          rw [lv_snoc, lv_snoc, pow_len_succ, g1]
          exact tt_step E.out rfl e1 e2
        · exact vI rfl (by simp)
end Go.Proofs.YgvafwGreat
