import Derived.Test.YgvafwGreatD9
set_option maxRecDepth 100000
set_option maxHeartbeats 4000000
set_option linter.unusedVariables false
set_option linter.unusedSimpArgs false
-- v2
-- v3
namespace Go.Proofs.YgvafwGreat
open Go.HL Go.Proofs

theorem sh_step {l Q y : Nat} (hy : 0 < y) : (Q % y * 18446744073709551616 + l) / y + 18446744073709551616 * (Q / y) = (l + 18446744073709551616 * Q) / y ∧ (Q % y * 18446744073709551616 + l) % y = (l + 18446744073709551616 * Q) % y := by
  have d := Nat.div_add_mod Q y
  have e : l + 18446744073709551616 * Q = (Q % y * 18446744073709551616 + l) + y * (18446744073709551616 * (Q / y)) := by
    have : 18446744073709551616 * Q = 18446744073709551616 * (y * (Q / y) + Q % y) := by rw [d]
    rw [this, Nat.mul_add, Nat.mul_left_comm, Nat.mul_comm (Q % y)]; omega
  rw [e]
  exact ⟨by rw [Nat.add_mul_div_left _ _ hy], by rw [Nat.add_mul_mod_self_left]⟩
theorem sh_q {l r y : Nat} (hr : r < y) (hl : l < 18446744073709551616) (hy : y < 18446744073709551616) : (r * 18446744073709551616 + l) / y < 18446744073709551616 := by
  rw [Nat.div_lt_iff_lt_mul (by omega)]
  have : (r + 1) * 18446744073709551616 ≤ y * 18446744073709551616 := Nat.mul_le_mul_right _ hr
  rw [Nat.mul_comm 18446744073709551616]; omega
theorem lv_zero {Q : List Nat} (h : ∀ d ∈ Q, d = 0) : lv Q = 0 := by
  induction Q with
  | nil => rfl
  | cons d Q ih => simp only [lv]; rw [h d (by simp), ih (fun x hx => h x (by simp [hx]))]

/-- u256.short -/
theorem short_spec {I : Ent → Prop} {G : List Ent} {b t y : Nat} {T : TypeId} {c : Nat → Value} {X : List Nat} (hX : Lim X) (hl : X.length = 8) (hy : 0 < y) (hyM : y < 18446744073709551616) (ht : t ≤ 8) (hz : ∀ d ∈ X.drop t, d = 0) :
    CallG Hvaf.prog 430 #[ptr b 0, .int .u8 (t : Nat), .int .u64 (y : Nat)] ⟨I, ⟨b, 8, T, updN c 0 (ivs .u64 X)⟩ :: G⟩ fun r S' => ∃ R, S' = ⟨I, ⟨b, 8, T, updN c 0 (ivs .u64 R)⟩ :: G⟩ ∧ R.length = 8 ∧ Lim R ∧ lv R = lv X / y ∧ r = .int .u64 (lv X % y : Nat) := by
  have hq0 := lv_zero hz
  refine CallG.start (C := mkC Hvaf.prog) cok (args := [ptr b 0, .int .u8 (t : Nat), .int .u64 (y : Nat)]) Hvaf.func430 rfl Hvaf.ntmps430 (by simp) (by kernel_rfl) ?_
  repeat (first | refine SeqS.go cok ?_)
  refine W.loopE cok (by kernel_rfl) 0 (fun (p : List Nat × List Nat × List Nat) e' S' => S' = ⟨I, ⟨b, 8, T, updN c 0 (ivs .u64 (p.1.reverse ++ p.2.1))⟩ :: G⟩ ∧ X = p.1.reverse ++ p.2.2 ∧ p.2.1.length = p.2.2.length ∧ Lim p.2.1 ∧ lv p.2.1 = lv p.2.2 / y ∧
      slots [(0, ptr b 0), (2, .int .u64 (y : Nat)), (7, .int .u64 (lv p.2.2 % y : Nat)), (8, .int .u8 (p.1.length : Nat))] e') (fun p => p.1.length) ((X.take t).reverse, X.drop t, X.drop t)
      ⟨by simp, by simp, rfl, fun d hd => hX d (List.mem_of_mem_drop hd), by show lv (X.drop t) = lv (X.drop t) / y; rw [hq0, Nat.zero_div], rfl, rfl, ?_, ?_, trivial⟩
      (fun e' S' => ∃ R, S' = ⟨I, ⟨b, 8, T, updN c 0 (ivs .u64 R)⟩ :: G⟩ ∧ R.length = 8 ∧ Lim R ∧ lv R = lv X / y ∧ slots [(7, .int .u64 (lv X % y : Nat))] e') ?_ ?_
  · exact Eq.trans (b := .int .u64 ((0 : Nat) : Int)) rfl (by show _ = Value.int .u64 ((lv (X.drop t) % y : Nat) : Int); rw [hq0, Nat.zero_mod])
  · exact vI rfl (by simp; omega)
  · rintro e' S2 - ⟨R, hS, l1, m1, e1, hsl⟩
    subst hS
    refine SeqS.slots cok _ hsl fun e => ?_
    repeat (first | refine SeqS.go cok ?_)
    exact Fin.same ⟨R, rfl, l1, m1, e1, rfl⟩
  · rintro ⟨P, R, Q⟩ e' S2 - ⟨hS, h1, h2, h3, h4, hsl⟩
    dsimp only at hS h1 h2 h3 h4 hsl
    subst hS
    refine W.slots _ hsl fun e => ?_
    cases P with
    | nil =>
      simp only [List.reverse_nil, List.nil_append] at h1
      repeat (first | refine SeqS.go cok ?_ | refine CondS.f rfl ?_)
      exact ⟨R, rfl, by rw [h2, ← h1, hl], h3, by rw [h1, h4], vI rfl (by rw [h1]), trivial⟩
    | cons l P =>
      have hll : l < 18446744073709551616 := hX l (by rw [h1]; simp)
      have hn : X.length = P.length + 1 + Q.length := by rw [h1]; simp; omega
      have hg : ((l :: P).reverse ++ R).getD P.length 0 = l := getD_rev P l R
      have hgl : ((l :: P).reverse ++ R).getD P.length 0 < 18446744073709551616 := by rw [hg]; exact hll
      have hlen : ((l :: P).reverse ++ R).length = P.length + 1 + R.length := by simp; omega
      have hpl : (l :: P).length = P.length + 1 := rfl
      have hr := Nat.mod_lt (lv Q) hy
      have hst := sh_step (l := l) (Q := lv Q) hy
      have hqq := sh_q hr hll hyM
      have hdiv := NDiv64_spec (S := ⟨I, ⟨b, 8, T, updN c 0 (ivs .u64 ((l :: P).reverse ++ R))⟩ :: G⟩) (hi := lv Q % y) (lo := ((l :: P).reverse ++ R).getD P.length 0) (y := y) (by omega) hgl hyM
      rw [if_pos hr] at hdiv
      repeat (first | (refine ValS.keep ?_; with_reducible refine ValS.subK8 P.length ?_ ?_ ?_; omega; omega) | refine SeqS.go cok ?_ | refine And.intro (by dsimp only; omega) ?_ | (refine NatS.keep ?_; first | with_reducible refine NatS.nat ?_) | (refine QuG.keep ?_; first | refine QuG.ar cok 0 rfl rfl rfl rfl rfl rfl (by first | omega | (simp; done) | (simp; omega)) (by first | omega | (simp; done) | (simp; omega)) ?_) | (refine CondS.keep ?_; first | refine CondS.d1 rfl (by omega) ?_))
      refine hdiv.mono ?_
      rintro r _ - ⟨rfl, rfl⟩
      repeat (first | (refine ValS.keep ?_; with_reducible refine ValS.subK8 P.length ?_ ?_ ?_; omega; omega) | refine SeqS.go cok ?_ | refine And.intro (by dsimp only; omega) ?_ | (refine NatS.keep ?_; first | with_reducible refine NatS.nat ?_) | (refine OpG.keep ?_; first | refine OpG.ar cok 0 rfl rfl rfl rfl rfl rfl (by first | omega | (simp; done) | (simp; omega)) (by first | omega | (simp; done) | (simp; omega)) rfl ?_))
      refine ⟨(P, ((lv Q % y * 18446744073709551616 + l) / y) :: R, l :: Q), ⟨?_, by rw [h1]; simp, by simp [h2], ?_, ?_, rfl, rfl, ?_, ?_, trivial⟩, by show P.length < (l :: P).length; simp⟩
      · exact (by rw [hg, set_rev] : (⟨I, ⟨b, 8, T, updN c 0 (ivs .u64 (((l :: P).reverse ++ R).set P.length ((lv Q % y * 18446744073709551616 + ((l :: P).reverse ++ R).getD P.length 0) / y)))⟩ :: G⟩ : St) = ⟨I, ⟨b, 8, T, updN c 0 (ivs .u64 (P.reverse ++ ((lv Q % y * 18446744073709551616 + l) / y) :: R))⟩ :: G⟩)
      · intro d hdd
        simp only [List.mem_cons] at hdd
        rcases hdd with rfl | hdd
        · exact hqq
        · exact h3 d hdd
      · simp only [lv]; rw [h4]; exact hst.1
      · exact vI rfl (by rw [hg]; exact hst.2)
      · exact vI rfl rfl
end Go.Proofs.YgvafwGreat
