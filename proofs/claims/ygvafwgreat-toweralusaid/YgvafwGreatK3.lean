import Derived.Test.YgvafwGreatK2
set_option maxRecDepth 100000
set_option maxHeartbeats 8000000
set_option linter.unusedVariables false
set_option linter.unusedSimpArgs false
-- v2
-- plus: (refine QuG.keep ?_; fail "none")
namespace Go.Proofs.YgvafwGreat
open Go.HL Go.Proofs

theorem bb_false (n : Nat) : BB (fun _ => .bool false) n (fun _ => false) := ⟨fun _ _ => rfl⟩
/-- kmodel.theta -/
theorem kTheta {I : Ent → Prop} {G : List Ent} {ab sz : Nat} {T : TypeId} {c : Nat → Value} {A : Nat → Bool} (hsz : 1600 ≤ sz) (hA : BB c 1600 A) :
    CallG Hvaf.prog 398 #[ptr ab 0] ⟨I, ⟨ab, sz, T, c⟩ :: G⟩ fun r S' => ∃ c', S' = ⟨I, ⟨ab, sz, T, c'⟩ :: G⟩ ∧ BB c' 1600 (thN A) := by
  refine CallG.start (C := mkC Hvaf.prog) cok (args := [ptr ab 0]) Hvaf.func398 rfl Hvaf.ntmps398 (by simp) (by kernel_rfl) ?_
  intro b2
  repeat (first | refine SeqS.go cok ?_)
  refine W.loopE cok (by kernel_rfl) 0 (fun (x : Nat) e' S' => ∃ cc, S' = ⟨I, ⟨b2, 320, 446, cc⟩ :: ⟨ab, sz, T, c⟩ :: G⟩ ∧ x ≤ 5 ∧ BB cc 320 (fun i => par A (i / 64) (i % 64) (if i / 64 < x then 5 else 0)) ∧ slots [(0, ptr ab 0), (2, ptr b2 0), (16, .int .i64 (x : Nat))] e') (fun x => 5 - x) 0
    ⟨_, rfl, by decide, ?_, rfl, rfl, rfl, trivial⟩
    (fun e' S' => ∃ cc, S' = ⟨I, ⟨b2, 320, 446, cc⟩ :: ⟨ab, sz, T, c⟩ :: G⟩ ∧ BB cc 320 (fun i => par A (i / 64) (i % 64) 5) ∧ slots [(0, ptr ab 0), (2, ptr b2 0)] e') ?_ ?_
  · refine ⟨fun i hi => ?_⟩
    rw [if_neg (Nat.not_lt_zero _)]; rfl
  · rintro e' S2 - ⟨cc, rfl, hC, hsl⟩
    refine SeqS.slots cok _ hsl fun e => ?_
    repeat (first | refine SeqS.go cok ?_)
    refine W.loopF cok (by kernel_rfl) 6 (fun (x : Nat) e' S' => ∃ c', S' = ⟨I, ⟨b2, 320, 446, cc⟩ :: ⟨ab, sz, T, c'⟩ :: G⟩ ∧ x ≤ 5 ∧ BB c' 1600 (fun i => if i / 320 < x then thN A i else A i) ∧ slots [(0, ptr ab 0), (2, ptr b2 0), (48, .int .i64 (x : Nat))] e') (fun x => 5 - x) 0
      (.same ⟨c, rfl, by decide, hA.ext (fun i hi => by rw [if_neg (Nat.not_lt_zero _)]), rfl, rfl, rfl, trivial⟩)
      (fun e' S' => ∃ c', S' = ⟨I, ⟨b2, 320, 446, cc⟩ :: ⟨ab, sz, T, c'⟩ :: G⟩ ∧ BB c' 1600 (thN A)) ?_ ?_
    · rintro e3 S3 - ⟨c3, rfl, hC3⟩
      skip
      exact Fin.drop (⟨ab, sz, T, c3⟩ :: G) [_] ⟨c3, rfl, hC3⟩
    · rintro x e3 S3 - ⟨c3, rfl, hx, hC3, hsl3⟩
      refine W.slots _ hsl3 fun e => ?_
      by_cases hx5 : x < 5
      · repeat (first | refine SeqS.go cok ?_ | refine And.intro (by omega) ?_ | refine And.intro (by dsimp only; omega) ?_ | (refine NatS.keep ?_; first | with_reducible refine NatS.nat ?_) | (refine ValS.keep ?_; first | (with_reducible refine ValS.kI64 ?_; first | (with_reducible refine ValS.addI64_L ?_ ?_ ; omega) | with_reducible refine ValS.remN_L ?_)) | (refine CondS.keep ?_; first | refine CondS.d1 rfl (by omega) ?_))
        intro b10
        repeat (first | refine SeqS.go cok ?_)
        refine W.loopE cok (by kernel_rfl) 8 (fun (z : Nat) e' S' => ∃ cd, S' = ⟨I, ⟨b10, 64, 445, cd⟩ :: ⟨b2, 320, 446, cc⟩ :: ⟨ab, sz, T, c3⟩ :: G⟩ ∧ z ≤ 64 ∧ BB cd 64 (fun i => if i < z then thD A x i else false) ∧ slots [(0, ptr ab 0), (2, ptr b2 0), (7, .int .i64 (x : Nat)), (8, ptr b2 (addS 0 (mulS ((x + 4) % 5) 64))), (9, ptr b2 (addS 0 (mulS ((x + 1) % 5) 64))), (10, ptr b10 0), (48, .int .i64 (x : Nat)), (59, .int .i64 (z : Nat))] e') (fun z => 64 - z) 0
          ⟨_, rfl, by decide, ⟨fun i hi => by rw [if_neg (Nat.not_lt_zero _)]; rfl⟩, rfl, rfl, rfl, rfl, rfl, rfl, rfl, rfl, trivial⟩
          (fun e' S' => ∃ cd, S' = ⟨I, ⟨b10, 64, 445, cd⟩ :: ⟨b2, 320, 446, cc⟩ :: ⟨ab, sz, T, c3⟩ :: G⟩ ∧ BB cd 64 (fun i => thD A x i) ∧ slots [(0, ptr ab 0), (2, ptr b2 0), (7, .int .i64 (x : Nat)), (10, ptr b10 0), (48, .int .i64 (x : Nat))] e') ?_ ?_
        · rintro e4 S4 - ⟨cd, rfl, hD, hsl4⟩
          refine SeqS.slots cok _ hsl4 fun e => ?_
          repeat (first | refine SeqS.go cok ?_)
          refine W.loopE cok (by kernel_rfl) 10 (fun (y : Nat) e' S' => ∃ c', S' = ⟨I, ⟨b10, 64, 445, cd⟩ :: ⟨b2, 320, 446, cc⟩ :: ⟨ab, sz, T, c'⟩ :: G⟩ ∧ y ≤ 5 ∧ BB c' 1600 (fun i => if i / 320 < x ∨ i / 320 = x ∧ i % 320 / 64 < y then thN A i else A i) ∧ slots [(0, ptr ab 0), (2, ptr b2 0), (7, .int .i64 (x : Nat)), (10, ptr b10 0), (48, .int .i64 (x : Nat)), (78, .int .i64 (y : Nat))] e') (fun y => 5 - y) 0
            ⟨c3, rfl, by decide, hC3.ext (fun i hi => by simp), rfl, rfl, rfl, rfl, rfl, rfl, trivial⟩
            (fun e' S' => ∃ c', S' = ⟨I, ⟨b10, 64, 445, cd⟩ :: ⟨b2, 320, 446, cc⟩ :: ⟨ab, sz, T, c'⟩ :: G⟩ ∧ BB c' 1600 (fun i => if i / 320 < x + 1 then thN A i else A i) ∧ slots [(0, ptr ab 0), (2, ptr b2 0), (48, .int .i64 (x : Nat))] e') ?_ ?_
          · rintro e5 S5 - ⟨c5, rfl, hC5, hsl5⟩
            refine SeqS.slots cok _ hsl5 fun e => ?_
            repeat (first | (refine ValS.keep ?_; first | (with_reducible refine ValS.kI64 ?_; first | (with_reducible refine ValS.addI64_L ?_ ?_ ; omega))))
            exact ⟨x + 1, Rel.drop _ [_] ⟨c5, rfl, hx5, hC5, rfl, rfl, rfl, trivial⟩, by show 5 - (x + 1) < 5 - x; omega⟩
          · rintro y e5 S5 - ⟨c5, rfl, hy, hC5, hsl5⟩
            refine W.slots _ hsl5 fun e => ?_
            by_cases hy5 : y < 5
            · repeat (first | refine SeqS.go cok ?_ | refine And.intro (by omega) ?_ | (refine NatS.keep ?_; first | with_reducible refine NatS.nat ?_) | (refine CondS.keep ?_; first | refine CondS.d1 rfl (by omega) ?_))
              refine W.loopE cok (by kernel_rfl) 12 (fun (z : Nat) e' S' => ∃ c', S' = ⟨I, ⟨b10, 64, 445, cd⟩ :: ⟨b2, 320, 446, cc⟩ :: ⟨ab, sz, T, c'⟩ :: G⟩ ∧ z ≤ 64 ∧ BB c' 1600 (fun i => if i / 320 < x ∨ i / 320 = x ∧ (i % 320 / 64 < y ∨ i % 320 / 64 = y ∧ i % 64 < z) then thN A i else A i) ∧ slots [(0, ptr ab 0), (2, ptr b2 0), (7, .int .i64 (x : Nat)), (10, ptr b10 0), (13, ptr ab (addS (addS 0 (mulS x 320)) (mulS y 64))), (48, .int .i64 (x : Nat)), (78, .int .i64 (y : Nat)), (87, .int .i64 (z : Nat))] e') (fun z => 64 - z) 0
                ⟨c5, rfl, by decide, hC5.ext (fun i hi => by simp), rfl, rfl, rfl, rfl, rfl, rfl, rfl, rfl, trivial⟩
                (fun e' S' => ∃ c', S' = ⟨I, ⟨b10, 64, 445, cd⟩ :: ⟨b2, 320, 446, cc⟩ :: ⟨ab, sz, T, c'⟩ :: G⟩ ∧ BB c' 1600 (fun i => if i / 320 < x ∨ i / 320 = x ∧ i % 320 / 64 < y + 1 then thN A i else A i) ∧ slots [(0, ptr ab 0), (2, ptr b2 0), (7, .int .i64 (x : Nat)), (10, ptr b10 0), (48, .int .i64 (x : Nat)), (78, .int .i64 (y : Nat))] e') ?_ ?_
              · rintro e6 S6 - ⟨c6, rfl, hC6, hsl6⟩
                refine SeqS.slots cok _ hsl6 fun e => ?_
                repeat (first | (refine ValS.keep ?_; first | (with_reducible refine ValS.kI64 ?_; first | (with_reducible refine ValS.addI64_L ?_ ?_ ; omega))))
                exact ⟨y + 1, ⟨c6, rfl, hy5, hC6, rfl, rfl, rfl, rfl, rfl, rfl, trivial⟩, by show 5 - (y + 1) < 5 - y; omega⟩
              · rintro z e6 S6 - ⟨c6, rfl, hz, hC6, hsl6⟩
                refine W.slots _ hsl6 fun e => ?_
                by_cases hz64 : z < 64
                · repeat (first | (refine QuG.keep ?_; first | refine QuG.bb cok 0 rfl (by assumption) rfl rfl rfl rfl (by simp only [addS_eq, mulS_eq]; omega) (by omega) ?_ | refine QuG.bb cok 2 rfl (by assumption) rfl rfl rfl rfl (by simp only [addS_eq, mulS_eq]; omega) (by omega) ?_) | refine SeqS.go cok ?_ | refine And.intro (by omega) ?_ | (refine NatS.keep ?_; first | with_reducible refine NatS.nat ?_) | (refine ValS.keep ?_; first | (with_reducible refine ValS.kI64 ?_; first | (with_reducible refine ValS.addI64_L ?_ ?_ ; omega))) | (refine still_in ?_; first | refine still_drop (by decide) ?_) | (refine OpG.keep ?_; first | refine OpG.s1 cok 2 rfl rfl rfl rfl rfl (by first | exact Nat.le_of_ble_eq_true rfl | omega | (dsimp only; omega) | (simp only [addS_eq, mulS_eq]; omega)) rfl rfl ?_) | refine W.drawI 31 cok [0, 0, 2, 6, 1, 31] [0, 1, 2, 3, 4, 5] [3] (by kernel_rfl) (by kernel_rfl) ?_ | refine W.drawI 32 cok [0, 0, 0, 0, 4, 28, 60, 0, 252, 1, 1023, 2047] [0, 1, 2, 3, 4, 5, 6, 7, 8, 9, 10, 11] [6] (by kernel_rfl) (by kernel_rfl) ?_ | (refine QuG.keep ?_; first | refine QuG.neB cok rfl rfl rfl rfl ?_) | (refine CondS.keep ?_; first | refine CondS.d1 rfl (by omega) ?_))
                  refine ⟨z + 1, ⟨_, rfl, hz64, hC6.upd ?_, rfl, rfl, rfl, rfl, rfl, rfl, rfl, rfl, trivial⟩, by show 64 - (z + 1) < 64 - z; omega⟩
                  intro i hi
                  simp only [addS_eq, mulS_eq]
                  by_cases hix : i = 0 + x * 320 + y * 64 + z * 1
                  · rw [if_pos hix, if_pos (by omega), if_neg (by omega)]
                    have h1 : i / 320 = x := by omega
                    have h2 : i % 64 = z := by omega
                    unfold thN
                    rw [h1, h2]
                    congr 2
                    omega
                  · rw [if_neg hix]
                    by_cases hp : i / 320 < x ∨ i / 320 = x ∧ (i % 320 / 64 < y ∨ i % 320 / 64 = y ∧ i % 64 < z)
                    · rw [if_pos hp, if_pos (by omega)]
                    · rw [if_neg hp, if_neg (by omega)]
                · repeat (first | refine SeqS.go cok ?_ | (refine CondS.keep ?_; first | refine CondS.d0 rfl (by omega) ?_))
                  exact ⟨c6, rfl, hC6.ext (fun i hi => by
                    by_cases hp : i / 320 < x ∨ i / 320 = x ∧ i % 320 / 64 < y + 1
                    · rw [if_pos hp, if_pos (by omega)]
                    · rw [if_neg hp, if_neg (by omega)]), rfl, rfl, rfl, rfl, rfl, rfl, trivial⟩
            · repeat (first | refine SeqS.go cok ?_ | (refine CondS.keep ?_; first | refine CondS.d0 rfl (by omega) ?_))
              exact ⟨c5, rfl, hC5.ext (fun i hi => by
                by_cases hp : i / 320 < x + 1
                · rw [if_pos hp, if_pos (by omega)]
                · rw [if_neg hp, if_neg (by omega)]), rfl, rfl, rfl, trivial⟩
        · rintro z e4 S4 - ⟨cd, rfl, hz, hD, hsl4⟩
          refine W.slots _ hsl4 fun e => ?_
          by_cases hz64 : z < 64
          · repeat (first | (refine QuG.keep ?_; first | refine QuG.bb cok 1 rfl (by assumption) rfl rfl rfl rfl (by simp only [addS_eq, mulS_eq]; omega) (by omega) ?_) | refine SeqS.go cok ?_ | refine And.intro (by omega) ?_ | refine And.intro (by dsimp only; omega) ?_ | (refine NatS.keep ?_; first | with_reducible refine NatS.nat ?_) | (refine ValS.keep ?_; first | (with_reducible refine ValS.kI64 ?_; first | (with_reducible refine ValS.addI64_L ?_ ?_ ; omega) | with_reducible refine ValS.remN_L ?_)) | (refine still_in ?_; first | refine still_drop (by decide) ?_) | (refine OpG.keep ?_; first | refine OpG.s1 cok 0 rfl rfl rfl rfl rfl (by first | exact Nat.le_of_ble_eq_true rfl | omega | (dsimp only; omega) | (simp only [addS_eq, mulS_eq]; omega)) rfl rfl ?_) | refine W.drawI 23 cok [0, 0, 0, 2, 14, 30, 0, 0, 128, 384, 64, 1984, 4032, 8190, 16383, 32767] [0, 1, 2, 3, 4, 5, 6, 7, 8, 9, 10, 11, 12, 13, 14, 15] [5, 12] (by kernel_rfl) (by kernel_rfl) ?_ | (refine QuG.keep ?_; first | refine QuG.neB cok rfl rfl rfl rfl ?_) | (refine CondS.keep ?_; first | refine CondS.d1 rfl (by omega) ?_))
            refine ⟨z + 1, ⟨_, rfl, hz64, hD.upd ?_, rfl, rfl, rfl, rfl, rfl, rfl, rfl, rfl, trivial⟩, by show 64 - (z + 1) < 64 - z; omega⟩
            intro i hi
            simp only [addS_eq, mulS_eq]
            by_cases hix : i = 0 + z * 1
            · rw [if_pos hix, if_pos (by omega)]
              have hz : i = z := by omega
              subst hz
              unfold thD
              congr 2 <;> omega
            · rw [if_neg hix]
              by_cases hp : i < z
              · rw [if_pos hp, if_pos (by omega)]
              · rw [if_neg hp, if_neg (by omega)]
          · repeat (first | refine SeqS.go cok ?_ | (refine CondS.keep ?_; first | refine CondS.d0 rfl (by omega) ?_))
            exact ⟨cd, rfl, hD.ext (fun i hi => by rw [if_pos (by omega)]), rfl, rfl, rfl, rfl, rfl, trivial⟩
      · repeat (first | refine SeqS.go cok ?_ | (refine CondS.keep ?_; first | refine CondS.d0 rfl (by omega) ?_))
        exact ⟨c3, rfl, hC3.ext (fun i hi => by rw [if_pos (by omega)])⟩
  · rintro x e' S2 - ⟨cc, rfl, hx, hC, hsl⟩
    refine W.slots _ hsl fun e => ?_
    by_cases hx5 : x < 5
    · repeat (first | refine SeqS.go cok ?_ | (refine CondS.keep ?_; first | refine CondS.d1 rfl (by omega) ?_))
      refine W.loopE cok (by kernel_rfl) 2 (fun (y : Nat) e' S' => ∃ cc, S' = ⟨I, ⟨b2, 320, 446, cc⟩ :: ⟨ab, sz, T, c⟩ :: G⟩ ∧ y ≤ 5 ∧ BB cc 320 (fun i => par A (i / 64) (i % 64) (if i / 64 < x then 5 else if i / 64 = x then y else 0)) ∧ slots [(0, ptr ab 0), (2, ptr b2 0), (3, .int .i64 (x : Nat)), (16, .int .i64 (x : Nat)), (19, .int .i64 (y : Nat))] e') (fun y => 5 - y) 0
        ⟨cc, rfl, by decide, hC.ext (fun i hi => by congr 1; split <;> (try split) <;> rfl), rfl, rfl, rfl, rfl, rfl, trivial⟩
        (fun e' S' => ∃ cc, S' = ⟨I, ⟨b2, 320, 446, cc⟩ :: ⟨ab, sz, T, c⟩ :: G⟩ ∧ BB cc 320 (fun i => par A (i / 64) (i % 64) (if i / 64 < x + 1 then 5 else 0)) ∧ slots [(0, ptr ab 0), (2, ptr b2 0), (16, .int .i64 (x : Nat))] e') ?_ ?_
      · rintro e3 S3 - ⟨cc3, rfl, hC3, hsl3⟩
        refine SeqS.slots cok _ hsl3 fun e => ?_
        repeat (first | (refine ValS.keep ?_; first | (with_reducible refine ValS.kI64 ?_; first | (with_reducible refine ValS.addI64_L ?_ ?_ ; omega))))
        exact ⟨x + 1, ⟨cc3, rfl, hx5, hC3, rfl, rfl, rfl, trivial⟩, by show 5 - (x + 1) < 5 - x; omega⟩
      · rintro y e3 S3 - ⟨cc3, rfl, hy, hC3, hsl3⟩
        refine W.slots _ hsl3 fun e => ?_
        by_cases hy5 : y < 5
        · repeat (first | refine SeqS.go cok ?_ | refine And.intro (by omega) ?_ | (refine NatS.keep ?_; first | with_reducible refine NatS.nat ?_) | (refine CondS.keep ?_; first | refine CondS.d1 rfl (by omega) ?_))
          refine W.loopE cok (by kernel_rfl) 4 (fun (z : Nat) e' S' => ∃ cc, S' = ⟨I, ⟨b2, 320, 446, cc⟩ :: ⟨ab, sz, T, c⟩ :: G⟩ ∧ z ≤ 64 ∧ BB cc 320 (fun i => par A (i / 64) (i % 64) (if i / 64 < x then 5 else if i / 64 = x then (if i % 64 < z then y + 1 else y) else 0)) ∧ slots [(0, ptr ab 0), (2, ptr b2 0), (3, .int .i64 (x : Nat)), (16, .int .i64 (x : Nat)), (19, .int .i64 (y : Nat)), (27, ptr ab (addS (addS 0 (mulS x 320)) (mulS y 64))), (28, .int .i64 (z : Nat))] e') (fun z => 64 - z) 0
            ⟨cc3, rfl, by decide, hC3, rfl, rfl, rfl, rfl, rfl, rfl, rfl, trivial⟩
            (fun e' S' => ∃ cc, S' = ⟨I, ⟨b2, 320, 446, cc⟩ :: ⟨ab, sz, T, c⟩ :: G⟩ ∧ BB cc 320 (fun i => par A (i / 64) (i % 64) (if i / 64 < x then 5 else if i / 64 = x then y + 1 else 0)) ∧ slots [(0, ptr ab 0), (2, ptr b2 0), (3, .int .i64 (x : Nat)), (16, .int .i64 (x : Nat)), (19, .int .i64 (y : Nat))] e') ?_ ?_
          · rintro e4 S4 - ⟨cc4, rfl, hC4, hsl4⟩
            refine SeqS.slots cok _ hsl4 fun e => ?_
            repeat (first | (refine ValS.keep ?_; first | (with_reducible refine ValS.kI64 ?_; first | (with_reducible refine ValS.addI64_L ?_ ?_ ; omega))))
            exact ⟨y + 1, ⟨cc4, rfl, hy5, hC4, rfl, rfl, rfl, rfl, rfl, trivial⟩, by show 5 - (y + 1) < 5 - y; omega⟩
          · rintro z e4 S4 - ⟨cc4, rfl, hz, hC4, hsl4⟩
            refine W.slots _ hsl4 fun e => ?_
            by_cases hz64 : z < 64
            · repeat (first | (refine QuG.keep ?_; first | refine QuG.bb cok 0 rfl (by assumption) rfl rfl rfl rfl (by simp only [addS_eq, mulS_eq]; omega) (by omega) ?_ | refine QuG.bb cok 1 rfl (by assumption) rfl rfl rfl rfl (by simp only [addS_eq, mulS_eq]; omega) (by omega) ?_) | refine SeqS.go cok ?_ | refine And.intro (by omega) ?_ | (refine NatS.keep ?_; first | with_reducible refine NatS.nat ?_) | (refine ValS.keep ?_; first | (with_reducible refine ValS.kI64 ?_; first | (with_reducible refine ValS.addI64_L ?_ ?_ ; omega))) | (refine still_in ?_; first | refine still_drop (by decide) ?_) | (refine OpG.keep ?_; first | refine OpG.s1 cok 0 rfl rfl rfl rfl rfl (by first | exact Nat.le_of_ble_eq_true rfl | omega | (dsimp only; omega) | (simp only [addS_eq, mulS_eq]; omega)) rfl rfl ?_) | refine W.drawI 9 cok [0, 0, 2, 6, 1, 31] [0, 1, 2, 3, 4, 5] [3] (by kernel_rfl) (by kernel_rfl) ?_ | refine W.drawI 10 cok [0, 0, 0, 0, 4, 28, 60, 0, 252, 1, 1023, 2047] [0, 1, 2, 3, 4, 5, 6, 7, 8, 9, 10, 11] [6] (by kernel_rfl) (by kernel_rfl) ?_ | (refine QuG.keep ?_; first | refine QuG.neB cok rfl rfl rfl rfl ?_) | (refine CondS.keep ?_; first | refine CondS.d1 rfl (by omega) ?_))
              refine ⟨z + 1, ⟨_, rfl, hz64, hC4.upd ?_, rfl, rfl, rfl, rfl, rfl, rfl, rfl, trivial⟩, by show 64 - (z + 1) < 64 - z; omega⟩
              intro i hi
              simp only [addS_eq, mulS_eq]
              by_cases hix : i = 0 + x * 64 + z * 1
              · rw [if_pos hix]
                have h1 : i / 64 = x := by omega
                have h2 : i % 64 = z := by omega
                have h3 : (0 + x * 64 + z * 1) / 64 = x := by omega
                have h4 : (0 + x * 64 + z * 1) % 64 = z := by omega
                rw [h1, h2, h3, h4, if_neg (Nat.lt_irrefl x), if_pos rfl, if_pos (Nat.lt_succ_self z), if_neg (Nat.lt_irrefl x), if_pos rfl, if_neg (Nat.lt_irrefl z), par]
                congr 2; omega
              · rw [if_neg hix]
                congr 1
                split
                · rfl
                · split
                  · have : i % 64 ≠ z := by omega
                    split <;> split <;> omega
                  · rfl
            · repeat (first | refine SeqS.go cok ?_ | (refine CondS.keep ?_; first | refine CondS.d0 rfl (by omega) ?_))
              exact ⟨cc4, rfl, hC4.ext (fun i hi => by rw [if_pos (show i % 64 < z by omega)]), rfl, rfl, rfl, rfl, rfl, trivial⟩
        · repeat (first | refine SeqS.go cok ?_ | (refine CondS.keep ?_; first | refine CondS.d0 rfl (by omega) ?_))
          exact ⟨cc3, rfl, hC3.ext (fun i hi => by congr 1; split <;> split <;> (try split) <;> omega), rfl, rfl, rfl, trivial⟩
    · repeat (first | refine SeqS.go cok ?_ | (refine CondS.keep ?_; first | refine CondS.d0 rfl (by omega) ?_))
      exact ⟨cc, rfl, hC.ext (fun i hi => by rw [if_pos (by omega)]), rfl, rfl, trivial⟩
end Go.Proofs.YgvafwGreat
