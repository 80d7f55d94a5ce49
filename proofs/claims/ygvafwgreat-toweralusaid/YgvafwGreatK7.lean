import Derived.Test.YgvafwGreatK4
set_option maxRecDepth 100000
set_option maxHeartbeats 8000000
set_option linter.unusedVariables false
set_option linter.unusedSimpArgs false
-- v2
-- still: exact QuV.of (QuG.bb cok 0 rfl (by assumption) rfl rfl rfl rfl (by simp only [addS_eq, mulS_eq]; omega) (by omega) rfl)
-- still: exact QuV.of (QuG.bb cok 1 rfl (by assumption) rfl rfl rfl rfl (by simp only [addS_eq, mulS_eq]; omega) (by omega) rfl)
-- plus: (refine QuG.keep ?_; fail "none")
-- plus: (refine OpG.keep ?_; fail "none")
namespace Go.Proofs.YgvafwGreat
open Go.HL Go.Proofs

def piN (A : Nat → Bool) (i : Nat) : Bool := A ((i / 320 + 3 * (i % 320 / 64)) % 5 * 320 + i / 320 * 64 + i % 64)
/-- kmodel.pi -/
theorem kPi {I : Ent → Prop} {G : List Ent} {ab sz : Nat} {T : TypeId} {c : Nat → Value} {A : Nat → Bool} (hsz : 1600 ≤ sz) (hA : BB c 1600 A) :
    CallG Hvaf.prog 400 #[ptr ab 0] ⟨I, ⟨ab, sz, T, c⟩ :: G⟩ fun r S' => S' = ⟨I, ⟨ab, sz, T, c⟩ :: G⟩ ∧ r = aggB 1600 (piN A) := by
  refine CallG.start (C := mkC Hvaf.prog) cok (args := [ptr ab 0]) Hvaf.func400 rfl Hvaf.ntmps400 (by simp) (by kernel_rfl) ?_
  intro b2
  repeat (first | refine SeqS.go cok ?_)
  refine W.loopE cok (by kernel_rfl) 0 (fun (x : Nat) e' S' => ∃ cc, S' = ⟨I, ⟨b2, 1600, 448, cc⟩ :: ⟨ab, sz, T, c⟩ :: G⟩ ∧ x ≤ 5 ∧ BB cc 1600 (fun i => if i / 320 < x then piN A i else false) ∧ slots [(0, ptr ab 0), (2, ptr b2 0), (5, .int .i64 (x : Nat))] e') (fun x => 5 - x) 0
    ⟨_, rfl, by decide, ⟨fun i hi => by rw [if_neg (Nat.not_lt_zero _)]; rfl⟩, rfl, rfl, rfl, trivial⟩
    (fun e' S' => ∃ cc, S' = ⟨I, ⟨b2, 1600, 448, cc⟩ :: ⟨ab, sz, T, c⟩ :: G⟩ ∧ BB cc 1600 (piN A) ∧ slots [(2, ptr b2 0)] e') ?_ ?_
  · rintro e' S2 - ⟨cc, rfl, hC, hsl⟩
    refine SeqS.slots cok _ hsl fun e => ?_
    repeat (first | (refine OpG.keep ?_; first | refine OpG.sL cok 0 rfl rfl rfl rfl rfl (cellsFrom_length _ _ _) (BB.all (n := 1600) (by assumption) (by simp only [addS_eq, mulS_eq]; omega)) (by simp only [addS_eq, mulS_eq]; omega) ?_) | refine SeqS.go cok ?_ | (refine QuG.keep ?_; first | refine QuG.lN cok 0 rfl rfl rfl rfl rfl (by first | exact Nat.le_of_ble_eq_true rfl | omega | (dsimp only; omega) | (simp only [addS_eq, mulS_eq]; omega)) ?_) | (refine LdG.keep ?_; first | refine LdG.lN cok 0 rfl rfl rfl rfl rfl (by first | exact Nat.le_of_ble_eq_true rfl | omega | (dsimp only; omega) | (simp only [addS_eq, mulS_eq]; omega)) ?_))
    exact Fin.drop (⟨ab, sz, T, c⟩ :: G) [_] ⟨rfl, hC.self.agg⟩
  · rintro x e' S2 - ⟨cc, rfl, hx, hC, hsl⟩
    refine W.slots _ hsl fun e => ?_
    by_cases hx5 : x < 5
    · repeat (first | refine SeqS.go cok ?_ | (refine CondS.keep ?_; first | refine CondS.d1 rfl (by omega) ?_))
      refine W.loopE cok (by kernel_rfl) 2 (fun (y : Nat) e' S' => ∃ cc, S' = ⟨I, ⟨b2, 1600, 448, cc⟩ :: ⟨ab, sz, T, c⟩ :: G⟩ ∧ y ≤ 5 ∧ BB cc 1600 (fun i => if i / 320 < x ∨ i / 320 = x ∧ i % 320 / 64 < y then piN A i else false) ∧ slots [(0, ptr ab 0), (2, ptr b2 0), (3, .int .i64 (x : Nat)), (5, .int .i64 (x : Nat)), (8, .int .i64 (y : Nat))] e') (fun y => 5 - y) 0
        ⟨cc, rfl, by decide, hC.ext (fun i hi => by simp), rfl, rfl, rfl, rfl, rfl, trivial⟩
        (fun e' S' => ∃ cc, S' = ⟨I, ⟨b2, 1600, 448, cc⟩ :: ⟨ab, sz, T, c⟩ :: G⟩ ∧ BB cc 1600 (fun i => if i / 320 < x + 1 then piN A i else false) ∧ slots [(0, ptr ab 0), (2, ptr b2 0), (5, .int .i64 (x : Nat))] e') ?_ ?_
      · rintro e3 S3 - ⟨cc3, rfl, hC3, hsl3⟩
        refine SeqS.slots cok _ hsl3 fun e => ?_
        repeat (first | (refine ValS.keep ?_; first | (with_reducible refine ValS.kI64 ?_; first | (with_reducible refine ValS.addI64_L ?_ ?_ ; omega))))
        exact ⟨x + 1, ⟨cc3, rfl, hx5, hC3, rfl, rfl, rfl, trivial⟩, by show 5 - (x + 1) < 5 - x; omega⟩
      · rintro y e3 S3 - ⟨cc3, rfl, hy, hC3, hsl3⟩
        refine W.slots _ hsl3 fun e => ?_
        by_cases hy5 : y < 5
        · repeat (first | (refine OpG.keep ?_; first | refine OpG.sL cok 0 rfl rfl rfl rfl rfl (cellsFrom_length _ _ _) (BB.all (n := 1600) (by assumption) (by simp only [addS_eq, mulS_eq]; omega)) (by simp only [addS_eq, mulS_eq]; omega) ?_) | refine SeqS.go cok ?_ | refine And.intro (by omega) ?_ | refine And.intro (by dsimp only; omega) ?_ | (refine NatS.keep ?_; first | with_reducible refine NatS.nat ?_) | (refine ValS.keep ?_; first | (with_reducible refine ValS.kI64 ?_; first | (with_reducible refine ValS.addI64_L ?_ ?_ ; omega) | (with_reducible refine ValS.addI64 ?_ ?_ ; omega) | (with_reducible refine ValS.mulI64_M ?_ ?_ ; omega) | with_reducible refine ValS.remN_L ?_)) | (refine QuG.keep ?_; first | refine QuG.lN cok 1 rfl rfl rfl rfl rfl (by first | exact Nat.le_of_ble_eq_true rfl | omega | (dsimp only; omega) | (simp only [addS_eq, mulS_eq]; omega)) ?_) | (refine still_in ?_; first | refine still_drop (by decide) ?_) | refine W.drawI 7 cok [0, 0, 0, 0, 0, 16, 56, 120, 0, 4, 764, 2044, 4092, 1, 16383, 32767] [0, 1, 2, 3, 4, 5, 6, 7, 8, 9, 10, 11, 12, 13, 14, 15] [12] (by kernel_rfl) (by kernel_rfl) ?_ | (refine CondS.keep ?_; first | refine CondS.d1 rfl (by omega) ?_))
          refine ⟨y + 1, ⟨_, rfl, hy5, BB.updN (k := 64) hC3 hA (by simp only [addS_eq, mulS_eq]; omega) ?_, rfl, rfl, rfl, rfl, rfl, trivial⟩, by show 5 - (y + 1) < 5 - y; omega⟩
          intro i hi
          simp only [addS_eq, mulS_eq]
          by_cases hp : 0 + x * 320 + y * 64 ≤ i ∧ i < 0 + x * 320 + y * 64 + 64
          · rw [if_pos hp, if_pos (by omega)]
            have h1 : i / 320 = x := by omega
            have h2 : i % 320 / 64 = y := by omega
            unfold piN
            rw [h1, h2]
            congr 1
            omega
          · rw [if_neg hp]
            by_cases hq : i / 320 < x ∨ i / 320 = x ∧ i % 320 / 64 < y
            · rw [if_pos hq, if_pos (by omega)]
            · rw [if_neg hq, if_neg (by omega)]
        · repeat (first | refine SeqS.go cok ?_ | (refine CondS.keep ?_; first | refine CondS.d0 rfl (by omega) ?_))
          exact ⟨cc3, rfl, hC3.ext (fun i hi => by
            by_cases hp : i / 320 < x + 1
            · rw [if_pos hp, if_pos (by omega)]
            · rw [if_neg hp, if_neg (by omega)]), rfl, rfl, rfl, trivial⟩
    · repeat (first | refine SeqS.go cok ?_ | (refine CondS.keep ?_; first | refine CondS.d0 rfl (by omega) ?_))
      exact ⟨cc, rfl, hC.ext (fun i hi => by rw [if_pos (by omega)]), rfl, trivial⟩
def chN (A : Nat → Bool) (i : Nat) : Bool := A i != decide (bitN (A ((i / 320 + 2) % 5 * 320 + i % 320)) > bitN (A ((i / 320 + 1) % 5 * 320 + i % 320)))
/-- kmodel.chi -/
theorem kChi {I : Ent → Prop} {G : List Ent} {ab sz : Nat} {T : TypeId} {c : Nat → Value} {A : Nat → Bool} (hsz : 1600 ≤ sz) (hA : BB c 1600 A) :
    CallG Hvaf.prog 401 #[ptr ab 0] ⟨I, ⟨ab, sz, T, c⟩ :: G⟩ fun r S' => S' = ⟨I, ⟨ab, sz, T, c⟩ :: G⟩ ∧ r = aggB 1600 (chN A) := by
  have hbit : ∀ b, bitN b ≤ 1 := by decide
  refine CallG.start (C := mkC Hvaf.prog) cok (args := [ptr ab 0]) Hvaf.func401 rfl Hvaf.ntmps401 (by simp) (by kernel_rfl) ?_
  intro b2
  repeat (first | refine SeqS.go cok ?_)
  refine W.loopE cok (by kernel_rfl) 0 (fun (x : Nat) e' S' => ∃ cc, S' = ⟨I, ⟨b2, 1600, 448, cc⟩ :: ⟨ab, sz, T, c⟩ :: G⟩ ∧ x ≤ 5 ∧ BB cc 1600 (fun i => if i / 320 < x then chN A i else false) ∧ slots [(0, ptr ab 0), (2, ptr b2 0), (10, .int .i64 (x : Nat))] e') (fun x => 5 - x) 0
    ⟨_, rfl, by decide, ⟨fun i hi => by rw [if_neg (Nat.not_lt_zero _)]; rfl⟩, rfl, rfl, rfl, trivial⟩
    (fun e' S' => ∃ cc, S' = ⟨I, ⟨b2, 1600, 448, cc⟩ :: ⟨ab, sz, T, c⟩ :: G⟩ ∧ BB cc 1600 (chN A) ∧ slots [(2, ptr b2 0)] e') ?_ ?_
  · rintro e' S2 - ⟨cc, rfl, hC, hsl⟩
    refine SeqS.slots cok _ hsl fun e => ?_
    repeat (first | (refine OpG.keep ?_; first | refine OpG.sL cok 0 rfl rfl rfl rfl rfl (cellsFrom_length _ _ _) (BB.all (n := 1600) (by assumption) (by simp only [addS_eq, mulS_eq]; omega)) (by simp only [addS_eq, mulS_eq]; omega) ?_) | refine SeqS.go cok ?_ | (refine QuG.keep ?_; first | refine QuG.lN cok 0 rfl rfl rfl rfl rfl (by first | exact Nat.le_of_ble_eq_true rfl | omega | (dsimp only; omega) | (simp only [addS_eq, mulS_eq]; omega)) ?_) | (refine LdG.keep ?_; first | refine LdG.lN cok 0 rfl rfl rfl rfl rfl (by first | exact Nat.le_of_ble_eq_true rfl | omega | (dsimp only; omega) | (simp only [addS_eq, mulS_eq]; omega)) ?_))
    exact Fin.drop (⟨ab, sz, T, c⟩ :: G) [_] ⟨rfl, hC.self.agg⟩
  · rintro x e' S2 - ⟨cc, rfl, hx, hC, hsl⟩
    refine W.slots _ hsl fun e => ?_
    by_cases hx5 : x < 5
    · repeat (first | refine SeqS.go cok ?_ | (refine CondS.keep ?_; first | refine CondS.d1 rfl (by omega) ?_))
      refine W.loopE cok (by kernel_rfl) 2 (fun (y : Nat) e' S' => ∃ cc, S' = ⟨I, ⟨b2, 1600, 448, cc⟩ :: ⟨ab, sz, T, c⟩ :: G⟩ ∧ y ≤ 5 ∧ BB cc 1600 (fun i => if i / 320 < x ∨ i / 320 = x ∧ i % 320 / 64 < y then chN A i else false) ∧ slots [(0, ptr ab 0), (2, ptr b2 0), (3, .int .i64 (x : Nat)), (10, .int .i64 (x : Nat)), (13, .int .i64 (y : Nat))] e') (fun y => 5 - y) 0
        ⟨cc, rfl, by decide, hC.ext (fun i hi => by simp), rfl, rfl, rfl, rfl, rfl, trivial⟩
        (fun e' S' => ∃ cc, S' = ⟨I, ⟨b2, 1600, 448, cc⟩ :: ⟨ab, sz, T, c⟩ :: G⟩ ∧ BB cc 1600 (fun i => if i / 320 < x + 1 then chN A i else false) ∧ slots [(0, ptr ab 0), (2, ptr b2 0), (10, .int .i64 (x : Nat))] e') ?_ ?_
      · rintro e3 S3 - ⟨cc3, rfl, hC3, hsl3⟩
        refine SeqS.slots cok _ hsl3 fun e => ?_
        repeat (first | (refine ValS.keep ?_; first | (with_reducible refine ValS.kI64 ?_; first | (with_reducible refine ValS.addI64_L ?_ ?_ ; omega))))
        exact ⟨x + 1, ⟨cc3, rfl, hx5, hC3, rfl, rfl, rfl, trivial⟩, by show 5 - (x + 1) < 5 - x; omega⟩
      · rintro y e3 S3 - ⟨cc3, rfl, hy, hC3, hsl3⟩
        refine W.slots _ hsl3 fun e => ?_
        by_cases hy5 : y < 5
        · repeat (first | refine SeqS.go cok ?_ | refine And.intro (by omega) ?_ | refine And.intro (by dsimp only; omega) ?_ | (refine NatS.keep ?_; first | with_reducible refine NatS.nat ?_) | (refine ValS.keep ?_; first | (with_reducible refine ValS.kI64 ?_; first | (with_reducible refine ValS.addI64_L ?_ ?_ ; omega) | with_reducible refine ValS.remN_L ?_)) | (refine CondS.keep ?_; first | refine CondS.d1 rfl (by omega) ?_))
          refine W.loopE cok (by kernel_rfl) 4 (fun (z : Nat) e' S' => ∃ cc, S' = ⟨I, ⟨b2, 1600, 448, cc⟩ :: ⟨ab, sz, T, c⟩ :: G⟩ ∧ z ≤ 64 ∧ BB cc 1600 (fun i => if i / 320 < x ∨ i / 320 = x ∧ (i % 320 / 64 < y ∨ i % 320 / 64 = y ∧ i % 64 < z) then chN A i else false) ∧ slots [(0, ptr ab 0), (2, ptr b2 0), (3, .int .i64 (x : Nat)), (5, ptr b2 (addS (addS 0 (mulS x 320)) (mulS y 64))), (6, ptr ab (addS (addS 0 (mulS x 320)) (mulS y 64))), (7, ptr ab (addS (addS 0 (mulS ((x + 1) % 5) 320)) (mulS y 64))), (8, ptr ab (addS (addS 0 (mulS ((x + 2) % 5) 320)) (mulS y 64))), (10, .int .i64 (x : Nat)), (13, .int .i64 (y : Nat)), (42, .int .i64 (z : Nat))] e') (fun z => 64 - z) 0
            ⟨cc3, rfl, by decide, hC3.ext (fun i hi => by simp), rfl, rfl, rfl, rfl, rfl, rfl, rfl, rfl, rfl, rfl, trivial⟩
            (fun e' S' => ∃ cc, S' = ⟨I, ⟨b2, 1600, 448, cc⟩ :: ⟨ab, sz, T, c⟩ :: G⟩ ∧ BB cc 1600 (fun i => if i / 320 < x ∨ i / 320 = x ∧ i % 320 / 64 < y + 1 then chN A i else false) ∧ slots [(0, ptr ab 0), (2, ptr b2 0), (3, .int .i64 (x : Nat)), (10, .int .i64 (x : Nat)), (13, .int .i64 (y : Nat))] e') ?_ ?_
          · rintro e4 S4 - ⟨cc4, rfl, hC4, hsl4⟩
            refine SeqS.slots cok _ hsl4 fun e => ?_
            repeat (first | (refine ValS.keep ?_; first | (with_reducible refine ValS.kI64 ?_; first | (with_reducible refine ValS.addI64_L ?_ ?_ ; omega))))
            exact ⟨y + 1, ⟨cc4, rfl, hy5, hC4, rfl, rfl, rfl, rfl, rfl, trivial⟩, by show 5 - (y + 1) < 5 - y; omega⟩
          · rintro z e4 S4 - ⟨cc4, rfl, hz, hC4, hsl4⟩
            refine W.slots _ hsl4 fun e => ?_
            by_cases hz64 : z < 64
            · repeat (first | (refine QuG.keep ?_; first | refine QuG.bb cok 1 rfl (by assumption) rfl rfl rfl rfl (by simp only [addS_eq, mulS_eq]; omega) (by omega) ?_) | refine SeqS.go cok ?_ | refine And.intro (by omega) ?_ | (refine NatS.keep ?_; first | with_reducible refine NatS.nat ?_) | refine W.drawI 14 cok [0, 0, 0, 0, 4, 28, 60, 0, 0, 128, 896, 1920, 3968, 0, 0, 8192, 57344, 122880, 262016, 524160, 1048572, 1, 4194303, 8388607] [0, 1, 2, 3, 4, 5, 6, 7, 8, 9, 10, 11, 13, 14, 15, 16, 17, 21, 12, 18, 19, 20, 22, 23] [6, 11, 17] (by kernel_rfl) (by kernel_rfl) ?_ | (refine CondS.keep ?_; first | refine CondS.d1 rfl (by omega) ?_))
              refine (kBit).mono ?_
              rintro r _ - ⟨rfl, rfl⟩
              repeat (first | (refine still_in ?_; first | refine still_nil ?_ | refine still_drop (by decide) ?_ | (refine still_keep (by decide) rfl ?_ ?_; first | exact QuV.of (QuG.bb cok 1 rfl (by assumption) rfl rfl rfl rfl (by simp only [addS_eq, mulS_eq]; omega) (by omega) rfl))))
              refine (kBit).mono ?_
              rintro r _ - ⟨rfl, rfl⟩
              repeat (first | refine SeqS.go cok ?_ | refine And.intro (by omega) ?_ | (refine NatS.keep ?_; first | with_reducible refine NatS.nat ?_) | (refine ValS.keep ?_; first | (with_reducible refine ValS.kI64 ?_; first | (with_reducible refine ValS.addI64_L ?_ ?_ ; omega))) | (refine still_in ?_; first | refine still_nil ?_ | refine still_drop (by decide) ?_ | (refine still_keep (by decide) rfl ?_ ?_; first | exact QuV.of (QuG.bb cok 1 rfl (by assumption) rfl rfl rfl rfl (by simp only [addS_eq, mulS_eq]; omega) (by omega) rfl))) | (refine OpG.keep ?_; first | refine OpG.s1 cok 0 rfl rfl rfl rfl rfl (by first | exact Nat.le_of_ble_eq_true rfl | omega | (dsimp only; omega) | (simp only [addS_eq, mulS_eq]; omega)) rfl rfl ?_) | (refine QuG.keep ?_; first | refine QuG.neB cok rfl rfl rfl rfl ?_))
              refine ⟨z + 1, ⟨_, rfl, hz64, hC4.upd ?_, rfl, rfl, rfl, rfl, rfl, rfl, rfl, rfl, rfl, rfl, trivial⟩, by show 64 - (z + 1) < 64 - z; omega⟩
              intro i hi
              simp only [addS_eq, mulS_eq]
              by_cases hix : i = 0 + x * 320 + y * 64 + z * 1
              · rw [if_pos hix, if_pos (by omega)]
                have h1 : i / 320 = x := by omega
                unfold chN
                rw [h1]
                have e1 : (x + 2) % 5 * 320 + i % 320 = 0 + (x + 2) % 5 * 320 + y * 64 + z * 1 := by omega
                have e2 : (x + 1) % 5 * 320 + i % 320 = 0 + (x + 1) % 5 * 320 + y * 64 + z * 1 := by omega
                rw [e1, e2, ← hix]
                congr 1
                exact decide_eq_decide.2 (by omega)
              · rw [if_neg hix]
                by_cases hp : i / 320 < x ∨ i / 320 = x ∧ (i % 320 / 64 < y ∨ i % 320 / 64 = y ∧ i % 64 < z)
                · rw [if_pos hp, if_pos (by omega)]
                · rw [if_neg hp, if_neg (by omega)]
            · repeat (first | refine SeqS.go cok ?_ | (refine CondS.keep ?_; first | refine CondS.d0 rfl (by omega) ?_))
              exact ⟨cc4, rfl, hC4.ext (fun i hi => by
                by_cases hp : i / 320 < x ∨ i / 320 = x ∧ i % 320 / 64 < y + 1
                · rw [if_pos hp, if_pos (by omega)]
                · rw [if_neg hp, if_neg (by omega)]), rfl, rfl, rfl, rfl, rfl, trivial⟩
        · repeat (first | refine SeqS.go cok ?_ | (refine CondS.keep ?_; first | refine CondS.d0 rfl (by omega) ?_))
          exact ⟨cc3, rfl, hC3.ext (fun i hi => by
            by_cases hp : i / 320 < x + 1
            · rw [if_pos hp, if_pos (by omega)]
            · rw [if_neg hp, if_neg (by omega)]), rfl, rfl, rfl, trivial⟩
    · repeat (first | refine SeqS.go cok ?_ | (refine CondS.keep ?_; first | refine CondS.d0 rfl (by omega) ?_))
      exact ⟨cc, rfl, hC.ext (fun i hi => by rw [if_pos (by omega)]), rfl, trivial⟩
end Go.Proofs.YgvafwGreat
