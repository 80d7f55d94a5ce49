import Derived.Test.YgvafwGreatK4
set_option maxRecDepth 100000
set_option maxHeartbeats 8000000
set_option linter.unusedVariables false
set_option linter.unusedSimpArgs false
-- v2
-- plus: (refine ValS.keep ?_; fail "none")
-- still: exact QuV.of (QuG.bb cok 0 rfl (by assumption) rfl rfl rfl rfl (by simp only [addS_eq, mulS_eq]; omega) (by omega) rfl)
-- still: exact QuV.of (QuG.bb cok 1 rfl (by assumption) rfl rfl rfl rfl (by simp only [addS_eq, mulS_eq]; omega) (by omega) rfl)
-- plus: (refine QuG.keep ?_; fail "none")
-- plus: (refine OpG.keep ?_; fail "none")
namespace Go.Proofs.YgvafwGreat
open Go.HL Go.Proofs

theorem ValS.slE {q : Value → Prop} {b o h m z l : Nat} (hl : m = l) (hq : q (.slice (some ⟨b, o, none⟩) (h - l) (m - l))) : ValS (.slice (some ⟨b, if m = l then o else addS o (mulS l z), none⟩) (h - l) (m - l)) q := ⟨by rw [if_pos hl]; exact hq⟩
def rhN (A : Nat → Bool) (i : Nat) : Bool := A (i / 320 * 320 + i % 320 / 64 * 64 + (i % 64 + 64 - offN (i / 320) (i % 320 / 64)) % 64)
/-- kmodel.rho -/
theorem kRho {I : Ent → Prop} {G : List Ent} {ab sz : Nat} {T : TypeId} {c : Nat → Value} {A : Nat → Bool} (hsz : 1600 ≤ sz) (hA : BB c 1600 A) :
    CallG Hvaf.prog 399 #[ptr ab 0] ⟨I, ⟨ab, sz, T, c⟩ :: G⟩ fun r S' => S' = ⟨I, ⟨ab, sz, T, c⟩ :: G⟩ ∧ r = aggB 1600 (rhN A) := by
  refine CallG.start (C := mkC Hvaf.prog) cok (args := [ptr ab 0]) Hvaf.func399 rfl Hvaf.ntmps399 (by simp) (by kernel_rfl) ?_
  intro b2
  repeat (first | refine SeqS.go cok ?_)
  refine W.loopE cok (by kernel_rfl) 0 (fun (x : Nat) e' S' => ∃ cc, S' = ⟨I, ⟨b2, 1600, 448, cc⟩ :: ⟨ab, sz, T, c⟩ :: G⟩ ∧ x ≤ 5 ∧ BB cc 1600 (fun i => if i / 320 < x then rhN A i else false) ∧ slots [(0, ptr ab 0), (2, ptr b2 0), (6, .int .i64 (x : Nat))] e') (fun x => 5 - x) 0
    ⟨_, rfl, by decide, ⟨fun i hi => by rw [if_neg (Nat.not_lt_zero _)]; rfl⟩, rfl, rfl, rfl, trivial⟩
    (fun e' S' => ∃ cc, S' = ⟨I, ⟨b2, 1600, 448, cc⟩ :: ⟨ab, sz, T, c⟩ :: G⟩ ∧ BB cc 1600 (rhN A) ∧ slots [(2, ptr b2 0)] e') ?_ ?_
  · rintro e' S2 - ⟨cc, rfl, hC, hsl⟩
    refine SeqS.slots cok _ hsl fun e => ?_
    repeat (first | (refine OpG.keep ?_; first | refine OpG.sL cok 0 rfl rfl rfl rfl rfl (cellsFrom_length _ _ _) (BB.all (n := 1600) (by assumption) (by simp only [addS_eq, mulS_eq]; omega)) (by simp only [addS_eq, mulS_eq]; omega) ?_) | refine SeqS.go cok ?_ | (refine QuG.keep ?_; first | refine QuG.lN cok 0 rfl rfl rfl rfl rfl (by first | exact Nat.le_of_ble_eq_true rfl | omega | (dsimp only; omega) | (simp only [addS_eq, mulS_eq]; omega)) ?_) | (refine LdG.keep ?_; first | refine LdG.lN cok 0 rfl rfl rfl rfl rfl (by first | exact Nat.le_of_ble_eq_true rfl | omega | (dsimp only; omega) | (simp only [addS_eq, mulS_eq]; omega)) ?_))
    exact Fin.drop (⟨ab, sz, T, c⟩ :: G) [_] ⟨rfl, hC.self.agg⟩
  · rintro x e' S2 - ⟨cc, rfl, hx, hC, hsl⟩
    refine W.slots _ hsl fun e => ?_
    by_cases hx5 : x < 5
    · repeat (first | refine SeqS.go cok ?_ | (refine CondS.keep ?_; first | refine CondS.d1 rfl (by omega) ?_))
      refine W.loopE cok (by kernel_rfl) 2 (fun (y : Nat) e' S' => ∃ cc, S' = ⟨I, ⟨b2, 1600, 448, cc⟩ :: ⟨ab, sz, T, c⟩ :: G⟩ ∧ y ≤ 5 ∧ BB cc 1600 (fun i => if i / 320 < x ∨ i / 320 = x ∧ i % 320 / 64 < y then rhN A i else false) ∧ slots [(0, ptr ab 0), (2, ptr b2 0), (3, .int .i64 (x : Nat)), (6, .int .i64 (x : Nat)), (9, .int .i64 (y : Nat))] e') (fun y => 5 - y) 0
        ⟨cc, rfl, by decide, hC.ext (fun i hi => by simp), rfl, rfl, rfl, rfl, rfl, trivial⟩
        (fun e' S' => ∃ cc, S' = ⟨I, ⟨b2, 1600, 448, cc⟩ :: ⟨ab, sz, T, c⟩ :: G⟩ ∧ BB cc 1600 (fun i => if i / 320 < x + 1 then rhN A i else false) ∧ slots [(0, ptr ab 0), (2, ptr b2 0), (6, .int .i64 (x : Nat))] e') ?_ ?_
      · rintro e3 S3 - ⟨cc3, rfl, hC3, hsl3⟩
        refine SeqS.slots cok _ hsl3 fun e => ?_
        repeat (first | (refine ValS.keep ?_; first | (with_reducible refine ValS.kI64 ?_; first | (with_reducible refine ValS.addI64_L ?_ ?_ ; omega))))
        exact ⟨x + 1, ⟨cc3, rfl, hx5, hC3, rfl, rfl, rfl, trivial⟩, by show 5 - (x + 1) < 5 - x; omega⟩
      · rintro y e3 S3 - ⟨cc3, rfl, hy, hC3, hsl3⟩
        refine W.slots _ hsl3 fun e => ?_
        by_cases hy5 : y < 5
        · have hoff := fun (S : St) => kOffset (S := S) hx5 hy5
          have hk64 := offN_lt x hx5 y hy5
          have hrh : ∀ z, rhN A (x * 320 + y * 64 + z) = A (x * 320 + y * 64 + (z + 64 - offN x y) % 64) ∨ 64 ≤ z := by
            intro z
            by_cases hz : z < 64
            · left
              unfold rhN
              rw [show (x * 320 + y * 64 + z) / 320 = x by omega, show (x * 320 + y * 64 + z) % 320 / 64 = y by omega, show (x * 320 + y * 64 + z) % 64 = z by omega]
            · right; omega
          generalize offN x y = k at *
          have hk0 : k = 0 ∨ 0 < k := by omega
          rcases hk0 with hk0 | hk0
          all_goals (
            repeat (first | refine SeqS.go cok ?_ | (refine ValS.keep ?_; first | (with_reducible refine ValS.kU8 ?_; first | (with_reducible refine ValS.convU8 ?_ ?_ ; omega))) | (refine CondS.keep ?_; first | refine CondS.d1 rfl (by omega) ?_))
            refine (hoff _).mono ?_
            rintro r _ - ⟨rfl, rfl⟩
            repeat (first | (refine ValS.keep ?_; first | (with_reducible refine ValS.slN ?_ ?_; (dsimp only; omega))) | refine SeqS.go cok ?_ | refine And.intro (Eq.refl true) ?_ | refine And.intro (by omega) ?_ | refine And.intro (by dsimp only; omega) ?_ | (refine NatS.keep ?_; first | with_reducible refine NatS.nat ?_) | (refine ValS.keep ?_; first | (with_reducible refine ValS.kU8 ?_; first | (with_reducible refine ValS.subU8_M ?_ ?_ ?_ ; omega; omega) | with_reducible refine ValS.remN_L ?_)) | refine W.drawI 8 cok [0, 0, 1, 7, 0, 31, 0, 0, 0, 64, 704, 1984, 0, 4096, 16320, 32767] [0, 1, 2, 3, 4, 5, 6, 7, 8, 9, 10, 11, 12, 13, 14, 15] [] (by kernel_rfl) (by kernel_rfl) ?_)
            refine OpG.keep ?_
            refine OpG.copy cok 0 rfl (y := ⟨ab, sz, T, c⟩) (.inr (List.mem_cons_of_mem _ List.mem_cons_self)) rfl rfl rfl rfl rfl rfl rfl ?_ ?_ ?_ ?_
            · simp only [addS_eq, mulS_eq, Nat.min_def]; split <;> omega
            · show _ ≤ sz; simp only [addS_eq, mulS_eq, Nat.min_def]; split <;> omega
            · intro p hp; dsimp only; rw [hA.get _ (by simp only [addS_eq, mulS_eq, Nat.min_def] at hp ⊢; split at hp <;> omega)]; rfl
            repeat (first | (refine ValS.keep ?_; first | (with_reducible refine ValS.slN ?_ ?_; (dsimp only; omega)) | (with_reducible refine ValS.slE ?_ ?_; (dsimp only; omega))) | refine SeqS.go cok ?_ | refine And.intro (Eq.refl true) ?_ | refine And.intro (by omega) ?_ | refine And.intro (by dsimp only; omega) ?_ | (refine NatS.keep ?_; first | with_reducible refine NatS.nat ?_) | (refine ValS.keep ?_; first | (with_reducible refine ValS.kU8 ?_; first | (with_reducible refine ValS.subU8_M ?_ ?_ ?_ ; omega; omega))) | refine W.drawI 9 cok [0, 0, 1, 7, 0, 31, 0, 0, 0, 64, 704, 1984, 0, 4096, 16320, 32767] [0, 1, 2, 3, 4, 5, 6, 7, 8, 9, 10, 11, 12, 13, 14, 15] [] (by kernel_rfl) (by kernel_rfl) ?_)
            refine OpG.keep ?_
            refine OpG.copy cok 0 rfl (y := ⟨ab, sz, T, c⟩) (.inr (List.mem_cons_of_mem _ List.mem_cons_self)) rfl rfl rfl rfl rfl rfl rfl ?_ ?_ ?_ ?_
            · show _ ≤ 1600; simp only [addS_eq, mulS_eq, Nat.min_def]; split <;> omega
            · show _ ≤ sz; simp only [addS_eq, mulS_eq, Nat.min_def]; split <;> omega
            · intro p hp; dsimp only; rw [hA.get _ (by simp only [addS_eq, mulS_eq, Nat.min_def] at hp ⊢; split at hp <;> omega)]; rfl
            repeat (first | refine SeqS.go cok ?_ | (refine ValS.keep ?_; first | (with_reducible refine ValS.kI64 ?_; first | (with_reducible refine ValS.addI64_L ?_ ?_ ; omega))))
            refine ⟨y + 1, ⟨_, rfl, hy5, BB.updN (BB.updN (B := fun i => if x * 320 + y * 64 + k ≤ i ∧ i < x * 320 + y * 64 + 64 then A (i - k) else (if i / 320 < x ∨ i / 320 = x ∧ i % 320 / 64 < y then rhN A i else false)) hC3 hA ?_ ?_) hA ?_ ?_, rfl, rfl, rfl, rfl, rfl, trivial⟩, by show 5 - (y + 1) < 5 - y; omega⟩
            · simp only [addS_eq, mulS_eq, Nat.min_def]; split <;> omega
            · intro i hi
              have km : k % 64 = k := Nat.mod_eq_of_lt hk64
              have m1 : (64 - k - 0).min (64 - k) = 64 - k := Nat.min_self _
              simp only [addS_eq, mulS_eq, km, m1]
              by_cases hp : x * 320 + y * 64 + k ≤ i ∧ i < x * 320 + y * 64 + 64
              · rw [if_pos hp, if_pos (show 0 + x * 320 + y * 64 + k * 1 ≤ i ∧ i < 0 + x * 320 + y * 64 + k * 1 + (64 - k) * 1 by omega)]; congr 1; omega
              · rw [if_neg hp, if_neg (show ¬ (0 + x * 320 + y * 64 + k * 1 ≤ i ∧ i < 0 + x * 320 + y * 64 + k * 1 + (64 - k) * 1) by omega)]
            · simp only [addS_eq, mulS_eq, Nat.min_def]; split <;> omega
            · intro i hi
              have km : k % 64 = k := Nat.mod_eq_of_lt hk64
              have m2 : (64 - (64 - k)).min (k - 0) = k := by rw [show 64 - (64 - k) = k by omega]; exact Nat.min_self _
              simp only [addS_eq, mulS_eq, km, m2]
              by_cases hq : x * 320 + y * 64 ≤ i ∧ i < x * 320 + y * 64 + 64
              · rw [if_pos (show i / 320 < x ∨ i / 320 = x ∧ i % 320 / 64 < y + 1 by omega)]
                have hr := hrh (i - (x * 320 + y * 64))
                rw [show x * 320 + y * 64 + (i - (x * 320 + y * 64)) = i by omega] at hr
                rcases hr with hr | hr
                · rw [hr]
                  by_cases hp : i < x * 320 + y * 64 + k
                  · rw [if_pos (by omega)]; congr 1; omega
                  · rw [if_neg (by omega), if_pos (show x * 320 + y * 64 + k ≤ i ∧ i < x * 320 + y * 64 + 64 by omega)]; congr 1; omega
                · omega
              · have c1 : ¬ (x * 320 + y * 64 + k ≤ i ∧ i < x * 320 + y * 64 + 64) := by omega
                rw [if_neg c1]
                by_cases hp : i / 320 < x ∨ i / 320 = x ∧ i % 320 / 64 < y
                · rw [if_pos (show i / 320 < x ∨ i / 320 = x ∧ i % 320 / 64 < y + 1 by omega), if_pos hp]
                  refine (if_neg ?_).symm
                  omega
                · rw [if_neg (show ¬ (i / 320 < x ∨ i / 320 = x ∧ i % 320 / 64 < y + 1) by omega), if_neg hp]
                  refine (if_neg ?_).symm
                  omega)
        · repeat (first | refine SeqS.go cok ?_ | (refine CondS.keep ?_; first | refine CondS.d0 rfl (by omega) ?_))
          exact ⟨cc3, rfl, hC3.ext (fun i hi => by
            by_cases hp : i / 320 < x + 1
            · rw [if_pos hp, if_pos (by omega)]
            · rw [if_neg hp, if_neg (by omega)]), rfl, rfl, rfl, trivial⟩
    · repeat (first | refine SeqS.go cok ?_ | (refine CondS.keep ?_; first | refine CondS.d0 rfl (by omega) ?_))
      exact ⟨cc, rfl, hC.ext (fun i hi => by rw [if_pos (by omega)]), rfl, trivial⟩
end Go.Proofs.YgvafwGreat
