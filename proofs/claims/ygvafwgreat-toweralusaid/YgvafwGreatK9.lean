import Derived.Test.YgvafwGreatK8
set_option maxRecDepth 100000
set_option maxHeartbeats 8000000
set_option linter.unusedVariables false
set_option linter.unusedSimpArgs false
-- v2
-- plus: (refine QuG.keep ?_; refine QuG.l1E cok 0 rfl rfl rfl rfl rfl (by first | omega | (simp only [addS_eq, mulS_eq]; omega)) (by first | exact (BB.get (by assumption) _ (by first | decide | (simp only [addS_eq, mulS_eq]; omega))) | exact ((upd_ne2 (by simp only [addS_eq, mulS_eq]; decide)).trans (BB.get (by assumption) _ (by first | decide | (simp only [addS_eq, mulS_eq]; omega)))) | exact ((upd_ne2 (by simp only [addS_eq, mulS_eq]; decide)).trans ((upd_ne2 (by simp only [addS_eq, mulS_eq]; decide)).trans (BB.get (by assumption) _ (by first | decide | (simp only [addS_eq, mulS_eq]; omega))))) | exact ((upd_ne2 (by simp only [addS_eq, mulS_eq]; decide)).trans ((upd_ne2 (by simp only [addS_eq, mulS_eq]; decide)).trans ((upd_ne2 (by simp only [addS_eq, mulS_eq]; decide)).trans (BB.get (by assumption) _ (by first | decide | (simp only [addS_eq, mulS_eq]; omega)))))) | exact ((upd_ne2 (by simp only [addS_eq, mulS_eq]; decide)).trans ((upd_ne2 (by simp only [addS_eq, mulS_eq]; decide)).trans ((upd_ne2 (by simp only [addS_eq, mulS_eq]; decide)).trans ((upd_ne2 (by simp only [addS_eq, mulS_eq]; decide)).trans (BB.get (by assumption) _ (by first | decide | (simp only [addS_eq, mulS_eq]; omega)))))))) ?_)
namespace Go.Proofs.YgvafwGreat
open Go.HL Go.Proofs
theorem cstN_lt (t : Nat) : ∀ k j, j + k ≤ 7 → cstN t k j < 18446744073709551616
  | 0, _, _ => by simp [cstN]
  | k + 1, j, h => by
    have ih := cstN_lt t k (j + 1) (by omega)
    rw [cstN]
    refine Nat.or_lt_two_pow (n := 64) ?_ ih
    split
    · have : 2 ^ j ≤ 2 ^ 6 := Nat.pow_le_pow_right (by decide) (by omega)
      exact Nat.pow_lt_pow_right (by decide) (by omega)
    · decide
/-- kmodel.Const -/
theorem kConst {S : St} {i : Nat} (hi : i < 24) : CallG Hvaf.prog 425 #[.int .u8 (i : Nat)] S fun r S' => S = S' ∧ r = .int .u64 (cstN (7 * i) 7 0 : Nat) := by
  obtain ⟨I, G⟩ := S
  have hlast := cstN_lt (7 * i) 7 0 (by decide)
  refine CallG.start (C := mkC Hvaf.prog) cok (args := [.int .u8 (i : Nat)]) Hvaf.func425 rfl Hvaf.ntmps425 (by simp) (by kernel_rfl) ?_
  repeat (first | refine SeqS.go cok ?_ | refine And.intro (fillOk_of (Eq.refl true)) ?_ | (refine CondS.keep ?_; first | refine CondS.d0 rfl (by omega) ?_))
  intro rb
  repeat (first | refine SeqS.go cok ?_ | (refine OpG.keep ?_; first | refine OpG.sL cok 0 rfl rfl rfl rfl rfl rfl rfl (by first | exact Nat.le_of_ble_eq_true rfl | omega | (dsimp only; omega) | (simp only [addS_eq, mulS_eq]; omega)) ?_))
  refine W.loopE cok (by kernel_rfl) 0 (fun (t : Nat) e' S' => ∃ c', S' = ⟨I, ⟨rb, 8, 483, c'⟩ :: G⟩ ∧ t ≤ 7 * i ∧ BB c' 8 (regN t) ∧ slots [(0, .int .u8 (i : Nat)), (3, ptr rb 0), (4, .int .i64 (t : Nat))] e') (fun t => 7 * i - t) 0
    ⟨_, rfl, Nat.zero_le _, ⟨fun k hk => ?_⟩, rfl, rfl, rfl, trivial⟩
    (fun e' S' => ∃ c', S' = ⟨I, ⟨rb, 8, 483, c'⟩ :: G⟩ ∧ BB c' 8 (regN (7 * i)) ∧ slots [(0, .int .u8 (i : Nat)), (3, ptr rb 0)] e') ?_ ?_
  · have h8 : k = 0 ∨ k = 1 ∨ k = 2 ∨ k = 3 ∨ k = 4 ∨ k = 5 ∨ k = 6 ∨ k = 7 := by omega
    rcases h8 with rfl | rfl | rfl | rfl | rfl | rfl | rfl | rfl <;> rfl
  · rintro e' S2 - ⟨c2, rfl, hR, hsl⟩
    refine SeqS.slots cok _ hsl fun e => ?_
    repeat (first | refine SeqS.go cok ?_)
    refine W.loopE cok (by kernel_rfl) 2 (fun (j : Nat) e' S' => ∃ c' acc, S' = ⟨I, ⟨rb, 8, 483, c'⟩ :: G⟩ ∧ j ≤ 7 ∧ acc < 18446744073709551616 ∧ acc ||| cstN (7 * i) (7 - j) j = cstN (7 * i) 7 0 ∧ BB c' 8 (regN (7 * i + j)) ∧ slots [(3, ptr rb 0), (5, .int .u64 (acc : Nat)), (6, .int .i64 (j : Nat))] e') (fun j => 7 - j) 0
      ⟨c2, 0, rfl, by decide, by decide, by simp, hR, rfl, rfl, rfl, trivial⟩
      (fun e' S' => ∃ c', S' = ⟨I, ⟨rb, 8, 483, c'⟩ :: G⟩ ∧ slots [(5, .int .u64 (cstN (7 * i) 7 0 : Nat))] e') ?_ ?_
    · rintro e3 S3 - ⟨c3, rfl, hsl3⟩
      refine SeqS.slots cok _ hsl3 fun e => ?_
      repeat (first | refine SeqS.go cok ?_)
      exact Fin.drop G [_] ⟨rfl, rfl⟩
    · rintro j e3 S3 - ⟨c3, acc, rfl, hj, hacc, hcst, hR3, hsl3⟩
      by_cases hj7 : j < 7
      · rw [show 7 - j = (7 - (j + 1)) + 1 by omega, cstN] at hcst
        have h7 : j = 0 ∨ j = 1 ∨ j = 2 ∨ j = 3 ∨ j = 4 ∨ j = 5 ∨ j = 6 := by omega
        rcases h7 with rfl | rfl | rfl | rfl | rfl | rfl | rfl
        all_goals (
          cases hb : regN (7 * i + _) 0
          · rw [hb, if_neg (by decide), Nat.zero_or] at hcst
            have hR4 : BB c3 8 (fun k => if k = 0 then false else regN _ k) := hR3.ext (by
              intro k hk; split
              · rename_i h; rw [h, hb]
              · rfl)
            refine W.slots _ hsl3 fun e => ?_
            repeat (first | (refine QuG.keep ?_; refine QuG.l1E cok 0 rfl rfl rfl rfl rfl (by first | omega | (simp only [addS_eq, mulS_eq]; omega)) (by first | exact (BB.get (by assumption) _ (by first | decide | (simp only [addS_eq, mulS_eq]; omega))) | exact ((upd_ne2 (by simp only [addS_eq, mulS_eq]; decide)).trans (BB.get (by assumption) _ (by first | decide | (simp only [addS_eq, mulS_eq]; omega)))) | exact ((upd_ne2 (by simp only [addS_eq, mulS_eq]; decide)).trans ((upd_ne2 (by simp only [addS_eq, mulS_eq]; decide)).trans (BB.get (by assumption) _ (by first | decide | (simp only [addS_eq, mulS_eq]; omega))))) | exact ((upd_ne2 (by simp only [addS_eq, mulS_eq]; decide)).trans ((upd_ne2 (by simp only [addS_eq, mulS_eq]; decide)).trans ((upd_ne2 (by simp only [addS_eq, mulS_eq]; decide)).trans (BB.get (by assumption) _ (by first | decide | (simp only [addS_eq, mulS_eq]; omega)))))) | exact ((upd_ne2 (by simp only [addS_eq, mulS_eq]; decide)).trans ((upd_ne2 (by simp only [addS_eq, mulS_eq]; decide)).trans ((upd_ne2 (by simp only [addS_eq, mulS_eq]; decide)).trans ((upd_ne2 (by simp only [addS_eq, mulS_eq]; decide)).trans (BB.get (by assumption) _ (by first | decide | (simp only [addS_eq, mulS_eq]; omega)))))))) ?_) | refine SeqS.go cok ?_ | refine CondS.t rfl ?_ | refine CondS.f rfl ?_ | refine And.intro (by dsimp only; omega) ?_ | (refine NatS.keep ?_; first | with_reducible refine NatS.lit ?_))
            refine (kTurn (by decide) hR3).mono ?_
            rintro r _ - ⟨c4, rfl, h4⟩
            repeat (first | refine SeqS.go cok ?_ | (refine ValS.keep ?_; first | (with_reducible refine ValS.kI64 ?_; first | (with_reducible refine ValS.addI64_L ?_ ?_ ; omega))))
            exact ⟨_, ⟨c4, acc, rfl, by decide, hacc, hcst, h4, rfl, rfl, rfl, trivial⟩, by decide⟩
          · rw [hb, if_pos rfl, ← Nat.or_assoc] at hcst
            have hR4 : BB c3 8 (fun k => if k = 0 then true else regN _ k) := hR3.ext (by
              intro k hk; split
              · rename_i h; rw [h, hb]
              · rfl)
            refine W.slots _ hsl3 fun e => ?_
            repeat (first | (refine QuG.keep ?_; refine QuG.l1E cok 0 rfl rfl rfl rfl rfl (by first | omega | (simp only [addS_eq, mulS_eq]; omega)) (by first | exact (BB.get (by assumption) _ (by first | decide | (simp only [addS_eq, mulS_eq]; omega))) | exact ((upd_ne2 (by simp only [addS_eq, mulS_eq]; decide)).trans (BB.get (by assumption) _ (by first | decide | (simp only [addS_eq, mulS_eq]; omega)))) | exact ((upd_ne2 (by simp only [addS_eq, mulS_eq]; decide)).trans ((upd_ne2 (by simp only [addS_eq, mulS_eq]; decide)).trans (BB.get (by assumption) _ (by first | decide | (simp only [addS_eq, mulS_eq]; omega))))) | exact ((upd_ne2 (by simp only [addS_eq, mulS_eq]; decide)).trans ((upd_ne2 (by simp only [addS_eq, mulS_eq]; decide)).trans ((upd_ne2 (by simp only [addS_eq, mulS_eq]; decide)).trans (BB.get (by assumption) _ (by first | decide | (simp only [addS_eq, mulS_eq]; omega)))))) | exact ((upd_ne2 (by simp only [addS_eq, mulS_eq]; decide)).trans ((upd_ne2 (by simp only [addS_eq, mulS_eq]; decide)).trans ((upd_ne2 (by simp only [addS_eq, mulS_eq]; decide)).trans ((upd_ne2 (by simp only [addS_eq, mulS_eq]; decide)).trans (BB.get (by assumption) _ (by first | decide | (simp only [addS_eq, mulS_eq]; omega)))))))) ?_) | refine SeqS.go cok ?_ | refine CondS.t rfl ?_ | refine And.intro (by omega) ?_ | refine And.intro (by dsimp only; omega) ?_ | (refine NatS.keep ?_; first | with_reducible refine NatS.lit ?_) | (refine ValS.keep ?_; first | (with_reducible refine ValS.kU64 ?_; first | (with_reducible refine ValS.orFU64 ?_ ?_ (fun _ => ?_); omega; omega) | (with_reducible refine ValS.subU64_L ?_ ?_ ?_ ; omega; omega) | (with_reducible refine ValS.shlU64_M ?_ ?_ ?_ ; omega; omega))))
            refine (kTurn (by decide) hR3).mono ?_
            rintro r _ - ⟨c4, rfl, h4⟩
            repeat (first | refine SeqS.go cok ?_ | (refine ValS.keep ?_; first | (with_reducible refine ValS.kI64 ?_; first | (with_reducible refine ValS.addI64_L ?_ ?_ ; omega))))
            exact ⟨_, ⟨c4, _, rfl, by decide, by assumption, hcst, h4, rfl, rfl, rfl, trivial⟩, by decide⟩)
      · obtain rfl : j = 7 := by omega
        refine W.slots _ hsl3 fun e => ?_
        repeat (first | refine SeqS.go cok ?_ | refine CondS.f rfl ?_)
        refine ⟨c3, rfl, ?_, trivial⟩
        rw [← hcst]; simp [cstN]; rfl
  · rintro t e' S2 - ⟨c2, rfl, ht, hR, hsl⟩
    refine W.slots _ hsl fun e => ?_
    by_cases hlt : t < 7 * i
    · repeat (first | refine SeqS.go cok ?_ | (refine ValS.keep ?_; first | (with_reducible refine ValS.kI64 ?_; first | (with_reducible refine ValS.convI64 ?_ ?_ ; omega) | (with_reducible refine ValS.mulI64_M ?_ ?_ ; omega))) | (refine CondS.keep ?_; first | refine CondS.d1 rfl (by omega) ?_))
      refine (kTurn (by decide) hR).mono ?_
      rintro r _ - ⟨c3, rfl, h3⟩
      repeat (first | refine SeqS.go cok ?_ | (refine ValS.keep ?_; first | (with_reducible refine ValS.kI64 ?_; first | (with_reducible refine ValS.addI64_L ?_ ?_ ; omega))))
      exact ⟨t + 1, ⟨c3, rfl, hlt, h3, rfl, rfl, rfl, trivial⟩, by show 7 * i - (t + 1) < 7 * i - t; omega⟩
    · obtain rfl : t = 7 * i := by omega
      repeat (first | refine SeqS.go cok ?_ | (refine ValS.keep ?_; first | (with_reducible refine ValS.kI64 ?_; first | (with_reducible refine ValS.convI64 ?_ ?_ ; omega) | (with_reducible refine ValS.mulI64_M ?_ ?_ ; omega))) | (refine CondS.keep ?_; first | refine CondS.d0 rfl (by omega) ?_))
      exact ⟨c2, rfl, hR, rfl, rfl, trivial⟩
end Go.Proofs.YgvafwGreat
