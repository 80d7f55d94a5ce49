import Derived.Test.YgvafwGreatK4
set_option maxRecDepth 100000
set_option maxHeartbeats 8000000
set_option linter.unusedVariables false
set_option linter.unusedSimpArgs false
-- v2
-- plus: (refine QuG.keep ?_; refine QuG.l1E cok 0 rfl rfl rfl rfl rfl (by first | omega | (simp only [addS_eq, mulS_eq]; omega)) (by first | exact (BB.get (by assumption) _ (by first | decide | (simp only [addS_eq, mulS_eq]; omega))) | exact ((upd_ne2 (by simp only [addS_eq, mulS_eq]; decide)).trans (BB.get (by assumption) _ (by first | decide | (simp only [addS_eq, mulS_eq]; omega)))) | exact ((upd_ne2 (by simp only [addS_eq, mulS_eq]; decide)).trans ((upd_ne2 (by simp only [addS_eq, mulS_eq]; decide)).trans (BB.get (by assumption) _ (by first | decide | (simp only [addS_eq, mulS_eq]; omega))))) | exact ((upd_ne2 (by simp only [addS_eq, mulS_eq]; decide)).trans ((upd_ne2 (by simp only [addS_eq, mulS_eq]; decide)).trans ((upd_ne2 (by simp only [addS_eq, mulS_eq]; decide)).trans (BB.get (by assumption) _ (by first | decide | (simp only [addS_eq, mulS_eq]; omega)))))) | exact ((upd_ne2 (by simp only [addS_eq, mulS_eq]; decide)).trans ((upd_ne2 (by simp only [addS_eq, mulS_eq]; decide)).trans ((upd_ne2 (by simp only [addS_eq, mulS_eq]; decide)).trans ((upd_ne2 (by simp only [addS_eq, mulS_eq]; decide)).trans (BB.get (by assumption) _ (by first | decide | (simp only [addS_eq, mulS_eq]; omega)))))))) ?_)
namespace Go.Proofs.YgvafwGreat
open Go.HL Go.Proofs
theorem upd_ne2 {c : Nat → Value} {i k : Nat} {v : Value} (h : k ≠ i) : upd c i v k = c k := by simp [upd, h]
def turnN (R : Nat → Bool) (i : Nat) : Bool := if i = 0 then R 7 else if i = 4 then R 3 != R 7 else if i = 5 then R 4 != R 7 else if i = 6 then R 5 != R 7 else R (i - 1)
/-- kmodel.register.turn -/
theorem kTurn {I : Ent → Prop} {G : List Ent} {rb sz : Nat} {T : TypeId} {c : Nat → Value} {R : Nat → Bool} (hsz : 8 ≤ sz) (hR : BB c 8 R) :
    CallG Hvaf.prog 432 #[ptr rb 0] ⟨I, ⟨rb, sz, T, c⟩ :: G⟩ fun r S' => ∃ c', S' = ⟨I, ⟨rb, sz, T, c'⟩ :: G⟩ ∧ BB c' 8 (turnN R) := by
  refine CallG.start (C := mkC Hvaf.prog) cok (args := [ptr rb 0]) Hvaf.func432 rfl Hvaf.ntmps432 (by simp) (by kernel_rfl) ?_
  repeat (first | (refine QuG.keep ?_; refine QuG.l1E cok 0 rfl rfl rfl rfl rfl (by first | omega | (simp only [addS_eq, mulS_eq]; omega)) (by first | exact (BB.get (by assumption) _ (by first | decide | (simp only [addS_eq, mulS_eq]; omega))) | exact ((upd_ne2 (by simp only [addS_eq, mulS_eq]; decide)).trans (BB.get (by assumption) _ (by first | decide | (simp only [addS_eq, mulS_eq]; omega)))) | exact ((upd_ne2 (by simp only [addS_eq, mulS_eq]; decide)).trans ((upd_ne2 (by simp only [addS_eq, mulS_eq]; decide)).trans (BB.get (by assumption) _ (by first | decide | (simp only [addS_eq, mulS_eq]; omega))))) | exact ((upd_ne2 (by simp only [addS_eq, mulS_eq]; decide)).trans ((upd_ne2 (by simp only [addS_eq, mulS_eq]; decide)).trans ((upd_ne2 (by simp only [addS_eq, mulS_eq]; decide)).trans (BB.get (by assumption) _ (by first | decide | (simp only [addS_eq, mulS_eq]; omega)))))) | exact ((upd_ne2 (by simp only [addS_eq, mulS_eq]; decide)).trans ((upd_ne2 (by simp only [addS_eq, mulS_eq]; decide)).trans ((upd_ne2 (by simp only [addS_eq, mulS_eq]; decide)).trans ((upd_ne2 (by simp only [addS_eq, mulS_eq]; decide)).trans (BB.get (by assumption) _ (by first | decide | (simp only [addS_eq, mulS_eq]; omega)))))))) ?_) | refine SeqS.go cok ?_ | refine And.intro (by dsimp only; omega) ?_ | (refine NatS.keep ?_; first | with_reducible refine NatS.lit ?_))
  refine W.loopE cok (by kernel_rfl) 0 (fun (i : Nat) e' S' => ∃ c', S' = ⟨I, ⟨rb, sz, T, c'⟩ :: G⟩ ∧ i ≤ 7 ∧ BB c' 8 (fun k => if i < k then R (k - 1) else R k) ∧ slots [(0, ptr rb 0), (2, .bool (R 7)), (3, .int .i64 (i : Nat))] e') (fun i => i) 7
    ⟨c, rfl, by decide, hR.ext (fun i hi => by rw [if_neg (by omega)]), rfl, rfl, rfl, trivial⟩
    (fun e' S' => ∃ c', S' = ⟨I, ⟨rb, sz, T, c'⟩ :: G⟩ ∧ BB c' 8 (fun k => R (k - 1)) ∧ slots [(0, ptr rb 0), (2, .bool (R 7))] e') ?_ ?_
  · rintro e' S2 - ⟨c2, rfl, h2, hsl⟩
    refine SeqS.slots cok _ hsl fun e => ?_
    clear hR
    repeat (first | (refine QuG.keep ?_; refine QuG.l1E cok 0 rfl rfl rfl rfl rfl (by first | omega | (simp only [addS_eq, mulS_eq]; omega)) (by first | exact (BB.get (by assumption) _ (by first | decide | (simp only [addS_eq, mulS_eq]; omega))) | exact ((upd_ne2 (by simp only [addS_eq, mulS_eq]; decide)).trans (BB.get (by assumption) _ (by first | decide | (simp only [addS_eq, mulS_eq]; omega)))) | exact ((upd_ne2 (by simp only [addS_eq, mulS_eq]; decide)).trans ((upd_ne2 (by simp only [addS_eq, mulS_eq]; decide)).trans (BB.get (by assumption) _ (by first | decide | (simp only [addS_eq, mulS_eq]; omega))))) | exact ((upd_ne2 (by simp only [addS_eq, mulS_eq]; decide)).trans ((upd_ne2 (by simp only [addS_eq, mulS_eq]; decide)).trans ((upd_ne2 (by simp only [addS_eq, mulS_eq]; decide)).trans (BB.get (by assumption) _ (by first | decide | (simp only [addS_eq, mulS_eq]; omega)))))) | exact ((upd_ne2 (by simp only [addS_eq, mulS_eq]; decide)).trans ((upd_ne2 (by simp only [addS_eq, mulS_eq]; decide)).trans ((upd_ne2 (by simp only [addS_eq, mulS_eq]; decide)).trans ((upd_ne2 (by simp only [addS_eq, mulS_eq]; decide)).trans (BB.get (by assumption) _ (by first | decide | (simp only [addS_eq, mulS_eq]; omega)))))))) ?_) | refine SeqS.go cok ?_ | refine And.intro (by dsimp only; omega) ?_ | (refine NatS.keep ?_; first | with_reducible refine NatS.lit ?_) | (refine still_in ?_; first | refine still_nil ?_ | refine still_drop (by decide) ?_) | (refine OpG.keep ?_; first | refine OpG.s1 cok 0 rfl rfl rfl rfl rfl (by first | exact Nat.le_of_ble_eq_true rfl | omega | (dsimp only; omega) | (simp only [addS_eq, mulS_eq]; omega)) rfl rfl ?_) | refine W.drawI 6 cok [0, 0, 2, 6, 14, 0, 62, 1, 255, 511] [0, 1, 2, 3, 4, 5, 6, 7, 8, 9] [4] (by kernel_rfl) (by kernel_rfl) ?_ | refine W.drawI 7 cok [0, 0, 2, 6, 14, 0, 62, 1, 255, 511] [0, 1, 2, 3, 4, 5, 6, 7, 8, 9] [4] (by kernel_rfl) (by kernel_rfl) ?_ | refine W.drawI 8 cok [0, 0, 2, 6, 14, 0, 62, 1, 255, 511] [0, 1, 2, 3, 4, 5, 6, 7, 8, 9] [4] (by kernel_rfl) (by kernel_rfl) ?_ | (refine QuG.keep ?_; first | refine QuG.neB cok rfl rfl rfl rfl ?_))
    refine Fin.same ⟨_, rfl, ⟨fun i hi => ?_⟩⟩
    have h8 : i = 0 ∨ i = 1 ∨ i = 2 ∨ i = 3 ∨ i = 4 ∨ i = 5 ∨ i = 6 ∨ i = 7 := by omega
    rcases h8 with rfl | rfl | rfl | rfl | rfl | rfl | rfl | rfl
    · rfl
    · exact h2.get 1 (by decide)
    · exact h2.get 2 (by decide)
    · exact h2.get 3 (by decide)
    · rfl
    · rfl
    · rfl
    · exact h2.get 7 (by decide)
  · rintro i e' S2 - ⟨c2, rfl, hi, h2, hsl⟩
    refine W.slots _ hsl fun e => ?_
    clear hR
    by_cases h0 : 0 < i
    · repeat (first | (refine QuG.keep ?_; refine QuG.l1E cok 0 rfl rfl rfl rfl rfl (by first | omega | (simp only [addS_eq, mulS_eq]; omega)) (by first | exact (BB.get (by assumption) _ (by first | decide | (simp only [addS_eq, mulS_eq]; omega))) | exact ((upd_ne2 (by simp only [addS_eq, mulS_eq]; decide)).trans (BB.get (by assumption) _ (by first | decide | (simp only [addS_eq, mulS_eq]; omega)))) | exact ((upd_ne2 (by simp only [addS_eq, mulS_eq]; decide)).trans ((upd_ne2 (by simp only [addS_eq, mulS_eq]; decide)).trans (BB.get (by assumption) _ (by first | decide | (simp only [addS_eq, mulS_eq]; omega))))) | exact ((upd_ne2 (by simp only [addS_eq, mulS_eq]; decide)).trans ((upd_ne2 (by simp only [addS_eq, mulS_eq]; decide)).trans ((upd_ne2 (by simp only [addS_eq, mulS_eq]; decide)).trans (BB.get (by assumption) _ (by first | decide | (simp only [addS_eq, mulS_eq]; omega)))))) | exact ((upd_ne2 (by simp only [addS_eq, mulS_eq]; decide)).trans ((upd_ne2 (by simp only [addS_eq, mulS_eq]; decide)).trans ((upd_ne2 (by simp only [addS_eq, mulS_eq]; decide)).trans ((upd_ne2 (by simp only [addS_eq, mulS_eq]; decide)).trans (BB.get (by assumption) _ (by first | decide | (simp only [addS_eq, mulS_eq]; omega)))))))) ?_) | refine SeqS.go cok ?_ | refine And.intro (by dsimp only; omega) ?_ | (refine NatS.keep ?_; first | with_reducible refine NatS.nat ?_) | (refine ValS.keep ?_; first | (with_reducible refine ValS.kI64 ?_; first | (with_reducible refine ValS.subI64_L ?_ ?_ ?_ ; omega; omega))) | (refine still_in ?_; first | refine still_drop (by decide) ?_) | (refine OpG.keep ?_; first | refine OpG.s1 cok 0 rfl rfl rfl rfl rfl (by first | exact Nat.le_of_ble_eq_true rfl | omega | (dsimp only; omega) | (simp only [addS_eq, mulS_eq]; omega)) rfl rfl ?_) | refine W.drawI 4 cok [0, 0, 0, 0, 8, 4, 60, 124, 1, 511, 1023] [0, 1, 2, 3, 4, 5, 6, 7, 8, 9, 10] [7] (by kernel_rfl) (by kernel_rfl) ?_ | (refine CondS.keep ?_; first | refine CondS.d1 rfl (by omega) ?_))
      refine ⟨i - 1, ⟨_, rfl, by omega, h2.upd ?_, rfl, rfl, ?_, trivial⟩, by show i - 1 < i; omega⟩
      · intro k hk
        simp only [addS_eq, mulS_eq]
        by_cases hki : k = 0 + i * 1
        · rw [if_pos hki, if_pos (by omega), if_neg (by omega)]; congr 1; omega
        · rw [if_neg hki]
          by_cases hlt : i < k
          · rw [if_pos hlt, if_pos (by omega)]
          · rw [if_neg hlt, if_neg (by omega)]
      · rfl
    · obtain rfl : i = 0 := by omega
      repeat (first | refine SeqS.go cok ?_ | refine CondS.f rfl ?_)
      exact ⟨c2, rfl, h2.ext (fun k hk => by
        by_cases h0 : 0 < k
        · rw [if_pos h0]
        · rw [if_neg h0, show k - 1 = k by omega]), rfl, rfl, trivial⟩
/-- The register after n turns. -/
def regN : Nat → Nat → Bool
  | 0 => fun i => decide (i = 0)
  | n + 1 => turnN (regN n)
def cstN (t : Nat) : Nat → Nat → Nat
  | 0, _ => 0
  | k + 1, j => (if regN (t + j) 0 then 2 ^ (2 ^ j - 1) else 0) ||| cstN t k (j + 1)
end Go.Proofs.YgvafwGreat
