import Derived.Test.YgvafwGreatE61
import Derived.Test.YgvafwGreatV7
import Derived.Test.YgvafwGreatL1
import Derived.Test.YgvafwGreatY78
set_option exponentiation.threshold 1000
set_option maxRecDepth 100000
set_option maxHeartbeats 4000000
set_option linter.unusedVariables false
set_option linter.unusedSimpArgs false
-- v2
-- v4
-- v5
-- v6
-- v7
namespace Go.Proofs.YgvafwGreat
open Go.HL Go.Proofs

theorem vc_cells {f : Nat → Value} {n k : Nat} (h : k < n) : vc (.agg (cellsFrom f 0 n).toArray) k = f k := by
  have := (Row.box (cellsFrom f 0 n)).get k (by rw [cellsFrom_length]; exact h)
  rw [Nat.zero_add] at this
  rw [this, List.getD_eq_getElem?_getD, cellsFrom_get f 0 n k h, Nat.zero_add]; rfl
/-- The cells of a new machine. -/
def mnF (cb : Nat) : Nat → Value := fillC z89 [(0, 1, ptr cb 2435), (2258, 1, .int .i8 (-1)), (2260, 120, .agg (cellsFrom (vc envV) 0 120).toArray)]
theorem mnF_env (cb : Nat) : Row (mnF cb) 2260 envL := Row.ofCellsO (n := 120) rfl
theorem mnF_one (cb k : Nat) (h : k < 2435) : one (mnF cb k) = true := by
  have h2 : (List.range 2435).all (fun k => one (mnF cb k)) = true := by kernel_rfl
  exact List.all_eq_true.1 h2 k (List.mem_range.2 h)
/-- What holds of a new machine's cells. -/
structure MN (cb : Nat) (c : Nat → Value) : Prop where
  mS : c 0 = ptr cb 2435
  a1 : c 1 = .slice none 0 0
  a2 : c 2 = .int .u32 ((0 : Nat) : Int)
  a10 : c 10 = .int .u8 ((0 : Nat) : Int)
  top : c 2258 = .int .i8 (-1)
  env : Row c 2260 envL
  ph : c 2404 = .int .u8 0
  ap : c 2406 = .int .u8 0
  on : ∀ k, k < 2435 → one (c k) = true
theorem mn_ok (cb : Nat) : MN cb (upd (vc (.agg (cellsFrom (mnF cb) 0 2435).toArray)) 2379 (.slice none 0 0)) := by
  have e := fun k (h : k < 2435) (h2 : k ≠ 2379) => (updNe (c := vc (.agg (cellsFrom (mnF cb) 0 2435).toArray)) (v := .slice none 0 0) h2).trans (vc_cells h)
  refine ⟨e 0 (by decide) (by decide), e 1 (by decide) (by decide), e 2 (by decide) (by decide), e 10 (by decide) (by decide), e 2258 (by decide) (by decide), ⟨fun i hi => ?_⟩, e 2404 (by decide) (by decide), e 2406 (by decide) (by decide), fun k hk => ?_⟩
  · have hi2 : i < 120 := hi
    by_cases h : i = 119
    · subst h; rfl
    · exact (e (2260 + i) (by omega) (by omega)).trans ((mnF_env cb).get i hi)
  · by_cases h : k = 2379
    · subst h; rfl
    · rw [e k hk h]; exact mnF_one cb k hk
/-- mach.New -/
theorem mNew {I : Ent → Prop} {G : List Ent} {cb : Nat} :
    CallG Hvaf.prog 39 #[ptr cb 2435, envV] ⟨I, G⟩ fun r S' => ∃ mb msz cm, r = ptr mb 0 ∧ S' = ⟨I, ⟨mb, msz, 89, cm⟩ :: G⟩ ∧ 2435 ≤ msz ∧ MN cb cm := by
  refine CallG.start (C := mkC Hvaf.prog) cok (args := [ptr cb 2435, envV]) Hvaf.func39 rfl Hvaf.ntmps39 (by simp) (by kernel_rfl) ?_
  intro b3
  repeat (first | refine SeqS.go cok ?_ | refine And.intro (fillOk_of (Eq.refl true)) ?_ | refine And.intro (Eq.refl true) ?_ | (refine QuG.keep ?_; first | refine QuG.lN cok 0 rfl rfl rfl rfl rfl (by first | exact Nat.le_of_ble_eq_true rfl | omega | (dsimp only; omega) | (simp only [addS_eq, mulS_eq]; omega)) ?_))
  intro mb
  repeat (first | refine SeqS.go cok ?_ | refine CondS.f rfl ?_ | (refine QuG.keep ?_; first | refine QuG.l1 cok 1 rfl rfl rfl rfl rfl (by first | exact Nat.le_of_ble_eq_true rfl | omega | (dsimp only; omega) | (simp only [addS_eq, mulS_eq]; omega)) ?_) | (refine OpG.keep ?_; first | refine OpG.s1 cok 0 rfl rfl rfl rfl rfl (by first | exact Nat.le_of_ble_eq_true rfl | omega | (dsimp only; omega) | (simp only [addS_eq, mulS_eq]; omega)) rfl rfl ?_))
  refine Fin.drop1 (⟨mb, (Value.agg (cellsFrom (mnF cb) 0 2435).toArray).cells.size, 89, upd (vc (.agg (cellsFrom (mnF cb) 0 2435).toArray)) 2379 (.slice none 0 0)⟩) G [_] ⟨mb, _, _, rfl, rfl, ?_, mn_ok cb⟩
  show 2435 ≤ (cellsFrom (mnF cb) 0 2435).toArray.size
  rw [List.size_toArray, cellsFrom_length]; exact Nat.le_refl _
end Go.Proofs.YgvafwGreat
