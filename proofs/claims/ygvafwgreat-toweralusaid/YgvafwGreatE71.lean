import Derived.Test.YgvafwGreatV23
set_option exponentiation.threshold 1000
set_option maxRecDepth 100000
set_option maxHeartbeats 40000000
set_option linter.unusedVariables false
set_option linter.unusedSimpArgs false
-- v2
-- v4
-- v5
-- v6
-- v7
namespace Go.Proofs.YgvafwGreat
open Go.HL Go.Proofs

/-- engine.rest -/
theorem eRest {I : Ent → Prop} {R G : List Ent} {cb sz : Nat} {T : TypeId} {c : Nat → Value} {V : Vl} (hsz : 27019 ≤ sz) (hV : VI I c V G) (hO : VOk V) (hg : ∀ x ∈ V.ac, x.gone = false) (hj0 : 0 < V.jr.length) (ha0 : 0 < V.ac.length) (hmS : c 0 = ptr cb 2435) :
    CallG Hvaf.prog 49 #[ptr cb 0] ⟨I, ⟨cb, sz, T, c⟩ :: (R ++ G)⟩ fun r S' => ∃ c' MA MS Y, S' = ⟨I, ⟨cb, sz, T, c'⟩ :: (MA ++ (MS ++ Y))⟩ ∧ XI I c' (V.ac.map coolA) (V.sl.map coolS) MA MS := by
  have hE := vEndTx (R := R) (cb := cb) (T := T) hsz hV hO hg hj0 ha0
  refine CallG.start (C := mkC Hvaf.prog) cok (args := [ptr cb 0]) Hvaf.func49 rfl Hvaf.ntmps49 (by simp) (by kernel_rfl) ?_
  repeat (first | (refine QuG.keep ?_; first | refine QuG.l1E cok 0 rfl rfl rfl rfl rfl (by first | exact Nat.le_of_ble_eq_true rfl | omega | (dsimp only; omega) | (simp only [addS_eq, mulS_eq]; omega)) (by assumption) ?_))
  refine hE.mono ?_
  rintro r _ - ⟨c1, MA, MS, Y, rfl, ho, hX⟩
  repeat (first | refine SeqS.go cok ?_ | refine And.intro (fillOk_of (Eq.refl true)) ?_ | (refine OpG.keep ?_; first | refine OpG.s1 cok 0 rfl rfl rfl rfl rfl (by first | exact Nat.le_of_ble_eq_true rfl | omega | (dsimp only; omega) | (simp only [addS_eq, mulS_eq]; omega)) rfl rfl ?_ | refine OpG.sL cok 0 rfl rfl rfl rfl rfl rfl rfl (by first | exact Nat.le_of_ble_eq_true rfl | omega | (dsimp only; omega) | (simp only [addS_eq, mulS_eq]; omega)) ?_))
  exact Fin.same ⟨_, MA, MS, Y, rfl, ⟨hX.oa, hX.os, hX.cd⟩⟩
end Go.Proofs.YgvafwGreat
