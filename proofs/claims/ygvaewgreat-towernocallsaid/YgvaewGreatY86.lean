import Derived.Test.YgvaewGreatY81
import Derived.Test.YgvaewGreatY80
set_option exponentiation.threshold 1000
set_option maxRecDepth 100000
set_option maxHeartbeats 4000000
set_option linter.unusedVariables false
set_option linter.unusedSimpArgs false
-- v2
-- v4
-- v5
-- v6
-- v7
namespace Go.Proofs.YgvaewGreat
open Go.HL Go.Proofs

/-- yp.Chain.Begin where the transaction is refused -/
theorem yBeginV {I : Ent → Prop} {G : List Ent} {sb gas dc v : Nat} {cs : Nat → Value} {da : Option Addr} {ds : List Nat} (hv : 0 < v) (hv2 : v < 256)
    (hver : ∀ (G : List Ent), CallG Hvae.prog 52 #[ptr sb 0, txV (.slice da ds.length dc) gas] ⟨I, ⟨sb, 179, 118, cs⟩ :: G⟩ fun r S' => S'.G = ⟨sb, 179, 118, cs⟩ :: G ∧ r = .int .u8 (v : Nat)) :
    CallG Hvae.prog 29 #[ptr sb 0, txV (.slice da ds.length dc) gas] ⟨I, ⟨sb, 179, 118, cs⟩ :: G⟩ fun r S' => S'.G = ⟨sb, 179, 118, cs⟩ :: G ∧ r = .int .u8 (v : Nat) := by
  refine CallG.start (C := mkC Hvae.prog) cok (args := [ptr sb 0, txV (.slice da ds.length dc) gas]) Hvae.func29 rfl Hvae.ntmps29 (by simp) (by kernel_rfl) ?_
  intro b3
  repeat (first | refine SeqS.go cok ?_ | (refine QuG.keep ?_; first | refine QuG.lN cok 0 rfl rfl rfl rfl rfl (by first | exact Nat.le_of_ble_eq_true rfl | omega | (dsimp only; omega) | (simp only [addS_eq, mulS_eq]; omega)) ?_))
  refine CallG.behind [_] (hver _) ?_
  rintro r J1 _ hs1 ⟨e, rfl⟩
  cases e
  repeat (first | refine SeqS.go cok ?_ | (refine CondS.keep ?_; first | refine CondS.nd1 rfl (by omega) ?_))
  exact Fin.drop (⟨sb, 179, 118, cs⟩ :: G) [_] ⟨rfl, rfl⟩
end Go.Proofs.YgvaewGreat
