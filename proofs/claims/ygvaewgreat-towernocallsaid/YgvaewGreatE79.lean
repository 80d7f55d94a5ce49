import Derived.Test.YgvaewGreatE73
import Derived.Test.YgvaewGreatE63
import Derived.Test.YgvaewGreatL9
set_option exponentiation.threshold 1000
set_option maxRecDepth 100000
set_option maxHeartbeats 4000000
set_option linter.unusedVariables false
set_option linter.unusedSimpArgs false
-- v2
-- v4
-- v5
-- v6
-- v7
namespace Go.Proofs.YgvaewGreat
open Go.HL Go.Proofs

/-- engine.Open where the transaction is refused -/
theorem eOpenV {I : Ent → Prop} {G : List Ent} {cb sz gas dc v : Nat} {T : TypeId} {c : Nat → Value} {da : Option Addr} {ds : List Nat} (hv : 0 < v) (hv2 : v < 256)
    (hver : CallG Hvae.prog 99 #[ptr cb 0, txV (.slice da ds.length dc) gas] ⟨I, ⟨cb, sz, T, c⟩ :: G⟩ fun r S' => S'.G = ⟨cb, sz, T, c⟩ :: G ∧ r = .tuple #[.int .u8 (v : Nat), wordV 0]) :
    CallG Hvae.prog 45 #[ptr cb 0, txV (.slice da ds.length dc) gas] ⟨I, ⟨cb, sz, T, c⟩ :: G⟩ fun r S' => S'.G = ⟨cb, sz, T, c⟩ :: G ∧ r = .int .u8 (v : Nat) := by
  refine CallG.start (C := mkC Hvae.prog) cok (args := [ptr cb 0, txV (.slice da ds.length dc) gas]) Hvae.func45 rfl Hvae.ntmps45 (by simp) (by kernel_rfl) ?_
  intro b3
  repeat (first | refine SeqS.go cok ?_ | (refine QuG.keep ?_; first | refine QuG.lN cok 0 rfl rfl rfl rfl rfl (by first | exact Nat.le_of_ble_eq_true rfl | omega | (dsimp only; omega) | (simp only [addS_eq, mulS_eq]; omega)) ?_))
  refine CallG.behind [_] hver ?_
  rintro r J1 _ hs1 ⟨e1, rfl⟩
  cases e1
  intro b6
  repeat (first | refine SeqS.go cok ?_ | (refine OpG.keep ?_; first | refine OpG.sL cok 0 rfl rfl rfl rfl rfl rfl rfl (by first | exact Nat.le_of_ble_eq_true rfl | omega | (dsimp only; omega) | (simp only [addS_eq, mulS_eq]; omega)) ?_) | (refine CondS.keep ?_; first | refine CondS.nd1 rfl (by omega) ?_))
  exact Fin.drop (⟨cb, sz, T, c⟩ :: G) [_, _] ⟨rfl, rfl⟩
/-- engine.Chain.Apply where the transaction is refused -/
theorem eApplyV {I : Ent → Prop} {G : List Ent} {cb sz gas dc v : Nat} {T : TypeId} {c : Nat → Value} {da : Option Addr} {ds : List Nat} (hv : 0 < v) (hv2 : v < 256)
    (hver : CallG Hvae.prog 99 #[ptr cb 0, txV (.slice da ds.length dc) gas] ⟨I, ⟨cb, sz, T, c⟩ :: G⟩ fun r S' => S'.G = ⟨cb, sz, T, c⟩ :: G ∧ r = .tuple #[.int .u8 (v : Nat), wordV 0]) :
    CallG Hvae.prog 11 #[ptr cb 0, txV (.slice da ds.length dc) gas] ⟨I, ⟨cb, sz, T, c⟩ :: G⟩ fun r S' => S'.G = ⟨cb, sz, T, c⟩ :: G ∧ r = rptV v 0 0 (.slice none 0 0) (.slice none 0 0) (List.replicate 20 0) := by
  have hb := eBegin (K := fun r S' => S'.G = ⟨cb, sz, T, c⟩ :: G ∧ r = .int .u8 (v : Nat)) ((eOpenV hv hv2 hver).mono fun r S' _ h => ⟨v, h.2, h.1, rfl⟩)
  refine CallG.start (C := mkC Hvae.prog) cok (args := [ptr cb 0, txV (.slice da ds.length dc) gas]) Hvae.func11 rfl Hvae.ntmps11 (by simp) (by kernel_rfl) ?_
  intro b2 b3
  repeat (first | refine SeqS.go cok ?_ | (refine QuG.keep ?_; first | refine QuG.lN cok 1 rfl rfl rfl rfl rfl (by first | exact Nat.le_of_ble_eq_true rfl | omega | (dsimp only; omega) | (simp only [addS_eq, mulS_eq]; omega)) ?_))
  refine CallG.behind [_, _] hb ?_
  rintro r J1 _ hs1 ⟨e, rfl⟩
  cases e
  repeat (first | refine SeqS.go cok ?_ | refine And.intro (fillOk_of (Eq.refl true)) ?_ | refine And.intro (Eq.refl true) ?_ | (refine LdG.keep ?_; first | refine LdG.lN cok 0 rfl rfl rfl rfl rfl (by first | exact Nat.le_of_ble_eq_true rfl | omega | (dsimp only; omega) | (simp only [addS_eq, mulS_eq]; omega)) ?_) | (refine OpG.keep ?_; first | refine OpG.sL cok 0 rfl rfl rfl rfl rfl rfl rfl (by first | exact Nat.le_of_ble_eq_true rfl | omega | (dsimp only; omega) | (simp only [addS_eq, mulS_eq]; omega)) ?_) | (refine CondS.keep ?_; first | refine CondS.nd1 rfl (by omega) ?_))
  exact Fin.drop (⟨cb, sz, T, c⟩ :: G) [_, _] ⟨rfl, rfl⟩
end Go.Proofs.YgvaewGreat
