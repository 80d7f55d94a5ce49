import Derived.Test.YgvafwGreatE60
import Derived.Test.YgvafwGreatE37
set_option maxRecDepth 100000
set_option maxHeartbeats 4000000
set_option linter.unusedVariables false
set_option linter.unusedSimpArgs false
-- v2
-- v4
-- v5
-- v6
-- v7
namespace Go.Proofs.YgvafwGreat
open Go.HL Go.Proofs

/-- mem.Arena.Enter, the first frame -/
theorem mArEnter {I : Ent → Prop} {G : List Ent} {cb sz : Nat} {T : TypeId} {c : Nat → Value} (hsz : 2435 ≤ sz) (h10 : c 10 = .int .u8 ((0 : Nat) : Int)) (h2 : c 2 = .int .u32 ((0 : Nat) : Int)) :
    CallG Hvaf.prog 189 #[ptr cb 1] ⟨I, ⟨cb, sz, T, c⟩ :: G⟩ fun r S' => r = .bool true ∧ S' = ⟨I, ⟨cb, sz, T, upd (upd c 3 (.int .u32 ((0 : Nat) : Int))) 10 (.int .u8 ((1 : Nat) : Int))⟩ :: G⟩ := by
  refine CallG.start (C := mkC Hvaf.prog) cok (args := [ptr cb 1]) Hvaf.func189 rfl Hvaf.ntmps189 (by simp) (by kernel_rfl) ?_
  repeat (first | (refine QuG.keep ?_; first | refine QuG.l1E cok 0 rfl rfl rfl rfl rfl (by first | exact Nat.le_of_ble_eq_true rfl | omega | (dsimp only; omega) | (simp only [addS_eq, mulS_eq]; omega)) (by assumption) ?_) | refine SeqS.go cok ?_ | refine CondS.f rfl ?_ | refine And.intro (by dsimp only; omega) ?_ | (refine NatS.keep ?_; first | with_reducible refine NatS.nat ?_) | (refine ValS.keep ?_; first | (with_reducible refine ValS.kU8 ?_; first | (with_reducible refine ValS.addU8_L ?_ ?_ ; omega))) | (refine still_in ?_; first | refine still_drop (by decide) ?_) | (refine OpG.keep ?_; first | refine OpG.s1 cok 0 rfl rfl rfl rfl rfl (by first | exact Nat.le_of_ble_eq_true rfl | omega | (dsimp only; omega) | (simp only [addS_eq, mulS_eq]; omega)) rfl rfl ?_) | refine W.drawI 3 cok [0, 0, 2, 6, 14, 30, 0, 0, 128, 384, 896, 64, 2112, 8128, 16320, 1, 32769, 131071, 262143] [0, 1, 2, 3, 4, 5, 6, 7, 8, 9, 10, 11, 12, 13, 14, 15, 16, 17, 18] [4, 10, 14] (by kernel_rfl) (by kernel_rfl) ?_)
  exact Fin.same ⟨rfl, rfl⟩
/-- mach.Machine.move of nothing -/
theorem mMove0 {I : Ent → Prop} {G : List Ent} {cb : Nat} {a b : List Nat} (ha : a.length = 20) (hb : b.length = 20) :
    CallG Hvaf.prog 192 #[ptr cb 0, bytesV a, bytesV b, wordV 0] ⟨I, G⟩ fun r S' => ⟨I, G⟩ = S' ∧ r = .bool true := by
  refine CallG.start (C := mkC Hvaf.prog) cok (args := [ptr cb 0, bytesV a, bytesV b, wordV 0]) Hvaf.func192 rfl Hvaf.ntmps192 (by simp) (by kernel_rfl) ?_
  intro b5 b6 b7
  repeat (first | refine SeqS.go cok ?_ | (refine QuG.keep ?_; first | refine QuG.lN cok 0 rfl rfl rfl rfl rfl (by first | exact Nat.le_of_ble_eq_true rfl | omega | (dsimp only; omega) | (simp only [addS_eq, mulS_eq]; omega)) ?_))
  refine (UIsZero_spec (a := 0) (by decide)).mono ?_
  rintro r _ - ⟨rfl, rfl⟩
  repeat (first | refine SeqS.go cok ?_ | refine CondS.t rfl ?_)
  exact Fin.drop G [_, _, _] ⟨rfl, rfl⟩
end Go.Proofs.YgvafwGreat
