import Derived.Test.YgvafwGreatV26
import Derived.Test.YgvafwGreatV23
import Derived.Test.YgvafwGreatV6a
import Derived.Test.YgvafwGreatY79
import Derived.Test.YgvafwGreatU13
import Derived.Test.YgvafwGreatNum2
set_option exponentiation.threshold 1000
set_option maxRecDepth 100000
set_option maxHeartbeats 4000000
set_option linter.unusedVariables false
set_option linter.unusedSimpArgs false
-- v2
-- v4
-- v5
-- v6
-- v7
namespace Go.Proofs.YgvafwGreat
open Go.HL Go.Proofs

/-- vault.addrWord -/
theorem vAddrWord1 {I : Ent → Prop} {G : List Ent} : CallG Hvaf.prog 84 #[bytesV (adNo 1)] ⟨I, G⟩ fun r S' => ⟨I, G⟩ = S' ∧ r = wordV 1 := by
  have hB := fun (S : St) (v : Value) (off m : Nat) (h : Byt S v (adNo 1)) (ho : off + 8 ≤ 20) (hm : bev (((adNo 1).drop off).take 8) = m) => (hm ▸ BE64_spec (off := off) h ho : CallG Hvaf.prog 166 #[v, .int .i64 (off : Nat)] S fun r S' => S = S' ∧ r = .tuple #[.int .u64 (m : Nat), .bool true])
  refine CallG.start (C := mkC Hvaf.prog) cok (args := [bytesV (adNo 1)]) Hvaf.func84 rfl Hvaf.ntmps84 (by simp) (by kernel_rfl) ?_
  intro b1 b2
  repeat (first | refine SeqS.go cok ?_ | refine And.intro (Eq.refl true) ?_ | (refine ValS.keep ?_; first | with_reducible refine ValS.sl0 ?_))
  refine (hB _ _ 0 0 (box_b (l := bvs (adNo 1)) (p := 0) (m := 20) (List.mem_cons_of_mem _ List.mem_cons_self) rfl rfl (by decide) (by decide) (Nat.le_of_ble_eq_true rfl)) (by decide) (by decide)).mono ?_
  rintro r _ - ⟨rfl, rfl⟩
  repeat (first | refine SeqS.go cok ?_ | refine And.intro (Eq.refl true) ?_ | (refine ValS.keep ?_; first | with_reducible refine ValS.sl0 ?_))
  refine (hB _ _ 8 0 (box_b (l := bvs (adNo 1)) (p := 0) (m := 20) (List.mem_cons_of_mem _ List.mem_cons_self) rfl rfl (by decide) (by decide) (Nat.le_of_ble_eq_true rfl)) (by decide) (by decide)).mono ?_
  rintro r _ - ⟨rfl, rfl⟩
  repeat (first | refine SeqS.go cok ?_ | refine And.intro (Eq.refl true) ?_ | (refine ValS.keep ?_; first | with_reducible refine ValS.sl0 ?_))
  refine (hB _ _ 12 1 (box_b (l := bvs (adNo 1)) (p := 0) (m := 20) (List.mem_cons_of_mem _ List.mem_cons_self) rfl rfl (by decide) (by decide) (Nat.le_of_ble_eq_true rfl)) (by decide) (by decide)).mono ?_
  rintro r _ - ⟨rfl, rfl⟩
  repeat (first | refine SeqS.go cok ?_ | refine And.intro (fillOk_of (Eq.refl true)) ?_ | refine And.intro (by omega) ?_ | (refine ValS.keep ?_; first | (with_reducible refine ValS.kU64 ?_; first | (with_reducible refine ValS.orShU64 ?_ ?_ ?_; omega; omega) | (with_reducible refine ValS.andMU64 ?_ ?_; omega) | (with_reducible refine ValS.shrU64_L ?_ ?_ ; omega) | (with_reducible refine ValS.shlU64_L ?_ ?_ ?_ ; omega; omega))) | (refine LdG.keep ?_; first | refine LdG.lN cok 0 rfl rfl rfl rfl rfl (by first | exact Nat.le_of_ble_eq_true rfl | omega | (dsimp only; omega) | (simp only [addS_eq, mulS_eq]; omega)) ?_) | (refine OpG.keep ?_; first | refine OpG.sL cok 0 rfl rfl rfl rfl rfl rfl rfl (by first | exact Nat.le_of_ble_eq_true rfl | omega | (dsimp only; omega) | (simp only [addS_eq, mulS_eq]; omega)) ?_))
  exact Fin.drop G [_, _] ⟨rfl, rfl⟩
/-- vault.addrWord -/
theorem vAddrWord240 {I : Ent → Prop} {G : List Ent} : CallG Hvaf.prog 84 #[bytesV (adNo 240)] ⟨I, G⟩ fun r S' => ⟨I, G⟩ = S' ∧ r = wordV 240 := by
  have hB := fun (S : St) (v : Value) (off m : Nat) (h : Byt S v (adNo 240)) (ho : off + 8 ≤ 20) (hm : bev (((adNo 240).drop off).take 8) = m) => (hm ▸ BE64_spec (off := off) h ho : CallG Hvaf.prog 166 #[v, .int .i64 (off : Nat)] S fun r S' => S = S' ∧ r = .tuple #[.int .u64 (m : Nat), .bool true])
  refine CallG.start (C := mkC Hvaf.prog) cok (args := [bytesV (adNo 240)]) Hvaf.func84 rfl Hvaf.ntmps84 (by simp) (by kernel_rfl) ?_
  intro b1 b2
  repeat (first | refine SeqS.go cok ?_ | refine And.intro (Eq.refl true) ?_ | (refine ValS.keep ?_; first | with_reducible refine ValS.sl0 ?_))
  refine (hB _ _ 0 0 (box_b (l := bvs (adNo 240)) (p := 0) (m := 20) (List.mem_cons_of_mem _ List.mem_cons_self) rfl rfl (by decide) (by decide) (Nat.le_of_ble_eq_true rfl)) (by decide) (by decide)).mono ?_
  rintro r _ - ⟨rfl, rfl⟩
  repeat (first | refine SeqS.go cok ?_ | refine And.intro (Eq.refl true) ?_ | (refine ValS.keep ?_; first | with_reducible refine ValS.sl0 ?_))
  refine (hB _ _ 8 0 (box_b (l := bvs (adNo 240)) (p := 0) (m := 20) (List.mem_cons_of_mem _ List.mem_cons_self) rfl rfl (by decide) (by decide) (Nat.le_of_ble_eq_true rfl)) (by decide) (by decide)).mono ?_
  rintro r _ - ⟨rfl, rfl⟩
  repeat (first | refine SeqS.go cok ?_ | refine And.intro (Eq.refl true) ?_ | (refine ValS.keep ?_; first | with_reducible refine ValS.sl0 ?_))
  refine (hB _ _ 12 240 (box_b (l := bvs (adNo 240)) (p := 0) (m := 20) (List.mem_cons_of_mem _ List.mem_cons_self) rfl rfl (by decide) (by decide) (Nat.le_of_ble_eq_true rfl)) (by decide) (by decide)).mono ?_
  rintro r _ - ⟨rfl, rfl⟩
  repeat (first | refine SeqS.go cok ?_ | refine And.intro (fillOk_of (Eq.refl true)) ?_ | refine And.intro (by omega) ?_ | (refine ValS.keep ?_; first | (with_reducible refine ValS.kU64 ?_; first | (with_reducible refine ValS.orShU64 ?_ ?_ ?_; omega; omega) | (with_reducible refine ValS.andMU64 ?_ ?_; omega) | (with_reducible refine ValS.shrU64_L ?_ ?_ ; omega) | (with_reducible refine ValS.shlU64_L ?_ ?_ ?_ ; omega; omega))) | (refine LdG.keep ?_; first | refine LdG.lN cok 0 rfl rfl rfl rfl rfl (by first | exact Nat.le_of_ble_eq_true rfl | omega | (dsimp only; omega) | (simp only [addS_eq, mulS_eq]; omega)) ?_) | (refine OpG.keep ?_; first | refine OpG.sL cok 0 rfl rfl rfl rfl rfl rfl rfl (by first | exact Nat.le_of_ble_eq_true rfl | omega | (dsimp only; omega) | (simp only [addS_eq, mulS_eq]; omega)) ?_))
  exact Fin.drop G [_, _] ⟨rfl, rfl⟩
end Go.Proofs.YgvafwGreat
