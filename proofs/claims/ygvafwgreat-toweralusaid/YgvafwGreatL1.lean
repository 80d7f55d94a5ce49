import Derived.Test.YgvafwGreatY19
import Derived.Test.YgvafwGreatY13
set_option maxRecDepth 100000
set_option maxHeartbeats 4000000
set_option linter.unusedVariables false
set_option linter.unusedSimpArgs false
-- v2
-- v4
-- v5
-- v6
-- v7
namespace Go.Proofs.YgvafwGreat
open Go.HL Go.Proofs

/-- The address n. -/
abbrev ad1 (n : Nat) : List Nat := [0, 0, 0, 0, 0, 0, 0, 0, 0, 0, 0, 0, 0, 0, 0, 0, 0, 0, 0, n]
/-- law.addrNo -/
theorem lAddrNo {S : St} {n : Nat} (h : n < 256) : CallG Hvaf.prog 16 #[.int .u8 (n : Nat)] S fun r S' => S = S' ∧ r = bytesV (ad1 n) := by
  refine CallG.start (C := mkC Hvaf.prog) cok (args := [.int .u8 (n : Nat)]) Hvaf.func16 rfl Hvaf.ntmps16 (by simp) (by kernel_rfl) ?_
  intro b
  repeat (first | refine SeqS.go cok ?_ | refine And.intro (fillOk_of (Eq.refl true)) ?_ | (refine LdG.keep ?_; first | refine LdG.lN cok 0 rfl rfl rfl rfl rfl (by first | exact Nat.le_of_ble_eq_true rfl | omega | (dsimp only; omega) | (simp only [addS_eq, mulS_eq]; omega)) ?_) | (refine OpG.keep ?_; first | refine OpG.sL cok 0 rfl rfl rfl rfl rfl rfl rfl (by first | exact Nat.le_of_ble_eq_true rfl | omega | (dsimp only; omega) | (simp only [addS_eq, mulS_eq]; omega)) ?_))
  exact Fin.drop S.G [_] ⟨rfl, rfl⟩
/-- law.sender -/
theorem lSender {S : St} : CallG Hvaf.prog 18 #[] S fun r S' => S = S' ∧ r = bytesV (ad1 240) := by
  refine CallG.start (C := mkC Hvaf.prog) cok (args := []) Hvaf.func18 rfl Hvaf.ntmps18 (by simp) (by kernel_rfl) ?_
  intro b
  repeat (first | refine SeqS.go cok ?_)
  refine (lAddrNo (n := 240) (by decide)).mono ?_
  rintro r _ - ⟨rfl, rfl⟩
  repeat (first | refine SeqS.go cok ?_ | (refine LdG.keep ?_; first | refine LdG.lN cok 0 rfl rfl rfl rfl rfl (by first | exact Nat.le_of_ble_eq_true rfl | omega | (dsimp only; omega) | (simp only [addS_eq, mulS_eq]; omega)) ?_) | (refine OpG.keep ?_; first | refine OpG.sL cok 0 rfl rfl rfl rfl rfl rfl rfl (by first | exact Nat.le_of_ble_eq_true rfl | omega | (dsimp only; omega) | (simp only [addS_eq, mulS_eq]; omega)) ?_))
  exact Fin.drop S.G [_] ⟨rfl, rfl⟩
abbrev z32 : List Nat := [0, 0, 0, 0, 0, 0, 0, 0, 0, 0, 0, 0, 0, 0, 0, 0, 0, 0, 0, 0, 0, 0, 0, 0, 0, 0, 0, 0, 0, 0, 0, 0]
/-- The cells of the transaction. -/
def txL (dv : Value) (gas : Nat) : List Value := bvs (ad1 240) ++ (bvs (ad1 1) ++ ([.bool false, .int .u64 0, .int .u64 (gas : Nat)] ++ (bvs z32 ++ (bvs z32 ++ ([dv, .bool false] ++ (bvs z32 ++ (bvs z32 ++ [.slice none 0 0])))))))
def txV (dv : Value) (gas : Nat) : Value := .agg (txL dv gas).toArray
def envL : List Value := bvs (ad1 192) ++ ([.int .u64 0, .int .u64 0, .int .u64 1048576] ++ (bvs z32 ++ (bvs z32 ++ (bvs z32 ++ [.slice none 0 0]))))
def envV : Value := .agg envL.toArray
/-- law.toA1 -/
theorem lToA1 {S : St} : CallG Hvaf.prog 8 #[] S fun r S' => S = S' ∧ r = txV (.slice none 0 0) 200000 := by
  refine CallG.start (C := mkC Hvaf.prog) cok (args := []) Hvaf.func8 rfl Hvaf.ntmps8 (by simp) (by kernel_rfl) ?_
  intro b
  repeat (first | refine SeqS.go cok ?_)
  refine lSender.mono ?_
  rintro r _ - ⟨rfl, rfl⟩
  skip
  refine (lAddrNo (n := 1) (by decide)).mono ?_
  rintro r _ - ⟨rfl, rfl⟩
  repeat (first | refine SeqS.go cok ?_ | refine And.intro (fillOk_of (Eq.refl true)) ?_ | refine And.intro (Eq.refl true) ?_ | (refine LdG.keep ?_; first | refine LdG.lN cok 0 rfl rfl rfl rfl rfl (by first | exact Nat.le_of_ble_eq_true rfl | omega | (dsimp only; omega) | (simp only [addS_eq, mulS_eq]; omega)) ?_) | (refine OpG.keep ?_; first | refine OpG.sL cok 0 rfl rfl rfl rfl rfl rfl rfl (by first | exact Nat.le_of_ble_eq_true rfl | omega | (dsimp only; omega) | (simp only [addS_eq, mulS_eq]; omega)) ?_))
  exact Fin.drop S.G [_] ⟨rfl, rfl⟩
/-- law.StageEnv -/
theorem lStageEnv {S : St} : CallG Hvaf.prog 7 #[] S fun r S' => S = S' ∧ r = envV := by
  refine CallG.start (C := mkC Hvaf.prog) cok (args := []) Hvaf.func7 rfl Hvaf.ntmps7 (by simp) (by kernel_rfl) ?_
  intro b
  repeat (first | refine SeqS.go cok ?_)
  refine (lAddrNo (n := 192) (by decide)).mono ?_
  rintro r _ - ⟨rfl, rfl⟩
  repeat (first | refine SeqS.go cok ?_ | refine And.intro (fillOk_of (Eq.refl true)) ?_ | refine And.intro (Eq.refl true) ?_ | (refine LdG.keep ?_; first | refine LdG.lN cok 0 rfl rfl rfl rfl rfl (by first | exact Nat.le_of_ble_eq_true rfl | omega | (dsimp only; omega) | (simp only [addS_eq, mulS_eq]; omega)) ?_) | (refine OpG.keep ?_; first | refine OpG.sL cok 0 rfl rfl rfl rfl rfl rfl rfl (by first | exact Nat.le_of_ble_eq_true rfl | omega | (dsimp only; omega) | (simp only [addS_eq, mulS_eq]; omega)) ?_))
  exact Fin.drop S.G [_] ⟨rfl, rfl⟩
end Go.Proofs.YgvafwGreat
