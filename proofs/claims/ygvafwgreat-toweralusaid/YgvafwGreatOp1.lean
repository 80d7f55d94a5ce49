import Derived.Test.YgvafwGreatNum3
set_option maxRecDepth 100000
set_option maxHeartbeats 4000000
set_option linter.unusedVariables false
set_option linter.unusedSimpArgs false
-- v2
namespace Go.Proofs.YgvafwGreat
open Go.HL Go.Proofs

/-- The bytes that a PUSH carries. -/
def immN (o : Nat) : Nat := if 95 < o ∧ o ≤ 127 then o - 95 else 0
/-- op.Imm -/
theorem Imm_spec {S : St} {o : Nat} (ho : o < 256) :
    CallG Hvaf.prog 161 #[.int .u8 (o : Nat)] S fun r S' => S = S' ∧ r = .int .u8 (immN o : Nat) := by
  unfold immN
  by_cases h1 : 95 < o
  · by_cases h2 : o ≤ 127
    · rw [if_pos ⟨h1, h2⟩]
      refine CallG.start (C := mkC Hvaf.prog) cok (args := [.int .u8 (o : Nat)]) Hvaf.func161 rfl Hvaf.ntmps161 (by simp) (by kernel_rfl) ?_
      repeat (first | refine SeqS.go cok ?_ | refine GuardS.yes rfl ?_ | (refine ValS.keep ?_; first | (with_reducible refine ValS.kU8 ?_; first | (with_reducible refine ValS.subU8_L ?_ ?_ ?_ ; omega; omega))) | (refine GuardS.keep ?_; first | refine GuardS.T1 rfl (by omega) ?_) | (refine CondS.keep ?_; first | refine CondS.d1 rfl (by omega) ?_))
      exact Fin.same ⟨rfl, rfl⟩
    · rw [if_neg (fun h => h2 h.2)]
      refine CallG.start (C := mkC Hvaf.prog) cok (args := [.int .u8 (o : Nat)]) Hvaf.func161 rfl Hvaf.ntmps161 (by simp) (by kernel_rfl) ?_
      repeat (first | refine SeqS.go cok ?_ | refine GuardS.yes rfl ?_ | (refine GuardS.keep ?_; first | refine GuardS.T1 rfl (by omega) ?_) | (refine CondS.keep ?_; first | refine CondS.d0 rfl (by omega) ?_))
      exact Fin.same ⟨rfl, rfl⟩
  · rw [if_neg (fun h => h1 h.1)]
    refine CallG.start (C := mkC Hvaf.prog) cok (args := [.int .u8 (o : Nat)]) Hvaf.func161 rfl Hvaf.ntmps161 (by simp) (by kernel_rfl) ?_
    repeat (first | refine SeqS.go cok ?_ | refine GuardS.no rfl ?_ | refine CondS.f rfl ?_ | (refine GuardS.keep ?_; first | refine GuardS.T0 rfl (by omega) ?_))
    exact Fin.same ⟨rfl, rfl⟩
end Go.Proofs.YgvafwGreat
