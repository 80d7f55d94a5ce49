import Derived.Test.YgvafwGreatK9
set_option maxRecDepth 100000
set_option maxHeartbeats 8000000
set_option linter.unusedVariables false
set_option linter.unusedSimpArgs false
-- v2
-- plus: (refine QuG.keep ?_; fail "none")
namespace Go.Proofs.YgvafwGreat
open Go.HL Go.Proofs

def ioN (A : Nat → Bool) (cst k : Nat) : Bool := if k < 64 then A k != decide (cst / 2 ^ k % 2 = 1) else A k
/-- kmodel.iota0 -/
theorem kIota {I : Ent → Prop} {G : List Ent} {ab sz i : Nat} {T : TypeId} {c : Nat → Value} {A : Nat → Bool} (hsz : 1600 ≤ sz) (hA : BB c 1600 A) (hi : i < 24) :
    CallG Hvaf.prog 402 #[ptr ab 0, .int .u8 (i : Nat)] ⟨I, ⟨ab, sz, T, c⟩ :: G⟩ fun r S' => ∃ c', S' = ⟨I, ⟨ab, sz, T, c'⟩ :: G⟩ ∧ BB c' 1600 (ioN A (cstN (7 * i) 7 0)) := by
  have hcs := fun (S : St) => kConst (S := S) hi
  have hlast := cstN_lt (7 * i) 7 0 (by decide)
  generalize cstN (7 * i) 7 0 = cst at *
  refine CallG.start (C := mkC Hvaf.prog) cok (args := [ptr ab 0, .int .u8 (i : Nat)]) Hvaf.func402 rfl Hvaf.ntmps402 (by simp) (by kernel_rfl) ?_
  skip
  refine (hcs _).mono ?_
  rintro r _ - ⟨rfl, rfl⟩
  repeat (first | refine SeqS.go cok ?_)
  refine W.loopE cok (by kernel_rfl) 0 (fun (z : Nat) e' S' => ∃ c', S' = ⟨I, ⟨ab, sz, T, c'⟩ :: G⟩ ∧ z ≤ 64 ∧ BB c' 1600 (fun k => if k < z then ioN A cst k else A k) ∧ slots [(0, ptr ab 0), (4, .int .u64 (cst : Nat)), (8, .int .i64 (z : Nat))] e') (fun z => 64 - z) 0
    ⟨c, rfl, by decide, hA.ext (fun i hi => by rw [if_neg (Nat.not_lt_zero _)]), rfl, rfl, rfl, trivial⟩
    (fun e' S' => ∃ c', S' = ⟨I, ⟨ab, sz, T, c'⟩ :: G⟩ ∧ BB c' 1600 (ioN A cst)) ?_ ?_
  · rintro e' S2 - ⟨c2, rfl, h2⟩
    skip
    exact Fin.same ⟨c2, rfl, h2⟩
  · rintro z e' S2 - ⟨c2, rfl, hz, h2, hsl⟩
    refine W.slots _ hsl fun e => ?_
    clear hA
    have hdz : cst / 2 ^ z < 18446744073709551616 := Nat.lt_of_le_of_lt (Nat.div_le_self _ _) hlast
    by_cases hz64 : z < 64
    · repeat (first | (refine QuG.keep ?_; first | refine QuG.bb cok 0 rfl (by assumption) rfl rfl rfl rfl (by simp only [addS_eq, mulS_eq]; omega) (by omega) ?_) | refine SeqS.go cok ?_ | refine And.intro (by omega) ?_ | refine And.intro (by dsimp only; omega) ?_ | (refine NatS.keep ?_; first | with_reducible refine NatS.lit ?_ | with_reducible refine NatS.nat ?_) | (refine ValS.keep ?_; first | (with_reducible refine ValS.kI64 ?_; first | (with_reducible refine ValS.addI64_L ?_ ?_ ; omega)) | (with_reducible refine ValS.kU64 ?_; first | (with_reducible refine ValS.and1U64 ?_ ?_; omega) | (with_reducible refine ValS.shrU64 ?_ ?_ ; omega))) | (refine still_in ?_; first | refine still_drop (by decide) ?_) | (refine OpG.keep ?_; first | refine OpG.s1 cok 0 rfl rfl rfl rfl rfl (by first | exact Nat.le_of_ble_eq_true rfl | omega | (dsimp only; omega) | (simp only [addS_eq, mulS_eq]; omega)) rfl rfl ?_) | refine W.drawI 4 cok [0, 0, 0, 0, 4, 20, 52, 124, 252, 0, 0, 1536, 3584, 7680, 16380, 1, 32769, 98305, 262143, 524287] [0, 1, 2, 3, 4, 5, 6, 7, 8, 9, 10, 11, 12, 13, 14, 15, 16, 17, 18, 19] [8] (by kernel_rfl) (by kernel_rfl) ?_ | (refine QuG.keep ?_; first | refine QuG.neB cok rfl rfl rfl rfl ?_) | (refine CondS.keep ?_; first | refine CondS.d1 rfl (by omega) ?_))
      refine ⟨z + 1, ⟨_, rfl, hz64, h2.upd ?_, rfl, rfl, rfl, trivial⟩, by show 64 - (z + 1) < 64 - z; omega⟩
      intro k hk
      simp only [addS_eq, mulS_eq]
      by_cases hkz : k = 0 + 0 * 320 + 0 * 64 + z * 1
      · have hkz2 : k = z := by omega
        subst hkz2
        rw [if_pos hkz, if_pos (Nat.lt_succ_self k), if_neg (by omega), ioN, if_pos hz64, show 0 + 0 * 320 + 0 * 64 + k * 1 = k by omega]
        congr 1
        rw [Bool.eq_iff_iff]
        simp only [decide_eq_true_eq, beq_iff_eq]
        omega
      · rw [if_neg hkz]
        by_cases hlt : k < z
        · rw [if_pos hlt, if_pos (by omega)]
        · rw [if_neg hlt, if_neg (by omega)]
    · repeat (first | refine SeqS.go cok ?_ | (refine CondS.keep ?_; first | refine CondS.d0 rfl (by omega) ?_))
      exact ⟨c2, rfl, h2.ext (fun k hk => by
        by_cases hk64 : k < z
        · rw [if_pos hk64]
        · rw [if_neg hk64, ioN, if_neg (by omega)])⟩
end Go.Proofs.YgvafwGreat
