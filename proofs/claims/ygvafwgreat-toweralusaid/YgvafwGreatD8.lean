import Derived.Test.YgvafwGreatD7
set_option maxRecDepth 100000
set_option maxHeartbeats 4000000
set_option linter.unusedVariables false
set_option linter.unusedSimpArgs false
-- v2
-- v3
namespace Go.Proofs.YgvafwGreat
open Go.HL Go.Proofs

/-- u256.DivMid -/
theorem DivMid_spec {I : Ent → Prop} {G : List Ent} {bu bv n j v0 v1 v2 v3 : Nat} {Tu Tv : TypeId} {cu cv : Nat → Value} {U : List Nat} (hU : Lim U) (hV : Lim [v0, v1, v2, v3]) (hl : U.length = 9) (hn : 2 ≤ n) (hn4 : n ≤ 4) (hj : j + n ≤ 8) (hnl : nlimbs v0 v1 v2 v3 = n)
    (ht : 9223372036854775808 ≤ [v0, v1, v2, v3].getD (n - 1) 0) (hz : ∀ i, j + n < i → U.getD i 0 = 0) (hlt : lv ((U.drop (j + 1)).take n) < lv ([v0, v1, v2, v3].take n)) :
    CallG Hvaf.prog 438 #[ptr bu 0, ptr bv 0, .int .u8 (n : Nat), .int .u8 (j : Nat)] ⟨I, ⟨bu, 9, Tu, updN cu 0 (ivs .u64 U)⟩ :: ⟨bv, 4, Tv, updN cv 0 (ivs .u64 [v0, v1, v2, v3])⟩ :: G⟩ fun r S' =>
      ⟨I, ⟨bu, 9, Tu, updN cu 0 (ivs .u64 U)⟩ :: ⟨bv, 4, Tv, updN cv 0 (ivs .u64 [v0, v1, v2, v3])⟩ :: G⟩ = S' ∧ r = .bool true := by
  have hmid := midHolds_spec (I := I) (G := G) (bu := bu) (su := 9) (ou := 0) (pu := 9) (bv := bv) (sv := 4) (ov := 0) (pv := 4) (Tu := Tu) (Tv := Tv) (cu := cu) (cv := cv) hU hV (by omega) (by omega) (show n ≤ 4 from hn4) (by show 4 < 64; decide) (by omega) (by omega) (by show 0 + 4 ≤ 4; decide) ht hz hlt
  rw [hl] at hmid
  replace ht : Hid _ := ⟨ht⟩
  replace hlt : Hid _ := ⟨hlt⟩
  refine CallG.start (C := mkC Hvaf.prog) cok (args := [ptr bu 0, ptr bv 0, .int .u8 (n : Nat), .int .u8 (j : Nat)]) Hvaf.func438 rfl Hvaf.ntmps438 (by simp) (by kernel_rfl) ?_
  repeat (first | refine SeqS.go cok ?_ | refine GuardS.yes rfl ?_ | (refine ValS.keep ?_; first | (with_reducible refine ValS.kU8 ?_; first | (with_reducible refine ValS.subU8_M ?_ ?_ ?_ ; omega; omega))) | (refine QuG.keep ?_; first | refine QuG.lN cok 1 rfl rfl rfl rfl rfl (by first | exact Nat.le_of_ble_eq_true rfl | omega | (dsimp only; omega) | (simp only [addS_eq, mulS_eq]; omega)) ?_) | (refine GuardS.keep ?_; first | refine GuardS.F0 rfl (by omega) ?_))
  refine (ULimbs_spec (a := v0) (b := v1) (c := v2) (d := v3)).mono ?_
  rintro r _ - ⟨rfl, rfl⟩
  repeat (first | refine SeqS.go cok ?_ | refine GuardS.yes rfl ?_ | refine And.intro (Eq.refl true) ?_ | (refine ValS.keep ?_; first | with_reducible refine ValS.sl0 ?_) | refine W.drawI 3 cok [0, 1, 3, 0, 8, 24, 0, 0, 255, 511] [0, 1, 2, 3, 4, 5, 6, 7, 8, 9] [] (by kernel_rfl) (by kernel_rfl) ?_ | (refine CondS.keep ?_; first | refine CondS.nd0 rfl (by omega) ?_))
  refine hmid.mono ?_
  rintro r _ - ⟨rfl, rfl⟩
  repeat (first | refine SeqS.go cok ?_)
  exact Fin.same ⟨rfl, rfl⟩
end Go.Proofs.YgvafwGreat
