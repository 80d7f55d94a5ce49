import Derived.Test.YgvafwGreatV6b
set_option exponentiation.threshold 1000
set_option maxRecDepth 100000
set_option maxHeartbeats 4000000
set_option linter.unusedVariables false
set_option linter.unusedSimpArgs false
-- v2
-- v4
-- v5
-- v6
-- v7
-- still: exact QuV.of (QuG.elS cok hE (hrd4 _ _ _ _) rfl rfl rfl rfl elO hi' (by decide) hev rfl)
-- still: exact QuV.of (QuG.elS cok hE (hrd4 _ _ _ _) rfl rfl rfl rfl elO hi' (by decide) heo rfl)
-- still: exact QuV.of (QuG.elF cok hE (hrd4 _ _ _ _) rfl rfl rfl rfl elO hi' (by decide) hew rfl)
namespace Go.Proofs.YgvafwGreat
open Go.HL Go.Proofs

theorem elO {o i k p : Nat} : addS o (mulS i k) + p = o + i * k + p := by simp only [addS_eq, mulS_eq]
/-- vault.Vault.Peek -/
theorem vPeek {I : Ent → Prop} {R G : List Ent} {cb sz key : Nat} {T : TypeId} {c : Nat → Value} {V : Vl} {a : List Nat} (hsz : 27019 ≤ sz) (hV : VI I c V G) (hO : VOk V) (ha : AdOk a) (h0 : V.ix a = 0) (h1 : 0 < V.ac.length) (hk : key < 115792089237316195423570985008687907853269984665640564039457584007913129639936) :
    CallG Hvaf.prog 314 #[ptr cb 2435, bytesV a, wordV key] ⟨I, ⟨cb, sz, T, c⟩ :: (R ++ G)⟩ fun r S' => ⟨I, ⟨cb, sz, T, c⟩ :: (R ++ G)⟩ = S' ∧ r = .tuple #[wordV (V.slt key).val, wordV (V.slt key).orig, .bool (V.slt key).warm] := by
  have hal := ha.len
  have hab := ha.bv
  have hln := hO.sln
  have hbl : (wcs key).length = 4 := rfl
  have hps := vPeekSlot (R := R) (cb := cb) (T := T) hsz hV hO ha h0 h1 hk
  by_cases hi : V.is key < V.sl.length
  · rw [if_pos hi] at hps
    have hi' : V.is key < (V.sl.map VSl.enc).length := by rw [List.length_map]; exact hi
    obtain ⟨x, cap', hxG, hf', hE⟩ := hV.slc.2 (by omega)
    have hrd4 : ∀ (a b d e : Ent), Rd ⟨I, a :: b :: d :: e :: (⟨cb, sz, T, c⟩ :: (R ++ G))⟩ x := fun _ _ _ _ => .inr (by simp [hxG])
    have hev : (((V.sl.map VSl.enc).getD (V.is key) []).drop 5).take 4 = wcs (V.slt key).val := by
      rw [getD_map (d := dVS) hi]; rfl
    have heo : (((V.sl.map VSl.enc).getD (V.is key) []).drop 9).take 4 = wcs (V.slt key).orig := by
      rw [getD_map (d := dVS) hi]; rfl
    have hew : ((V.sl.map VSl.enc).getD (V.is key) []).getD 13 undef = .bool (V.slt key).warm := by
      rw [getD_map (d := dVS) hi]; rfl
    have lv : (wcs (V.slt key).val).length = 4 := rfl
    have lo : (wcs (V.slt key).orig).length = 4 := rfl
    have ov := wcs_one (V.slt key).val
    have oo := wcs_one (V.slt key).orig
    rw [← wcs_word (V.slt key).val, ← wcs_word (V.slt key).orig]
    generalize wcs (V.slt key).val = vv at *
    generalize wcs (V.slt key).orig = vo at *
    generalize V.slt key = ys at *
    generalize V.is key = i at *
    rw [← wcs_word] at *
    generalize wcs key = kv at *
    refine CallG.start (C := mkC Hvaf.prog) cok (args := [ptr cb 2435, bytesV a, .agg kv.toArray]) Hvaf.func314 rfl Hvaf.ntmps314 (by simp) (by kernel_rfl) ?_
    intro xb kb rb ob
    repeat (first | (refine QuG.keep ?_; first | refine QuG.boxL cok 2 rfl rfl rfl rfl rfl (by assumption) ?_ | refine QuG.boxL cok 3 rfl rfl rfl rfl rfl (by assumption) ?_) | refine SeqS.go cok ?_)
    refine CallG.sameL [_, _, _, _] hps ?_
    repeat (first | (refine QuG.keep ?_; first | refine QuG.elS cok hE (hrd4 _ _ _ _) rfl rfl rfl rfl elO hi' (by decide) hev ?_ | refine QuG.elS cok hE (hrd4 _ _ _ _) rfl rfl rfl rfl elO hi' (by decide) heo ?_ | refine QuG.elF cok hE (hrd4 _ _ _ _) rfl rfl rfl rfl elO hi' (by decide) hew ?_) | (refine QuG.keep ?_; first | refine QuG.l1E cok 4 rfl rfl rfl rfl rfl (by first | exact Nat.le_of_ble_eq_true rfl | omega | (dsimp only; omega) | (simp only [addS_eq, mulS_eq]; omega)) (by assumption) ?_) | (refine OpG.keep ?_; first | refine OpG.upS cok 0 rfl rfl rfl rfl rfl (by assumption) (by first | assumption | exact one_bvs _) (by first | exact Nat.le_of_ble_eq_true rfl | omega) ?_ | refine OpG.upS cok 1 rfl rfl rfl rfl rfl (by assumption) (by first | assumption | exact one_bvs _) (by first | exact Nat.le_of_ble_eq_true rfl | omega) ?_) | (refine LdG.keep ?_; first | refine LdG.upL cok 0 rfl rfl rfl rfl rfl rfl (by assumption) (by first | exact Nat.le_of_ble_eq_true rfl | omega) ?_ | refine LdG.upL cok 1 rfl rfl rfl rfl rfl rfl (by assumption) (by first | exact Nat.le_of_ble_eq_true rfl | omega) ?_) | refine SeqS.go cok ?_ | refine CondS.t rfl ?_ | refine And.intro (by omega) ?_ | (refine NatS.keep ?_; first | with_reducible refine NatS.nat ?_) | (refine still_in ?_; first | refine still_drop (by decide) ?_ | (refine still_keep (by decide) rfl ?_ ?_; first | exact QuV.of (QuG.elS cok hE (hrd4 _ _ _ _) rfl rfl rfl rfl elO hi' (by decide) heo rfl) | exact QuV.of (QuG.elF cok hE (hrd4 _ _ _ _) rfl rfl rfl rfl elO hi' (by decide) hew rfl))) | refine W.drawI 4 cok [0, 1, 3, 7, 0, 16, 48, 112, 0, 256, 768, 1792, 15, 4351, 16383] [0, 1, 2, 3, 4, 5, 6, 7, 8, 9, 10, 11, 12, 13, 14] [3, 7, 11] (by kernel_rfl) (by kernel_rfl) ?_)
    exact Fin.drop (⟨cb, sz, T, c⟩ :: (R ++ G)) [_, _, _, _] ⟨rfl, rfl⟩
  · rw [if_neg hi] at hps
    rw [Vl.sltN hi]
    rw [← wcs_word key] at *
    generalize wcs key = kv at *
    refine CallG.start (C := mkC Hvaf.prog) cok (args := [ptr cb 2435, bytesV a, .agg kv.toArray]) Hvaf.func314 rfl Hvaf.ntmps314 (by simp) (by kernel_rfl) ?_
    intro xb kb rb ob
    repeat (first | (refine QuG.keep ?_; first | refine QuG.boxL cok 2 rfl rfl rfl rfl rfl (by assumption) ?_ | refine QuG.boxL cok 3 rfl rfl rfl rfl rfl (by assumption) ?_) | refine SeqS.go cok ?_)
    refine CallG.sameL [_, _, _, _] hps ?_
    repeat (first | refine SeqS.go cok ?_ | refine CondS.f rfl ?_ | refine And.intro (fillOk_of (Eq.refl true)) ?_ | (refine LdG.keep ?_; first | refine LdG.lN cok 0 rfl rfl rfl rfl rfl (by first | exact Nat.le_of_ble_eq_true rfl | omega | (dsimp only; omega) | (simp only [addS_eq, mulS_eq]; omega)) ?_ | refine LdG.lN cok 1 rfl rfl rfl rfl rfl (by first | exact Nat.le_of_ble_eq_true rfl | omega | (dsimp only; omega) | (simp only [addS_eq, mulS_eq]; omega)) ?_) | (refine OpG.keep ?_; first | refine OpG.sL cok 0 rfl rfl rfl rfl rfl rfl rfl (by first | exact Nat.le_of_ble_eq_true rfl | omega | (dsimp only; omega) | (simp only [addS_eq, mulS_eq]; omega)) ?_ | refine OpG.sL cok 1 rfl rfl rfl rfl rfl rfl rfl (by first | exact Nat.le_of_ble_eq_true rfl | omega | (dsimp only; omega) | (simp only [addS_eq, mulS_eq]; omega)) ?_))
    exact Fin.drop (⟨cb, sz, T, c⟩ :: (R ++ G)) [_, _, _, _] ⟨rfl, rfl⟩
end Go.Proofs.YgvafwGreat
