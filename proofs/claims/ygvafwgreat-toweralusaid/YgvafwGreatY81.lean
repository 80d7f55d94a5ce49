import Derived.Test.YgvafwGreatY79
set_option exponentiation.threshold 1000
set_option maxRecDepth 100000
set_option maxHeartbeats 4000000
set_option linter.unusedVariables false
set_option linter.unusedSimpArgs false
-- v2
-- v4
-- v5
-- v6
-- v7
-- still: exact QuV.of (QuG.upC cok 2 rfl rfl rfl rfl rfl rfl (by first | exact Nat.le_of_ble_eq_true rfl | omega) (by first | exact Nat.le_of_ble_eq_true rfl | omega) (by assumption) rfl)
namespace Go.Proofs.YgvafwGreat
open Go.HL Go.Proofs

/-- yp.State.verdict: played -/
theorem yVerdict0 {I : Ent → Prop} {G : List Ent} {sb ssz gas dc : Nat} {Ts : TypeId} {cs : Nat → Value} {da : Option Addr} {ds : List Nat} {al : List YA} (hsz : 179 ≤ ssz) (hE : Row cs 146 (bvs z32)) (hph : cs 11 = .int .u8 0) (hap : cs 13 = .int .u8 0) (hgl : cs 81 = .int .u64 1048576) (hA : AcctsI I (cs 0) al) (hal : al.length < 2 ^ 20) (hn0 : (getA al (ad1 240)).nonce = 0) (hc0 : (getA al (ad1 240)).code = []) (hNd : Byt ⟨I, []⟩ (.slice da ds.length dc) ds) (hg64 : gas < 2 ^ 64) (hg : gas ≤ 1048576) (hd : ds.length ≤ 1024) (hi : intN ds ≤ gas) :
    CallG Hvaf.prog 52 #[ptr sb 0, txV (.slice da ds.length dc) gas] ⟨I, ⟨sb, ssz, Ts, cs⟩ :: G⟩ fun r S' => S'.G = ⟨sb, ssz, Ts, cs⟩ :: G ∧ r = .int .u8 0 := by
  have hbf := fun (I : Ent → Prop) (G : List Ent) => yBaseFee2 (I := I) (G := G) (sb := sb) (Ts := Ts) hsz hE
  have hac := fun (G : List Ent) => yAccountF (G := G) (wb := sb) (sz := ssz) (T := Ts) (a := ad1 240) (by omega) hA ⟨rfl, by decide⟩ (by omega)
  have hUg := fun (I : Ent → Prop) (G : List Ent) => yNum (I := I) (G := G) (n := gas) (by omega)
  have hU20 := fun (I : Ent → Prop) (G : List Ent) => yNum (I := I) (G := G) (n := 1048576) (by decide)
  have hU0 := fun (I : Ent → Prop) (G : List Ent) => yNum (I := I) (G := G) (n := 0) (by decide)
  have hUm := fun (I : Ent → Prop) (G : List Ent) => yNum (I := I) (G := G) (n := 18446744073709551615) (by decide)
  have hl47 := hNd.2.1
  refine CallG.start (C := mkC Hvaf.prog) cok (args := [ptr sb 0, txV (.slice da ds.length dc) gas]) Hvaf.func52 rfl Hvaf.ntmps52 (by simp) (by kernel_rfl) ?_
  intro b3
  repeat (first | refine SeqS.go cok ?_ | (refine QuG.keep ?_; first | refine QuG.lN cok 0 rfl rfl rfl rfl rfl (by first | exact Nat.le_of_ble_eq_true rfl | omega | (dsimp only; omega) | (simp only [addS_eq, mulS_eq]; omega)) ?_) | refine W.drawI 1 cok [0, 1, 3, 0, 8, 31, 0, 127] [0, 1, 2, 3, 4, 5, 6, 7] [4] (by kernel_rfl) (by kernel_rfl) ?_)
  refine CallG.behind [_] (hac _) ?_
  rintro r J1 _ hs1 ⟨e, l, nv, bv, ca, cc, rfl, hF⟩
  cases e
  have q0 := hF.len
  have q1 := hF.one
  have q2 := hF.c20
  have q3 := hF.c21
  have q4 := hF.c22
  rw [hc0] at q4
  have hNn := hF.n
  rw [hn0] at hNn
  have hNb := hF.b
  try replace hNd := hNd.up hs0
  repeat (first | (refine still_in ?_; first | refine still_nil ?_ | refine still_drop (by decide) ?_))
  intro b5
  repeat (first | (refine OpG.keep ?_; first | refine OpG.upS cok 0 rfl rfl rfl rfl rfl (by assumption) (by first | assumption | exact one_bvs _) (by first | exact Nat.le_of_ble_eq_true rfl | omega) ?_) | refine SeqS.go cok ?_ | (refine QuG.keep ?_; first | refine QuG.l1 cok 1 rfl rfl rfl rfl rfl (by first | exact Nat.le_of_ble_eq_true rfl | omega | (dsimp only; omega) | (simp only [addS_eq, mulS_eq]; omega)) ?_) | (refine still_in ?_; first | refine still_drop (by decide) ?_))
  refine callN (hUg _ _) ?_
  intro rhNg I hshNg hNg
  try replace hNd := hNd.up hshNg
  try replace hNn := hNn.up hshNg
  try replace hNb := hNb.up hshNg
  repeat (first | refine SeqS.go cok ?_)
  refine CallG.behind [_] (yFees (Nat.le_of_ble_eq_true rfl)) ?_
  rintro r J3 _ hs3 ⟨e, rfl⟩
  cases e
  skip
  intro b7 b8
  repeat (first | refine SeqS.go cok ?_ | refine And.intro (Eq.refl true) ?_ | (refine ValS.keep ?_; first | with_reducible refine ValS.sl0 ?_) | (refine OpG.keep ?_; first | refine OpG.sL cok 0 rfl rfl rfl rfl rfl rfl rfl (by first | exact Nat.le_of_ble_eq_true rfl | omega | (dsimp only; omega) | (simp only [addS_eq, mulS_eq]; omega)) ?_ | refine OpG.sL cok 1 rfl rfl rfl rfl rfl rfl rfl (by first | exact Nat.le_of_ble_eq_true rfl | omega | (dsimp only; omega) | (simp only [addS_eq, mulS_eq]; omega)) ?_))
  refine callN (yZeroBE (own_z32 (List.mem_cons_of_mem _ List.mem_cons_self) rfl (Nat.le_of_ble_eq_true rfl))) ?_
  intro rhNm I hshNm hNm
  try replace hNd := hNd.up hshNm
  try replace hNn := hNn.up hshNm
  try replace hNb := hNb.up hshNm
  try replace hNg := hNg.up hshNm
  repeat (first | refine SeqS.go cok ?_ | refine And.intro (Eq.refl true) ?_ | (refine ValS.keep ?_; first | with_reducible refine ValS.sl0 ?_) | refine W.drawI 5 cok [0, 0, 3, 0, 8, 31, 63, 127] [0, 1, 3, 4, 2, 5, 6, 7] [] (by kernel_rfl) (by kernel_rfl) ?_)
  refine callN (nMul hNg hNm (NB_p (by rw [Nat.mul_zero]; decide +kernel))) ?_
  intro rhNp I hshNp hNp
  try replace hNd := hNd.up hshNp
  try replace hNn := hNn.up hshNp
  try replace hNb := hNb.up hshNp
  try replace hNg := hNg.up hshNp
  try replace hNm := hNm.up hshNp
  repeat (first | (refine still_in ?_; first | refine still_nil ?_))
  refine callN (yZeroBE (box_b (l := txL (.slice da ds.length dc) gas) (p := 75) (m := 32) (List.mem_cons_of_mem _ (List.mem_cons_of_mem _ (List.mem_cons_of_mem _ List.mem_cons_self))) rfl rfl (by decide) (by decide) (Nat.le_of_ble_eq_true rfl))) ?_
  intro rhNv I hshNv hNv
  try replace hNd := hNd.up hshNv
  try replace hNn := hNn.up hshNv
  try replace hNb := hNb.up hshNv
  try replace hNg := hNg.up hshNv
  try replace hNm := hNm.up hshNv
  try replace hNp := hNp.up hshNv
  repeat (first | (refine still_in ?_; first | refine still_nil ?_))
  refine callN (nAdd hNp hNv (NB_p (by rw [Nat.mul_zero]; decide +kernel))) ?_
  intro rhNe I hshNe hNe
  try replace hNd := hNd.up hshNe
  try replace hNn := hNn.up hshNe
  try replace hNb := hNb.up hshNe
  try replace hNg := hNg.up hshNe
  try replace hNm := hNm.up hshNe
  try replace hNp := hNp.up hshNe
  try replace hNv := hNv.up hshNe
  repeat (first | (refine QuG.keep ?_; first | refine QuG.l1E cok 4 rfl rfl rfl rfl rfl (by first | exact Nat.le_of_ble_eq_true rfl | omega | (dsimp only; omega) | (simp only [addS_eq, mulS_eq]; omega)) (by assumption) ?_) | refine SeqS.go cok ?_ | refine CondS.f rfl ?_)
  refine callN (hU20 _ _) ?_
  intro rhNx I hshNx hNx
  try replace hNd := hNd.up hshNx
  try replace hNn := hNn.up hshNx
  try replace hNb := hNb.up hshNx
  try replace hNg := hNg.up hshNx
  try replace hNm := hNm.up hshNx
  try replace hNp := hNp.up hshNx
  try replace hNv := hNv.up hshNx
  try replace hNe := hNe.up hshNx
  skip
  refine (nCmpLe hNg hNx hg).mono ?_
  rintro r _ - ⟨rfl, z, hz1, hz2, rfl⟩
  repeat (first | refine GuardS.yes rfl ?_ | (refine QuG.keep ?_; first | refine QuG.l1 cok 3 rfl rfl rfl rfl rfl (by first | exact Nat.le_of_ble_eq_true rfl | omega | (dsimp only; omega) | (simp only [addS_eq, mulS_eq]; omega)) ?_) | (refine GuardS.keep ?_; first | refine GuardS.F0 rfl (by omega) ?_))
  refine CallG.behind [_, _, _] (yListOK (Nat.le_of_ble_eq_true rfl)) ?_
  rintro r J4 _ hs4 ⟨e, rfl⟩
  cases e
  repeat (first | (refine QuG.keep ?_; first | refine QuG.upC cok 2 rfl rfl rfl rfl rfl rfl (by first | exact Nat.le_of_ble_eq_true rfl | omega) (by first | exact Nat.le_of_ble_eq_true rfl | omega) (by assumption) ?_) | refine SeqS.go cok ?_ | refine GuardS.yes rfl ?_ | refine CondS.f rfl ?_ | (refine QuG.keep ?_; first | refine QuG.l1 cok 3 rfl rfl rfl rfl rfl (by first | exact Nat.le_of_ble_eq_true rfl | omega | (dsimp only; omega) | (simp only [addS_eq, mulS_eq]; omega)) ?_) | refine W.drawI 12 cok [0, 1, 3, 0, 8, 31, 63, 127] [0, 1, 3, 4, 2, 5, 6, 7] [1, 4] (by kernel_rfl) (by kernel_rfl) ?_)
  refine callN (hU0 _ _) ?_
  intro rhNz I hshNz hNz
  try replace hNd := hNd.up hshNz
  try replace hNn := hNn.up hshNz
  try replace hNb := hNb.up hshNz
  try replace hNg := hNg.up hshNz
  try replace hNm := hNm.up hshNz
  try replace hNp := hNp.up hshNz
  try replace hNv := hNv.up hshNz
  try replace hNe := hNe.up hshNz
  try replace hNx := hNx.up hshNz
  repeat (first | (refine still_in ?_; first | refine still_nil ?_ | refine still_drop (by decide) ?_ | (refine still_keep (by decide) rfl ?_ ?_; first | exact QuV.of (QuG.upC cok 2 rfl rfl rfl rfl rfl rfl (by first | exact Nat.le_of_ble_eq_true rfl | omega) (by first | exact Nat.le_of_ble_eq_true rfl | omega) (by assumption) rfl))))
  refine (nCmpE hNz hNn rfl).mono ?_
  rintro r _ - ⟨rfl, rfl⟩
  repeat (first | (refine QuG.keep ?_; first | refine QuG.upC cok 2 rfl rfl rfl rfl rfl rfl (by first | exact Nat.le_of_ble_eq_true rfl | omega) (by first | exact Nat.le_of_ble_eq_true rfl | omega) (by assumption) ?_) | refine SeqS.go cok ?_ | refine CondS.f rfl ?_ | (refine still_in ?_; first | refine still_drop (by decide) ?_) | refine W.drawI 14 cok [0, 1, 0, 7, 15, 31] [0, 1, 2, 3, 4, 5] [1] (by kernel_rfl) (by kernel_rfl) ?_)
  refine callN (hUm _ _) ?_
  intro rhNy I hshNy hNy
  try replace hNd := hNd.up hshNy
  try replace hNn := hNn.up hshNy
  try replace hNb := hNb.up hshNy
  try replace hNg := hNg.up hshNy
  try replace hNm := hNm.up hshNy
  try replace hNp := hNp.up hshNy
  try replace hNv := hNv.up hshNy
  try replace hNe := hNe.up hshNy
  try replace hNx := hNx.up hshNy
  try replace hNz := hNz.up hshNy
  repeat (first | (refine still_in ?_; first | refine still_nil ?_ | (refine still_keep (by decide) rfl ?_ ?_; first | exact QuV.of (QuG.upC cok 2 rfl rfl rfl rfl rfl rfl (by first | exact Nat.le_of_ble_eq_true rfl | omega) (by first | exact Nat.le_of_ble_eq_true rfl | omega) (by assumption) rfl))))
  refine (nCmpL hNn hNy (by decide)).mono ?_
  rintro r _ - ⟨rfl, rfl⟩
  repeat (first | (refine QuG.keep ?_; first | refine QuG.upC cok 2 rfl rfl rfl rfl rfl rfl (by first | exact Nat.le_of_ble_eq_true rfl | omega) (by first | exact Nat.le_of_ble_eq_true rfl | omega) (by assumption) ?_) | refine SeqS.go cok ?_ | refine GuardS.no rfl ?_ | refine CondS.f rfl ?_ | (refine QuG.keep ?_; first | refine QuG.l1 cok 3 rfl rfl rfl rfl rfl (by first | exact Nat.le_of_ble_eq_true rfl | omega | (dsimp only; omega) | (simp only [addS_eq, mulS_eq]; omega)) ?_ | refine QuG.lN cok 3 rfl rfl rfl rfl rfl (by first | exact Nat.le_of_ble_eq_true rfl | omega | (dsimp only; omega) | (simp only [addS_eq, mulS_eq]; omega)) ?_) | (refine still_in ?_; first | refine still_drop (by decide) ?_))
  refine callN (yIntrinsic hNd hd) ?_
  intro rhNi I hshNi hNi
  try replace hNd := hNd.up hshNi
  try replace hNn := hNn.up hshNi
  try replace hNb := hNb.up hshNi
  try replace hNg := hNg.up hshNi
  try replace hNm := hNm.up hshNi
  try replace hNp := hNp.up hshNi
  try replace hNv := hNv.up hshNi
  try replace hNe := hNe.up hshNi
  try replace hNx := hNx.up hshNi
  try replace hNz := hNz.up hshNi
  try replace hNy := hNy.up hshNi
  skip
  refine (nCmpGe hNg hNi hi).mono ?_
  rintro r _ - ⟨rfl, z2, hz3, hz4, rfl⟩
  repeat (first | (refine QuG.keep ?_; first | refine QuG.l1E cok 4 rfl rfl rfl rfl rfl (by first | exact Nat.le_of_ble_eq_true rfl | omega | (dsimp only; omega) | (simp only [addS_eq, mulS_eq]; omega)) (by assumption) ?_) | refine SeqS.go cok ?_ | (refine CondS.keep ?_; first | refine CondS.d0 rfl (by omega) ?_))
  refine callN (hU20 _ _) ?_
  intro rhNw I hshNw hNw
  try replace hNd := hNd.up hshNw
  try replace hNn := hNn.up hshNw
  try replace hNb := hNb.up hshNw
  try replace hNg := hNg.up hshNw
  try replace hNm := hNm.up hshNw
  try replace hNp := hNp.up hshNw
  try replace hNv := hNv.up hshNw
  try replace hNe := hNe.up hshNw
  try replace hNx := hNx.up hshNw
  try replace hNz := hNz.up hshNw
  try replace hNy := hNy.up hshNw
  try replace hNi := hNi.up hshNw
  skip
  refine (nCmpLe hNg hNw hg).mono ?_
  rintro r _ - ⟨rfl, z3, hz5, hz6, rfl⟩
  repeat (first | (refine QuG.keep ?_; first | refine QuG.upC cok 2 rfl rfl rfl rfl rfl rfl (by first | exact Nat.le_of_ble_eq_true rfl | omega) (by first | exact Nat.le_of_ble_eq_true rfl | omega) (by assumption) ?_) | refine SeqS.go cok ?_ | (refine CondS.keep ?_; first | refine CondS.d0 rfl (by omega) ?_))
  refine (nCmpGe hNb hNe (by rw [Nat.mul_zero]; exact Nat.zero_le _)).mono ?_
  rintro r _ - ⟨rfl, z4, hz7, hz8, rfl⟩
  repeat (first | refine SeqS.go cok ?_ | refine And.intro (Eq.refl true) ?_ | (refine ValS.keep ?_; first | with_reducible refine ValS.sl0 ?_) | (refine CondS.keep ?_; first | refine CondS.d0 rfl (by omega) ?_))
  refine callN (yZeroBE (own_z32 List.mem_cons_self rfl (Nat.le_of_ble_eq_true rfl))) ?_
  intro rhNt I hshNt hNt
  try replace hNd := hNd.up hshNt
  try replace hNn := hNn.up hshNt
  try replace hNb := hNb.up hshNt
  try replace hNg := hNg.up hshNt
  try replace hNm := hNm.up hshNt
  try replace hNp := hNp.up hshNt
  try replace hNv := hNv.up hshNt
  try replace hNe := hNe.up hshNt
  try replace hNx := hNx.up hshNt
  try replace hNz := hNz.up hshNt
  try replace hNy := hNy.up hshNt
  try replace hNi := hNi.up hshNt
  try replace hNw := hNw.up hshNt
  skip
  refine (nCmpE hNt hNm rfl).mono ?_
  rintro r _ - ⟨rfl, rfl⟩
  repeat (first | refine SeqS.go cok ?_ | refine CondS.f rfl ?_)
  refine CallG.behind [_, _, _, _] (hbf _ _) ?_
  rintro r J9 _ hs9 ⟨e, hNq⟩
  cases e
  replace hs9 : HL.Sub _ J9 := hs9
  replace hNq : NatI J9 r 0 := hNq
  skip
  refine (nCmpE (hNm.up hs9) hNq rfl).mono ?_
  rintro r _ - ⟨rfl, rfl⟩
  repeat (first | refine SeqS.go cok ?_ | refine CondS.f rfl ?_)
  exact Fin.drop (⟨sb, ssz, Ts, cs⟩ :: G) [_, _, _, _] ⟨rfl, rfl⟩
end Go.Proofs.YgvafwGreat
