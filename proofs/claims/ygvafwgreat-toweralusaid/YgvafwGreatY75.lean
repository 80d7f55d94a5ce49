import Derived.Test.YgvafwGreatY74
set_option exponentiation.threshold 1000
set_option maxRecDepth 100000
set_option maxHeartbeats 4000000
set_option linter.unusedVariables false
set_option linter.unusedSimpArgs false
-- v2
-- v4
-- v5
-- v6
-- v7
-- plus: (refine QuG.keep ?_; refine QuG.bs cok hbs (hrd _) rfl rfl rfl rfl (by omega) ?_)
namespace Go.Proofs.YgvafwGreat
open Go.HL Go.Proofs

/-- How many bytes are zero. -/
def zcN : List Nat → Nat
  | [] => 0
  | d :: l => (if d = 0 then 1 else 0) + zcN l
theorem zcN_le : ∀ l : List Nat, zcN l ≤ l.length
  | [] => Nat.le_refl _
  | d :: l => by
    have := zcN_le l
    rw [zcN, List.length_cons]
    split <;> omega
theorem zcN_app : ∀ (l m : List Nat), zcN (l ++ m) = zcN l + zcN m
  | [], m => by simp [zcN]
  | d :: l, m => by rw [List.cons_append, zcN, zcN, zcN_app l m]; omega
theorem zcN_take {ds : List Nat} {i : Nat} (h : i < ds.length) : zcN (ds.take (i + 1)) = zcN (ds.take i) + (if ds.getD i 0 = 0 then 1 else 0) := by
  rw [List.take_add_one, zcN_app, List.getElem?_eq_getElem h]
  simp [zcN, List.getD_eq_getElem?_getD, List.getElem?_eq_getElem h]
/-- The intrinsic gas of a call. -/
def intN (ds : List Nat) : Nat := 21000 + 4 * zcN ds + 16 * (ds.length - zcN ds)
/-- yp.Intrinsic -/
theorem yIntrinsic {I : Ent → Prop} {G : List Ent} {gas : Nat} {dv : Value} {ds : List Nat} (hb : Byt ⟨I, []⟩ dv ds) (hl : ds.length ≤ 1024) :
    CallG Hvaf.prog 56 #[txV dv gas] ⟨I, G⟩ fun r S' => S'.G = G ∧ NatI S'.I r (intN ds) := by
  obtain ⟨da, dn, rfl, -⟩ := hb.form
  have h8 := hb.1
  have hz := zcN_le ds
  have hN1 := fun (I : Ent → Prop) (G : List Ent) => yNum (I := I) (G := G) (n := 21000) (by decide)
  have hN4 := fun (I : Ent → Prop) (G : List Ent) => yNum (I := I) (G := G) (n := 4) (by decide)
  have hN16 := fun (I : Ent → Prop) (G : List Ent) => yNum (I := I) (G := G) (n := 16) (by decide)
  have hNz := fun (I : Ent → Prop) (G : List Ent) => yNum (I := I) (G := G) (n := zcN ds) (by omega)
  have hNn := fun (I : Ent → Prop) (G : List Ent) => yNum (I := I) (G := G) (n := ds.length - zcN ds) (by omega)
  refine CallG.start (C := mkC Hvaf.prog) cok (args := [txV (.slice da ds.length dn) gas]) Hvaf.func56 rfl Hvaf.ntmps56 (by simp) (by kernel_rfl) ?_
  intro b1
  repeat (first | refine SeqS.go cok ?_)
  refine callN (hN1 _ _) fun v1 J1 hs1 hv1 => ?_
  repeat (first | refine SeqS.go cok ?_ | (refine QuG.keep ?_; first | refine QuG.l1 cok 0 rfl rfl rfl rfl rfl (by first | exact Nat.le_of_ble_eq_true rfl | omega | (dsimp only; omega) | (simp only [addS_eq, mulS_eq]; omega)) ?_))
  refine W.loopG cok (by kernel_rfl) 0 (fun (i : Nat) e' => i ≤ ds.length ∧ slots [(1, ptr b1 0), (3, v1), (4, .int .u64 (zcN (ds.take i) : Nat)), (11, .slice da ds.length dn), (12, .int .i64 (ds.length : Nat)), (13, .int .i64 (i : Nat))] e') (fun i => ds.length - i) 0
    ⟨Nat.zero_le _, rfl, rfl, rfl, rfl, rfl, rfl, trivial⟩ (fun e' => slots [(1, ptr b1 0), (3, v1), (4, .int .u64 (zcN ds : Nat))] e') ?_ ?_
  · rintro e' hsl
    refine SeqS.slots cok _ hsl fun e => ?_
    skip
    refine callN (hN4 _ _) fun v2 J2 hs2 hv2 => ?_
    skip
    refine callN (hNz _ _) fun v3 J3 hs3 hv3 => ?_
    skip
    refine callN (nMul (hv2.up hs3) hv3 (NB_p (Nat.lt_trans (show 4 * zcN ds < 2 ^ 30 by omega) (by decide +kernel)))) fun v4 J4 hs4 hv4 => ?_
    skip
    refine callN (nAdd (((hv1.up hs2).up hs3).up hs4) hv4 (NB_p (Nat.lt_trans (show 21000 + 4 * zcN ds < 2 ^ 30 by omega) (by decide +kernel)))) fun v5 J5 hs5 hv5 => ?_
    repeat (first | refine SeqS.go cok ?_ | (refine ValS.keep ?_; first | (with_reducible refine ValS.kU64 ?_; first | (with_reducible refine ValS.convU64 ?_ ?_ ; omega) | (with_reducible refine ValS.subU64 ?_ ?_ ?_ ; omega; omega))) | (refine QuG.keep ?_; first | refine QuG.l1 cok 0 rfl rfl rfl rfl rfl (by first | exact Nat.le_of_ble_eq_true rfl | omega | (dsimp only; omega) | (simp only [addS_eq, mulS_eq]; omega)) ?_) | refine W.drawI 10 cok [0, 0, 0, 4, 12, 28, 0, 124, 254, 510, 1023, 2047] [0, 2, 3, 4, 5, 6, 7, 1, 8, 9, 10, 11] [3] (by kernel_rfl) (by kernel_rfl) ?_)
    refine callN (hN16 _ _) fun v6 J6 hs6 hv6 => ?_
    repeat (first | (refine still_in ?_; first | refine still_nil ?_ | (refine still_keep (by decide) rfl ?_ ?_; first | exact QuV.l1 cok 0 rfl rfl rfl rfl rfl (by first | exact Nat.le_of_ble_eq_true rfl | omega | (dsimp only; omega) | (simp only [addS_eq, mulS_eq]; omega)) rfl)))
    refine callN (hNn _ _) fun v7 J7 hs7 hv7 => ?_
    repeat (first | (refine still_in ?_; first | refine still_nil ?_ | refine still_drop (by decide) ?_))
    refine callN (nMul (hv6.up hs7) hv7 (NB_p (Nat.lt_trans (show 16 * (ds.length - zcN ds) < 2 ^ 30 by omega) (by decide +kernel)))) fun v8 J8 hs8 hv8 => ?_
    repeat (first | (refine still_in ?_; first | refine still_nil ?_ | refine still_drop (by decide) ?_))
    refine callN (nAdd (((hv5.up hs6).up hs7).up hs8) hv8 (NB_p (Nat.lt_trans (show 21000 + 4 * zcN ds + 16 * (ds.length - zcN ds) < 2 ^ 30 by omega) (by decide +kernel)))) fun v9 J9 hs9 hv9 => ?_
    repeat (first | refine SeqS.go cok ?_ | (refine QuG.keep ?_; first | refine QuG.l1 cok 0 rfl rfl rfl rfl rfl (by first | exact Nat.le_of_ble_eq_true rfl | omega | (dsimp only; omega) | (simp only [addS_eq, mulS_eq]; omega)) ?_) | (refine still_in ?_; first | refine still_drop (by decide) ?_))
    refine W.rounds cok (by kernel_rfl) 1 ?_
    repeat (first | refine SeqS.go cok ?_ | refine CondS.f rfl ?_ | (refine QuG.keep ?_; first | refine QuG.l1 cok 0 rfl rfl rfl rfl rfl (by first | exact Nat.le_of_ble_eq_true rfl | omega | (dsimp only; omega) | (simp only [addS_eq, mulS_eq]; omega)) ?_))
    exact Fin.drop G [_] ⟨rfl, hv9⟩
  · rintro i e' ⟨hi, hsl⟩
    refine W.slots _ hsl fun e => ?_
    by_cases hlt : i < ds.length
    · obtain ⟨x, o, rfl, hx, hbs⟩ := hb.some (by omega)
      have hrd : ∀ G, Rd ⟨J1, G⟩ x := fun _ => .inl (hs1 _ (by rcases hx with h | h; exact h; exact absurd h (by simp)))
      have htk := zcN_take hlt
      have hzi := zcN_le (ds.take i)
      have hti : (ds.take i).length ≤ 1024 := by rw [List.length_take]; omega
      have hd8 : ds.getD i 0 < 256 := by rw [List.getD_eq_getElem?_getD, List.getElem?_eq_getElem hlt]; exact h8 _ (List.getElem_mem hlt)
      by_cases h0 : ds.getD i 0 = 0
      · rw [if_pos h0] at htk
        repeat (first | (refine QuG.keep ?_; refine QuG.bs cok hbs (hrd _) rfl rfl rfl rfl (by omega) ?_) | refine SeqS.go cok ?_ | refine And.intro (by omega) ?_ | (refine NatS.keep ?_; first | with_reducible refine NatS.nat ?_) | (refine ValS.keep ?_; first | (with_reducible refine ValS.kI64 ?_; first | (with_reducible refine ValS.addI64_L ?_ ?_ ; omega)) | (with_reducible refine ValS.kU64 ?_; first | (with_reducible refine ValS.addU64_L ?_ ?_ ; omega))) | (refine CondS.keep ?_; first | refine CondS.d1 rfl (by omega) ?_))
        exact ⟨i + 1, Rel.same ⟨rfl, hlt, rfl, rfl, vI rfl htk.symm, rfl, rfl, rfl, trivial⟩, by show ds.length - (i + 1) < ds.length - i; omega⟩
      · rw [if_neg h0] at htk
        repeat (first | (refine QuG.keep ?_; refine QuG.bs cok hbs (hrd _) rfl rfl rfl rfl (by omega) ?_) | refine SeqS.go cok ?_ | refine And.intro (by omega) ?_ | (refine NatS.keep ?_; first | with_reducible refine NatS.nat ?_) | (refine ValS.keep ?_; first | (with_reducible refine ValS.kI64 ?_; first | (with_reducible refine ValS.addI64_L ?_ ?_ ; omega))) | (refine CondS.keep ?_; first | refine CondS.d1 rfl (by omega) ?_ | refine CondS.d0 rfl (by omega) ?_))
        exact ⟨i + 1, Rel.same ⟨rfl, hlt, rfl, rfl, vI rfl htk.symm, rfl, rfl, rfl, trivial⟩, by show ds.length - (i + 1) < ds.length - i; omega⟩
    · obtain rfl : i = ds.length := by omega
      rw [List.take_length] at *
      repeat (first | refine SeqS.go cok ?_ | (refine CondS.keep ?_; first | refine CondS.d0 rfl (by omega) ?_))
      exact ⟨rfl, rfl, rfl, rfl, trivial⟩
end Go.Proofs.YgvafwGreat
