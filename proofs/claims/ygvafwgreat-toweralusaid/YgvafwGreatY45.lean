import Derived.Test.YgvafwGreatY43
set_option exponentiation.threshold 1000
set_option maxRecDepth 100000
set_option maxHeartbeats 4000000
set_option linter.unusedVariables false
set_option linter.unusedSimpArgs false
-- v2
-- v4
-- v5
-- v6
-- v7
namespace Go.Proofs.YgvafwGreat
open Go.HL Go.Proofs

/-- What the hash of the specification answers. -/
structure KecOk (kec : List Nat → List Nat) : Prop where
  run : ∀ (I : Ent → Prop) (G : List Ent) (v : Value) (bs : List Nat), Byt ⟨I, G⟩ v bs → bs.length < 2 ^ 30 → CallG Hvaf.prog 225 #[v] ⟨I, G⟩ fun r S' => S'.G = G ∧ r = bytesV (kec bs)
  len : ∀ bs, (kec bs).length = 32
  b8 : ∀ bs, ∀ d ∈ kec bs, d < 256
theorem bvs_all (ds : List Nat) : (bvs ds).all one = true := by
  unfold bvs
  rw [List.all_map, List.all_eq_true]
  intro x _; rfl
theorem list20 {l : List Nat} (h : l.length = 20) : ∃ d0 d1 d2 d3 d4 d5 d6 d7 d8 d9 d10 d11 d12 d13 d14 d15 d16 d17 d18 d19, l = [d0, d1, d2, d3, d4, d5, d6, d7, d8, d9, d10, d11, d12, d13, d14, d15, d16, d17, d18, d19] := by
  match l, h with
  | [d0, d1, d2, d3, d4, d5, d6, d7, d8, d9, d10, d11, d12, d13, d14, d15, d16, d17, d18, d19], _ => exact ⟨d0, d1, d2, d3, d4, d5, d6, d7, d8, d9, d10, d11, d12, d13, d14, d15, d16, d17, d18, d19, rfl⟩
theorem yAccV49 {I : Ent → Prop} {G : List Ent} {l : List Value} {a : YA} (hl : AcctC I l a) :
    CallG Hvaf.prog 241 #[.agg l.toArray, .int .u8 (49 : Nat)] ⟨I, G⟩ fun r S' => S'.G = G ∧ NatI S'.I r (a.bal) := by
  obtain ⟨nv, bv, cv, sv, e, q1, q2, q3, q4⟩ := hl.out
  have hal := hl.ok.len
  obtain ⟨adr, nn, bl, cd, sl'⟩ := a
  dsimp only at hal e q1 q2 q3 q4
  obtain ⟨d0, d1, d2, d3, d4, d5, d6, d7, d8, d9, d10, d11, d12, d13, d14, d15, d16, d17, d18, d19, rfl⟩ := list20 hal
  subst e
  have ho1 := NatI.isl q1
  have ho2 := NatI.isl q2
  have ho3 := Byt.isl q3
  have ho4 := SlotsI.isl q4
  refine CallG.start (C := mkC Hvaf.prog) cok (args := [.agg (bvs [d0, d1, d2, d3, d4, d5, d6, d7, d8, d9, d10, d11, d12, d13, d14, d15, d16, d17, d18, d19] ++ [nv, bv, cv, sv]).toArray, .int .u8 ((49 : Nat) : Int)]) Hvaf.func241 rfl Hvaf.ntmps241 (by simp) (by kernel_rfl) ?_
  intro b1
  repeat (first | refine SeqS.go cok ?_ | refine CondS.t rfl ?_ | (refine QuG.keep ?_; first | refine QuG.l1 cok 0 rfl rfl rfl rfl rfl (by first | exact Nat.le_of_ble_eq_true rfl | omega | (dsimp only; omega) | (simp only [addS_eq, mulS_eq]; omega)) ?_))
  refine callN (nNorm q2) fun x J hs hx => ?_
  repeat (first | refine SeqS.go cok ?_)
  exact Fin.drop G [_] ⟨rfl, hx⟩
theorem yAccV59 {I : Ent → Prop} {G : List Ent} {l : List Value} {a : YA} (hl : AcctC I l a) (hc : a.code.length < 2 ^ 30) :
    CallG Hvaf.prog 241 #[.agg l.toArray, .int .u8 (59 : Nat)] ⟨I, G⟩ fun r S' => S'.G = G ∧ NatI S'.I r (a.code.length) := by
  obtain ⟨nv, bv, cv, sv, e, q1, q2, q3, q4⟩ := hl.out
  have hal := hl.ok.len
  obtain ⟨adr, nn, bl, cd, sl'⟩ := a
  dsimp only at hal e q1 q2 q3 q4
  obtain ⟨d0, d1, d2, d3, d4, d5, d6, d7, d8, d9, d10, d11, d12, d13, d14, d15, d16, d17, d18, d19, rfl⟩ := list20 hal
  subst e
  have ho1 := NatI.isl q1
  have ho2 := NatI.isl q2
  have ho3 := Byt.isl q3
  have ho4 := SlotsI.isl q4
  obtain ⟨ad2, cap2, rfl, _⟩ := q3.form
  dsimp only at hc
  refine CallG.start (C := mkC Hvaf.prog) cok (args := [.agg (bvs [d0, d1, d2, d3, d4, d5, d6, d7, d8, d9, d10, d11, d12, d13, d14, d15, d16, d17, d18, d19] ++ [nv, bv, .slice ad2 cd.length cap2, sv]).toArray, .int .u8 ((59 : Nat) : Int)]) Hvaf.func241 rfl Hvaf.ntmps241 (by simp) (by kernel_rfl) ?_
  intro b1
  repeat (first | refine SeqS.go cok ?_ | refine CondS.t rfl ?_ | refine CondS.f rfl ?_ | (refine ValS.keep ?_; first | (with_reducible refine ValS.kU64 ?_; first | (with_reducible refine ValS.convU64 ?_ ?_ ; omega))) | (refine QuG.keep ?_; first | refine QuG.l1 cok 0 rfl rfl rfl rfl rfl (by first | exact Nat.le_of_ble_eq_true rfl | omega | (dsimp only; omega) | (simp only [addS_eq, mulS_eq]; omega)) ?_))
  refine callN (yNum (n := cd.length) (by omega)) fun x J hs hx => ?_
  repeat (first | refine SeqS.go cok ?_)
  exact Fin.drop G [_] ⟨rfl, hx⟩
theorem yAccV63e {I : Ent → Prop} {G : List Ent} {l : List Value} {a : YA} {kec : List Nat → List Nat} (hK : KecOk kec) (hl : AcctC I l a) (hc : a.code.length < 2 ^ 30) (he : emptyA a = true) :
    CallG Hvaf.prog 241 #[.agg l.toArray, .int .u8 (63 : Nat)] ⟨I, G⟩ fun r S' => S'.G = G ∧ NatI S'.I r (0) := by
  obtain ⟨nv, bv, cv, sv, e, q1, q2, q3, q4⟩ := hl.out
  have hal := hl.ok.len
  obtain ⟨adr, nn, bl, cd, sl'⟩ := a
  dsimp only at hal e q1 q2 q3 q4 hc
  obtain ⟨d0, d1, d2, d3, d4, d5, d6, d7, d8, d9, d10, d11, d12, d13, d14, d15, d16, d17, d18, d19, rfl⟩ := list20 hal
  subst e
  have ho1 := NatI.isl q1
  have ho2 := NatI.isl q2
  have ho3 := Byt.isl q3
  have ho4 := SlotsI.isl q4
  have hem := fun (b : Nat) (T : TypeId) => yEmpty (I := I) (G := G) (b := b) (sz := 24) (T := T) (c := vc (.agg (bvs [d0, d1, d2, d3, d4, d5, d6, d7, d8, d9, d10, d11, d12, d13, d14, d15, d16, d17, d18, d19] ++ [nv, bv, cv, sv]).toArray)) (by decide) q1 q2 q3
  rw [show (decide (nn = 0) && (decide (bl = 0) && decide (cd.length = 0))) = true from he] at hem
  refine CallG.start (C := mkC Hvaf.prog) cok (args := [.agg (bvs [d0, d1, d2, d3, d4, d5, d6, d7, d8, d9, d10, d11, d12, d13, d14, d15, d16, d17, d18, d19] ++ [nv, bv, cv, sv]).toArray, .int .u8 ((63 : Nat) : Int)]) Hvaf.func241 rfl Hvaf.ntmps241 (by simp) (by kernel_rfl) ?_
  intro b1
  repeat (first | refine SeqS.go cok ?_ | refine CondS.f rfl ?_)
  refine (hem _ _).mono ?_
  rintro r _ - ⟨rfl, rfl⟩
  repeat (first | refine SeqS.go cok ?_ | refine CondS.t rfl ?_)
  exact Fin.drop G [_] ⟨rfl, NatI.zero _⟩
theorem yAccV63n {I : Ent → Prop} {G : List Ent} {l : List Value} {a : YA} {kec : List Nat → List Nat} (hK : KecOk kec) (hl : AcctC I l a) (hc : a.code.length < 2 ^ 30) (he : emptyA a = false) :
    CallG Hvaf.prog 241 #[.agg l.toArray, .int .u8 (63 : Nat)] ⟨I, G⟩ fun r S' => S'.G = G ∧ NatI S'.I r (bev (kec a.code)) := by
  obtain ⟨nv, bv, cv, sv, e, q1, q2, q3, q4⟩ := hl.out
  have hal := hl.ok.len
  obtain ⟨adr, nn, bl, cd, sl'⟩ := a
  dsimp only at hal e q1 q2 q3 q4 hc
  obtain ⟨d0, d1, d2, d3, d4, d5, d6, d7, d8, d9, d10, d11, d12, d13, d14, d15, d16, d17, d18, d19, rfl⟩ := list20 hal
  subst e
  have ho1 := NatI.isl q1
  have ho2 := NatI.isl q2
  have ho3 := Byt.isl q3
  have ho4 := SlotsI.isl q4
  have hem := fun (b : Nat) (T : TypeId) => yEmpty (I := I) (G := G) (b := b) (sz := 24) (T := T) (c := vc (.agg (bvs [d0, d1, d2, d3, d4, d5, d6, d7, d8, d9, d10, d11, d12, d13, d14, d15, d16, d17, d18, d19] ++ [nv, bv, cv, sv]).toArray)) (by decide) q1 q2 q3
  rw [show (decide (nn = 0) && (decide (bl = 0) && decide (cd.length = 0))) = false from he] at hem
  refine CallG.start (C := mkC Hvaf.prog) cok (args := [.agg (bvs [d0, d1, d2, d3, d4, d5, d6, d7, d8, d9, d10, d11, d12, d13, d14, d15, d16, d17, d18, d19] ++ [nv, bv, cv, sv]).toArray, .int .u8 ((63 : Nat) : Int)]) Hvaf.func241 rfl Hvaf.ntmps241 (by simp) (by kernel_rfl) ?_
  intro b1
  repeat (first | refine SeqS.go cok ?_ | refine CondS.f rfl ?_)
  refine (hem _ _).mono ?_
  rintro r _ - ⟨rfl, rfl⟩
  repeat (first | refine SeqS.go cok ?_ | refine CondS.f rfl ?_)
  repeat (first | (refine QuG.keep ?_; first | refine QuG.l1 cok 0 rfl rfl rfl rfl rfl (by first | exact Nat.le_of_ble_eq_true rfl | omega | (dsimp only; omega) | (simp only [addS_eq, mulS_eq]; omega)) ?_))
  refine (hK.run I (_ :: G) cv cd (q3.mono (.refl _) (fun x h => nomatch h)) hc).mono ?_
  rintro r ⟨J, G'⟩ hs ⟨h1, rfl⟩
  dsimp only at h1
  subst h1
  replace hs : HL.Sub I J := hs
  skip
  intro b2
  skip
  refine OpG.keep ?_
  refine OpG.sL cok 0 rfl rfl rfl rfl rfl (by rw [bvs_len]; exact hK.len _) (bvs_all _) (by decide) ?_
  repeat (first | refine SeqS.go cok ?_ | refine And.intro (Eq.refl true) ?_ | (refine ValS.keep ?_; first | with_reducible refine ValS.sl0 ?_))
  refine callN (FromBE_byt (S := ⟨J, ⟨b2, 32, 22, updN z_int__u8_0 0 (bvs (kec cd))⟩ :: _⟩) (row_byt (x := ⟨b2, 32, 22, updN z_int__u8_0 0 (bvs (kec cd))⟩) (Row.updN2 _ _ _) (.inr List.mem_cons_self) (hK.b8 _) (hK.len _) (by decide) (Nat.le_refl _)) (bev_NB (hK.b8 _) (by rw [hK.len]; decide))) fun x J2 hs2 hx => ?_
  repeat (first | refine SeqS.go cok ?_)
  exact Fin.drop G [_, _] ⟨rfl, hx⟩
end Go.Proofs.YgvafwGreat
