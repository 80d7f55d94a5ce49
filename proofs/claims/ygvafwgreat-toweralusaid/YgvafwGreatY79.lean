import Derived.Test.YgvafwGreatY77
import Derived.Test.YgvafwGreatY47
import Derived.Test.YgvafwGreatL5
import Derived.Test.YgvafwGreatV8
set_option exponentiation.threshold 1000
set_option maxRecDepth 100000
set_option maxHeartbeats 4000000
set_option linter.unusedVariables false
set_option linter.unusedSimpArgs false
-- v2
-- v4
-- v5
-- v6
-- v7
namespace Go.Proofs.YgvafwGreat
open Go.HL Go.Proofs

/-- yp.State.baseFee, ahead of a transaction -/
theorem yBaseFee2 {I : Ent → Prop} {G : List Ent} {sb ssz : Nat} {Ts : TypeId} {cs : Nat → Value} (hsz : 179 ≤ ssz) (hE : Row cs 146 (bvs z32)) :
    CallG Hvaf.prog 80 #[ptr sb 0] ⟨I, ⟨sb, ssz, Ts, cs⟩ :: G⟩ fun r S' => S'.G = ⟨sb, ssz, Ts, cs⟩ :: G ∧ NatI S'.I r 0 := by
  have hby : Byt ⟨I, ⟨sb, ssz, Ts, cs⟩ :: G⟩ (.slice (some ⟨sb, 146, none⟩) 32 32) z32 := row_byt (x := ⟨sb, ssz, Ts, cs⟩) hE (.inr (by simp)) (by decide) (by decide) (by decide) (by show 146 + 32 ≤ ssz; omega)
  have e0 : val (z32 : List Nat).reverse = 0 := by decide
  have hf := FromBE_byt hby (bev_NB (by decide) (by decide))
  rw [e0] at hf
  refine CallG.start (C := mkC Hvaf.prog) cok (args := [ptr sb 0]) Hvaf.func80 rfl Hvaf.ntmps80 (by simp) (by kernel_rfl) ?_
  repeat (first | refine SeqS.go cok ?_ | refine And.intro (Eq.refl true) ?_ | (refine ValS.keep ?_; first | with_reducible refine ValS.sl0 ?_))
  refine callN hf fun x J hs hx => ?_
  repeat (first | refine SeqS.go cok ?_)
  exact Fin.same ⟨rfl, hx⟩
/-- FromBE of a word of zeros in a block of one's own -/
theorem yZeroBE {J : Ent → Prop} {G : List Ent} {v : Value} (hb : Byt ⟨J, G⟩ v z32) : CallG Hvaf.prog 43 #[v] ⟨J, G⟩ fun r S' => S'.G = G ∧ NatI S'.I r 0 := by
  have e0 : val (z32 : List Nat).reverse = 0 := by decide
  have hf := FromBE_byt hb (bev_NB (by decide) (by decide))
  rw [e0] at hf
  exact hf
theorem own_z32 {S : St} {b sz : Nat} {T : TypeId} {c : Nat → Value} (hx : (⟨b, sz, T, c⟩ : Ent) ∈ S.G) (hc : cellsFrom c 0 32 = bvs z32) (hs : 32 ≤ sz) : Byt S (HL.sl b 0 32 32) z32 :=
  row_byt (x := ⟨b, sz, T, c⟩) (Row.ofCells hc) (.inr hx) (by decide) (by decide) (by decide) (by show 0 + 32 ≤ sz; omega)
/-- yp.State.price -/
theorem yPrice {I : Ent → Prop} {G : List Ent} {sb ssz gas : Nat} {Ts : TypeId} {cs : Nat → Value} {dv : Value} (hsz : 179 ≤ ssz) (hE : Row cs 146 (bvs z32)) :
    CallG Hvaf.prog 57 #[ptr sb 0, txV dv gas] ⟨I, ⟨sb, ssz, Ts, cs⟩ :: G⟩ fun r S' => S'.G = ⟨sb, ssz, Ts, cs⟩ :: G ∧ NatI S'.I r 0 := by
  have hbf := fun (I : Ent → Prop) (G : List Ent) => yBaseFee2 (I := I) (G := G) (sb := sb) (Ts := Ts) hsz hE
  refine CallG.start (C := mkC Hvaf.prog) cok (args := [ptr sb 0, txV dv gas]) Hvaf.func57 rfl Hvaf.ntmps57 (by simp) (by kernel_rfl) ?_
  intro b3
  repeat (first | refine SeqS.go cok ?_)
  refine (yFees (Nat.le_of_ble_eq_true rfl)).mono ?_
  rintro r _ - ⟨rfl, rfl⟩
  skip
  intro b5 b6
  repeat (first | refine SeqS.go cok ?_ | refine And.intro (Eq.refl true) ?_ | (refine ValS.keep ?_; first | with_reducible refine ValS.sl0 ?_) | (refine OpG.keep ?_; first | refine OpG.sL cok 0 rfl rfl rfl rfl rfl rfl rfl (by first | exact Nat.le_of_ble_eq_true rfl | omega | (dsimp only; omega) | (simp only [addS_eq, mulS_eq]; omega)) ?_ | refine OpG.sL cok 1 rfl rfl rfl rfl rfl rfl rfl (by first | exact Nat.le_of_ble_eq_true rfl | omega | (dsimp only; omega) | (simp only [addS_eq, mulS_eq]; omega)) ?_))
  refine callNS (yZeroBE (own_z32 (List.mem_cons_of_mem _ List.mem_cons_self) rfl (Nat.le_of_ble_eq_true rfl))) fun a1 n1 c1 J1 hs1 h1 => ?_
  skip
  refine CallG.behind [_, _, _] (hbf _ _) ?_
  rintro r J2 _ hs2 ⟨e, h2⟩
  cases e
  replace hs2 : HL.Sub J1 J2 := hs2
  replace h2 : NatI J2 r 0 := h2
  skip
  refine callNS (yLess (h1.up hs2) h2) fun a3 n3 c3 J3 hs3 h3 => ?_
  repeat (first | refine SeqS.go cok ?_ | refine And.intro (Eq.refl true) ?_ | (refine ValS.keep ?_; first | with_reducible refine ValS.sl0 ?_) | refine W.drawI 3 cok [0, 1, 0, 7, 0, 31, 63, 127] [0, 2, 4, 1, 3, 5, 6, 7] [] (by kernel_rfl) (by kernel_rfl) ?_)
  refine CallG.behind [_, _, _] (hbf _ _) ?_
  rintro r J4 _ hs4 ⟨e, h4⟩
  cases e
  replace hs4 : HL.Sub J3 J4 := hs4
  replace h4 : NatI J4 r 0 := h4
  repeat (first | (refine still_in ?_; first | refine still_nil ?_))
  refine callNS (yZeroBE (own_z32 List.mem_cons_self rfl (Nat.le_of_ble_eq_true rfl))) fun a5 n5 c5 J5 hs5 h5 => ?_
  repeat (first | (refine still_in ?_; first | refine still_nil ?_))
  refine callNS (yMin h5 ((h3.up hs4).up hs5)) fun a6 n6 c6 J6 hs6 h6 => ?_
  repeat (first | (refine still_in ?_; first | refine still_nil ?_))
  refine callNS (nAdd ((h4.up hs5).up hs6) h6 (NB_p (by decide +kernel))) fun a7 n7 c7 J7 hs7 h7 => ?_
  repeat (first | refine SeqS.go cok ?_)
  exact Fin.drop (⟨sb, ssz, Ts, cs⟩ :: G) [_, _, _] ⟨rfl, h7⟩
structure AcF (I : Ent → Prop) (l : List Value) (a : YA) (nv bv : Value) (ca : Option Addr) (cc : Nat) : Prop where
  len : l.length = 24
  one : ∀ u ∈ l, one u = true
  c20 : l.getD 20 undef = nv
  c21 : l.getD 21 undef = bv
  c22 : l.getD 22 undef = .slice ca a.code.length cc
  n : NatI I nv a.nonce
  b : NatI I bv a.bal
  cb : Byt ⟨I, []⟩ (.slice ca a.code.length cc) a.code
theorem AcctC.facts {I : Ent → Prop} {l : List Value} {a : YA} (h : AcctC I l a) : ∃ nv bv ca cc, AcF I l a nv bv ca cc := by
  have hl := h.len
  have ho := h.one
  obtain ⟨nv, bv, cv, sv, rfl, h2, h3, h4, h5⟩ := h.out
  obtain ⟨ca, cc, rfl, -⟩ := h4.form
  have h20 : (bvs a.addr).length = 20 := h.ok.bv
  refine ⟨nv, bv, ca, cc, hl, ho, ?_, ?_, ?_, h2, h3, h4⟩
  all_goals (rw [List.getD_eq_getElem?_getD, List.getElem?_append_right (by omega), h20]; rfl)
theorem yAccountF {I : Ent → Prop} {G : List Ent} {wb sz : Nat} {T : TypeId} {c : Nat → Value} {al : List YA} {a : List Nat} (hsz : 8 ≤ sz) (hN : AcctsI I (c 0) al) (hA : AdOk a) (hlen : al.length < 2 ^ 30) :
    CallG Hvaf.prog 53 #[ptr wb 0, bytesV a] ⟨I, ⟨wb, sz, T, c⟩ :: G⟩ fun r S' => S' = ⟨I, ⟨wb, sz, T, c⟩ :: G⟩ ∧ ∃ l nv bv ca cc, r = .agg l.toArray ∧ AcF I l (getA al a) nv bv ca cc := by
  refine (yAccount hsz hN hA hlen).mono ?_
  rintro r _ - ⟨rfl, l, rfl, hl⟩
  obtain ⟨nv, bv, ca, cc, h⟩ := hl.facts
  exact ⟨rfl, l, nv, bv, ca, cc, rfl, h⟩
theorem _root_.Go.HL.Byt.up {I J : Ent → Prop} {v : Value} {ds : List Nat} (h : Byt ⟨I, []⟩ v ds) (hs : HL.Sub I J) : Byt ⟨J, []⟩ v ds := h.mono hs (by simp)
/-- The verdict. -/
def vdN (ds : List Nat) (gas : Nat) : Nat := if 1048576 < gas ∨ 1024 < ds.length then 3 else if gas < intN ds then 8 else 0
/-- yp.State.verdict: too much gas -/
theorem yVerdictG {I : Ent → Prop} {G : List Ent} {sb ssz gas dc : Nat} {Ts : TypeId} {cs : Nat → Value} {da : Option Addr} {ds : List Nat} {al : List YA} (hsz : 179 ≤ ssz) (hE : Row cs 146 (bvs z32)) (hph : cs 11 = .int .u8 0) (hap : cs 13 = .int .u8 0) (hgl : cs 81 = .int .u64 1048576) (hA : AcctsI I (cs 0) al) (hal : al.length < 2 ^ 20) (hn0 : (getA al (ad1 240)).nonce = 0) (hc0 : (getA al (ad1 240)).code = []) (hNd : Byt ⟨I, []⟩ (.slice da ds.length dc) ds) (hg64 : gas < 2 ^ 64) (hg : 1048576 < gas) :
    CallG Hvaf.prog 52 #[ptr sb 0, txV (.slice da ds.length dc) gas] ⟨I, ⟨sb, ssz, Ts, cs⟩ :: G⟩ fun r S' => S'.G = ⟨sb, ssz, Ts, cs⟩ :: G ∧ r = .int .u8 3 := by
  have hbf := fun (I : Ent → Prop) (G : List Ent) => yBaseFee2 (I := I) (G := G) (sb := sb) (Ts := Ts) hsz hE
  have hac := fun (G : List Ent) => yAccountF (G := G) (wb := sb) (sz := ssz) (T := Ts) (a := ad1 240) (by omega) hA ⟨rfl, by decide⟩ (by omega)
  have hUg := fun (I : Ent → Prop) (G : List Ent) => yNum (I := I) (G := G) (n := gas) (by omega)
  have hU20 := fun (I : Ent → Prop) (G : List Ent) => yNum (I := I) (G := G) (n := 1048576) (by decide)
  have hU0 := fun (I : Ent → Prop) (G : List Ent) => yNum (I := I) (G := G) (n := 0) (by decide)
  have hUm := fun (I : Ent → Prop) (G : List Ent) => yNum (I := I) (G := G) (n := 18446744073709551615) (by decide)
  have hl47 := hNd.2.1
  refine CallG.start (C := mkC Hvaf.prog) cok (args := [ptr sb 0, txV (.slice da ds.length dc) gas]) Hvaf.func52 rfl Hvaf.ntmps52 (by simp) (by kernel_rfl) ?_
  intro b3
  repeat (first | refine SeqS.go cok ?_ | (refine QuG.keep ?_; first | refine QuG.lN cok 0 rfl rfl rfl rfl rfl (by first | exact Nat.le_of_ble_eq_true rfl | omega | (dsimp only; omega) | (simp only [addS_eq, mulS_eq]; omega)) ?_) | refine W.drawI 1 cok [0, 1, 3, 0, 8, 31, 0, 127] [0, 1, 2, 3, 4, 5, 6, 7] [4] (by kernel_rfl) (by kernel_rfl) ?_)
  refine CallG.behind [_] (hac _) ?_
  rintro r J1 _ hs1 ⟨e, l, nv, bv, ca, cc, rfl, hF⟩
  cases e
  have q0 := hF.len
  have q1 := hF.one
  have q2 := hF.c20
  have q3 := hF.c21
  have q4 := hF.c22
  rw [hc0] at q4
  have hNn := hF.n
  rw [hn0] at hNn
  have hNb := hF.b
  try replace hNd := hNd.up hs0
  repeat (first | (refine still_in ?_; first | refine still_nil ?_ | refine still_drop (by decide) ?_))
  intro b5
  repeat (first | (refine OpG.keep ?_; first | refine OpG.upS cok 0 rfl rfl rfl rfl rfl (by assumption) (by first | assumption | exact one_bvs _) (by first | exact Nat.le_of_ble_eq_true rfl | omega) ?_) | refine SeqS.go cok ?_ | (refine QuG.keep ?_; first | refine QuG.l1 cok 1 rfl rfl rfl rfl rfl (by first | exact Nat.le_of_ble_eq_true rfl | omega | (dsimp only; omega) | (simp only [addS_eq, mulS_eq]; omega)) ?_) | (refine still_in ?_; first | refine still_drop (by decide) ?_))
  refine callN (hUg _ _) ?_
  intro rhNg I hshNg hNg
  try replace hNd := hNd.up hshNg
  try replace hNn := hNn.up hshNg
  try replace hNb := hNb.up hshNg
  repeat (first | refine SeqS.go cok ?_)
  refine CallG.behind [_] (yFees (Nat.le_of_ble_eq_true rfl)) ?_
  rintro r J3 _ hs3 ⟨e, rfl⟩
  cases e
  skip
  intro b7 b8
  repeat (first | refine SeqS.go cok ?_ | refine And.intro (Eq.refl true) ?_ | (refine ValS.keep ?_; first | with_reducible refine ValS.sl0 ?_) | (refine OpG.keep ?_; first | refine OpG.sL cok 0 rfl rfl rfl rfl rfl rfl rfl (by first | exact Nat.le_of_ble_eq_true rfl | omega | (dsimp only; omega) | (simp only [addS_eq, mulS_eq]; omega)) ?_ | refine OpG.sL cok 1 rfl rfl rfl rfl rfl rfl rfl (by first | exact Nat.le_of_ble_eq_true rfl | omega | (dsimp only; omega) | (simp only [addS_eq, mulS_eq]; omega)) ?_))
  refine callN (yZeroBE (own_z32 (List.mem_cons_of_mem _ List.mem_cons_self) rfl (Nat.le_of_ble_eq_true rfl))) ?_
  intro rhNm I hshNm hNm
  try replace hNd := hNd.up hshNm
  try replace hNn := hNn.up hshNm
  try replace hNb := hNb.up hshNm
  try replace hNg := hNg.up hshNm
  repeat (first | refine SeqS.go cok ?_ | refine And.intro (Eq.refl true) ?_ | (refine ValS.keep ?_; first | with_reducible refine ValS.sl0 ?_) | refine W.drawI 5 cok [0, 0, 3, 0, 8, 31, 63, 127] [0, 1, 3, 4, 2, 5, 6, 7] [] (by kernel_rfl) (by kernel_rfl) ?_)
  refine callN (nMul hNg hNm (NB_p (by rw [Nat.mul_zero]; decide +kernel))) ?_
  intro rhNp I hshNp hNp
  try replace hNd := hNd.up hshNp
  try replace hNn := hNn.up hshNp
  try replace hNb := hNb.up hshNp
  try replace hNg := hNg.up hshNp
  try replace hNm := hNm.up hshNp
  repeat (first | (refine still_in ?_; first | refine still_nil ?_))
  refine callN (yZeroBE (box_b (l := txL (.slice da ds.length dc) gas) (p := 75) (m := 32) (List.mem_cons_of_mem _ (List.mem_cons_of_mem _ (List.mem_cons_of_mem _ List.mem_cons_self))) rfl rfl (by decide) (by decide) (Nat.le_of_ble_eq_true rfl))) ?_
  intro rhNv I hshNv hNv
  try replace hNd := hNd.up hshNv
  try replace hNn := hNn.up hshNv
  try replace hNb := hNb.up hshNv
  try replace hNg := hNg.up hshNv
  try replace hNm := hNm.up hshNv
  try replace hNp := hNp.up hshNv
  repeat (first | (refine still_in ?_; first | refine still_nil ?_))
  refine callN (nAdd hNp hNv (NB_p (by rw [Nat.mul_zero]; decide +kernel))) ?_
  intro rhNe I hshNe hNe
  try replace hNd := hNd.up hshNe
  try replace hNn := hNn.up hshNe
  try replace hNb := hNb.up hshNe
  try replace hNg := hNg.up hshNe
  try replace hNm := hNm.up hshNe
  try replace hNp := hNp.up hshNe
  try replace hNv := hNv.up hshNe
  repeat (first | (refine QuG.keep ?_; first | refine QuG.l1E cok 4 rfl rfl rfl rfl rfl (by first | exact Nat.le_of_ble_eq_true rfl | omega | (dsimp only; omega) | (simp only [addS_eq, mulS_eq]; omega)) (by assumption) ?_) | refine SeqS.go cok ?_ | refine CondS.f rfl ?_)
  refine callN (hU20 _ _) ?_
  intro rhNx I hshNx hNx
  try replace hNd := hNd.up hshNx
  try replace hNn := hNn.up hshNx
  try replace hNb := hNb.up hshNx
  try replace hNg := hNg.up hshNx
  try replace hNm := hNm.up hshNx
  try replace hNp := hNp.up hshNx
  try replace hNv := hNv.up hshNx
  try replace hNe := hNe.up hshNx
  skip
  refine (nCmpG hNg hNx hg).mono ?_
  rintro r _ - ⟨rfl, rfl⟩
  repeat (first | refine SeqS.go cok ?_ | refine GuardS.no rfl ?_ | refine CondS.t rfl ?_)
  exact Fin.drop (⟨sb, ssz, Ts, cs⟩ :: G) [_, _, _, _] ⟨rfl, rfl⟩
/-- yp.State.verdict: too much data -/
theorem yVerdictD {I : Ent → Prop} {G : List Ent} {sb ssz gas dc : Nat} {Ts : TypeId} {cs : Nat → Value} {da : Option Addr} {ds : List Nat} {al : List YA} (hsz : 179 ≤ ssz) (hE : Row cs 146 (bvs z32)) (hph : cs 11 = .int .u8 0) (hap : cs 13 = .int .u8 0) (hgl : cs 81 = .int .u64 1048576) (hA : AcctsI I (cs 0) al) (hal : al.length < 2 ^ 20) (hn0 : (getA al (ad1 240)).nonce = 0) (hc0 : (getA al (ad1 240)).code = []) (hNd : Byt ⟨I, []⟩ (.slice da ds.length dc) ds) (hg64 : gas < 2 ^ 64) (hg : gas ≤ 1048576) (hd : 1024 < ds.length) :
    CallG Hvaf.prog 52 #[ptr sb 0, txV (.slice da ds.length dc) gas] ⟨I, ⟨sb, ssz, Ts, cs⟩ :: G⟩ fun r S' => S'.G = ⟨sb, ssz, Ts, cs⟩ :: G ∧ r = .int .u8 3 := by
  have hbf := fun (I : Ent → Prop) (G : List Ent) => yBaseFee2 (I := I) (G := G) (sb := sb) (Ts := Ts) hsz hE
  have hac := fun (G : List Ent) => yAccountF (G := G) (wb := sb) (sz := ssz) (T := Ts) (a := ad1 240) (by omega) hA ⟨rfl, by decide⟩ (by omega)
  have hUg := fun (I : Ent → Prop) (G : List Ent) => yNum (I := I) (G := G) (n := gas) (by omega)
  have hU20 := fun (I : Ent → Prop) (G : List Ent) => yNum (I := I) (G := G) (n := 1048576) (by decide)
  have hU0 := fun (I : Ent → Prop) (G : List Ent) => yNum (I := I) (G := G) (n := 0) (by decide)
  have hUm := fun (I : Ent → Prop) (G : List Ent) => yNum (I := I) (G := G) (n := 18446744073709551615) (by decide)
  have hl47 := hNd.2.1
  refine CallG.start (C := mkC Hvaf.prog) cok (args := [ptr sb 0, txV (.slice da ds.length dc) gas]) Hvaf.func52 rfl Hvaf.ntmps52 (by simp) (by kernel_rfl) ?_
  intro b3
  repeat (first | refine SeqS.go cok ?_ | (refine QuG.keep ?_; first | refine QuG.lN cok 0 rfl rfl rfl rfl rfl (by first | exact Nat.le_of_ble_eq_true rfl | omega | (dsimp only; omega) | (simp only [addS_eq, mulS_eq]; omega)) ?_) | refine W.drawI 1 cok [0, 1, 3, 0, 8, 31, 0, 127] [0, 1, 2, 3, 4, 5, 6, 7] [4] (by kernel_rfl) (by kernel_rfl) ?_)
  refine CallG.behind [_] (hac _) ?_
  rintro r J1 _ hs1 ⟨e, l, nv, bv, ca, cc, rfl, hF⟩
  cases e
  have q0 := hF.len
  have q1 := hF.one
  have q2 := hF.c20
  have q3 := hF.c21
  have q4 := hF.c22
  rw [hc0] at q4
  have hNn := hF.n
  rw [hn0] at hNn
  have hNb := hF.b
  try replace hNd := hNd.up hs0
  repeat (first | (refine still_in ?_; first | refine still_nil ?_ | refine still_drop (by decide) ?_))
  intro b5
  repeat (first | (refine OpG.keep ?_; first | refine OpG.upS cok 0 rfl rfl rfl rfl rfl (by assumption) (by first | assumption | exact one_bvs _) (by first | exact Nat.le_of_ble_eq_true rfl | omega) ?_) | refine SeqS.go cok ?_ | (refine QuG.keep ?_; first | refine QuG.l1 cok 1 rfl rfl rfl rfl rfl (by first | exact Nat.le_of_ble_eq_true rfl | omega | (dsimp only; omega) | (simp only [addS_eq, mulS_eq]; omega)) ?_) | (refine still_in ?_; first | refine still_drop (by decide) ?_))
  refine callN (hUg _ _) ?_
  intro rhNg I hshNg hNg
  try replace hNd := hNd.up hshNg
  try replace hNn := hNn.up hshNg
  try replace hNb := hNb.up hshNg
  repeat (first | refine SeqS.go cok ?_)
  refine CallG.behind [_] (yFees (Nat.le_of_ble_eq_true rfl)) ?_
  rintro r J3 _ hs3 ⟨e, rfl⟩
  cases e
  skip
  intro b7 b8
  repeat (first | refine SeqS.go cok ?_ | refine And.intro (Eq.refl true) ?_ | (refine ValS.keep ?_; first | with_reducible refine ValS.sl0 ?_) | (refine OpG.keep ?_; first | refine OpG.sL cok 0 rfl rfl rfl rfl rfl rfl rfl (by first | exact Nat.le_of_ble_eq_true rfl | omega | (dsimp only; omega) | (simp only [addS_eq, mulS_eq]; omega)) ?_ | refine OpG.sL cok 1 rfl rfl rfl rfl rfl rfl rfl (by first | exact Nat.le_of_ble_eq_true rfl | omega | (dsimp only; omega) | (simp only [addS_eq, mulS_eq]; omega)) ?_))
  refine callN (yZeroBE (own_z32 (List.mem_cons_of_mem _ List.mem_cons_self) rfl (Nat.le_of_ble_eq_true rfl))) ?_
  intro rhNm I hshNm hNm
  try replace hNd := hNd.up hshNm
  try replace hNn := hNn.up hshNm
  try replace hNb := hNb.up hshNm
  try replace hNg := hNg.up hshNm
  repeat (first | refine SeqS.go cok ?_ | refine And.intro (Eq.refl true) ?_ | (refine ValS.keep ?_; first | with_reducible refine ValS.sl0 ?_) | refine W.drawI 5 cok [0, 0, 3, 0, 8, 31, 63, 127] [0, 1, 3, 4, 2, 5, 6, 7] [] (by kernel_rfl) (by kernel_rfl) ?_)
  refine callN (nMul hNg hNm (NB_p (by rw [Nat.mul_zero]; decide +kernel))) ?_
  intro rhNp I hshNp hNp
  try replace hNd := hNd.up hshNp
  try replace hNn := hNn.up hshNp
  try replace hNb := hNb.up hshNp
  try replace hNg := hNg.up hshNp
  try replace hNm := hNm.up hshNp
  repeat (first | (refine still_in ?_; first | refine still_nil ?_))
  refine callN (yZeroBE (box_b (l := txL (.slice da ds.length dc) gas) (p := 75) (m := 32) (List.mem_cons_of_mem _ (List.mem_cons_of_mem _ (List.mem_cons_of_mem _ List.mem_cons_self))) rfl rfl (by decide) (by decide) (Nat.le_of_ble_eq_true rfl))) ?_
  intro rhNv I hshNv hNv
  try replace hNd := hNd.up hshNv
  try replace hNn := hNn.up hshNv
  try replace hNb := hNb.up hshNv
  try replace hNg := hNg.up hshNv
  try replace hNm := hNm.up hshNv
  try replace hNp := hNp.up hshNv
  repeat (first | (refine still_in ?_; first | refine still_nil ?_))
  refine callN (nAdd hNp hNv (NB_p (by rw [Nat.mul_zero]; decide +kernel))) ?_
  intro rhNe I hshNe hNe
  try replace hNd := hNd.up hshNe
  try replace hNn := hNn.up hshNe
  try replace hNb := hNb.up hshNe
  try replace hNg := hNg.up hshNe
  try replace hNm := hNm.up hshNe
  try replace hNp := hNp.up hshNe
  try replace hNv := hNv.up hshNe
  repeat (first | (refine QuG.keep ?_; first | refine QuG.l1E cok 4 rfl rfl rfl rfl rfl (by first | exact Nat.le_of_ble_eq_true rfl | omega | (dsimp only; omega) | (simp only [addS_eq, mulS_eq]; omega)) (by assumption) ?_) | refine SeqS.go cok ?_ | refine CondS.f rfl ?_)
  refine callN (hU20 _ _) ?_
  intro rhNx I hshNx hNx
  try replace hNd := hNd.up hshNx
  try replace hNn := hNn.up hshNx
  try replace hNb := hNb.up hshNx
  try replace hNg := hNg.up hshNx
  try replace hNm := hNm.up hshNx
  try replace hNp := hNp.up hshNx
  try replace hNv := hNv.up hshNx
  try replace hNe := hNe.up hshNx
  skip
  refine (nCmpLe hNg hNx hg).mono ?_
  rintro r _ - ⟨rfl, z, hz1, hz2, rfl⟩
  repeat (first | refine SeqS.go cok ?_ | refine GuardS.yes rfl ?_ | refine GuardS.no rfl ?_ | refine CondS.t rfl ?_ | (refine QuG.keep ?_; first | refine QuG.l1 cok 3 rfl rfl rfl rfl rfl (by first | exact Nat.le_of_ble_eq_true rfl | omega | (dsimp only; omega) | (simp only [addS_eq, mulS_eq]; omega)) ?_) | (refine GuardS.keep ?_; first | refine GuardS.F1 rfl (by omega) ?_ | refine GuardS.F0 rfl (by omega) ?_))
  exact Fin.drop (⟨sb, ssz, Ts, cs⟩ :: G) [_, _, _, _] ⟨rfl, rfl⟩
end Go.Proofs.YgvafwGreat
