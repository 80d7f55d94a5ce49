import Derived.Test.YgvafwGreatV11
set_option exponentiation.threshold 1000
set_option maxRecDepth 100000
set_option maxHeartbeats 4000000
set_option linter.unusedVariables false
set_option linter.unusedSimpArgs false
-- v2
-- v4
-- v5
-- v6
-- v7
-- still: exact QuV.of (QuG.elS cok hE (hrd [_, _, _]) rfl rfl rfl rfl elO hi' (by decide) hen rfl)
-- still: exact QuV.of (QuG.elF cok hE (hrd [_, _]) rfl rfl rfl rfl elO hi' (by decide) hen rfl)
namespace Go.Proofs.YgvafwGreat
open Go.HL Go.Proofs

theorem VOk.setS {V : Vl} (hO : VOk V) {i : Nat} {x : VSl} {e : VE} (hi : i < V.sl.length) (had : x.key = (V.sl.getD i dVS).key) (hb : x.val < 2 ^ 256 ∧ x.orig < 2 ^ 256) (hj : V.jr.length < 59990) (he : e.w < 2 ^ 256 ∧ e.kd < 11 ∧ e.pl < 2147483648 ∧ e.n < 2 ^ 64) : VOk { V with sl := V.sl.set i x, jr := V.jr ++ [e] } := by
  have hm : ∀ {P : VSl → Prop}, (∀ x ∈ V.sl, P x) → P x → ∀ y ∈ V.sl.set i x, P y := by
    intro P h1 h2 y hy
    rcases List.mem_or_eq_of_mem_set hy with h | h
    · exact h1 y h
    · rw [h]; exact h2
  have hmap : (V.sl.set i x).map VSl.key = V.sl.map VSl.key := by
    rw [List.map_set, had]
    have h1 : i < (V.sl.map VSl.key).length := by rw [List.length_map]; exact hi
    have h2 : (V.sl.getD i dVS).key = (V.sl.map VSl.key)[i] := by rw [List.getD_eq_getElem?_getD, List.getElem?_eq_getElem hi]; simp
    rw [h2, List.set_getElem_self]
  have hlen : (V.sl.set i x).length = V.sl.length := List.length_set
  have hg : ∀ j, ((V.sl.set i x).getD j dVS).key = (V.sl.getD j dVS).key := by
    intro j
    by_cases hij : i = j
    · subst hij; rw [_root_.Go.HL.getD_set_eq hi, had]
    · rw [_root_.Go.HL.getD_set_ne hij]
  refine { hO with sky := hm hO.sky (by rw [had]; exact hO.sky _ (getD_mem hi)), sbd := hm hO.sbd hb, snd := ?_, sts := ?_, sln := ?_, jln := ?_, jrw := ?_ }
  · show ((V.sl.set i x).map VSl.key).Nodup
    rw [hmap]; exact hO.snd
  · show TabOk 4096 V.ts (fun j => mixN 0 ((V.sl.set i x).getD j dVS).key % 4096) (V.sl.set i x).length
    rw [hlen]
    simp only [hg]
    exact hO.sts
  · show (V.sl.set i x).length < 2000
    rw [hlen]; exact hO.sln
  · show (V.jr ++ [e]).length < 60000
    rw [List.length_append, List.length_singleton]; omega
  · intro y hy
    rcases List.mem_append.1 hy with h | h
    · exact hO.jrw y h
    · obtain rfl := List.mem_singleton.1 h; exact he
/-- The vault with a slot changed to x and the entry e behind the journal. -/
def Vl.setS (V : Vl) (key : Nat) (t : Nat → Int) (x : VSl) (e : VE) : Vl := { V.ens key t with sl := (V.ens key t).sl.set (V.is key) x, jr := V.jr ++ [e] }
theorem Vl.ens_jr {V : Vl} {key : Nat} {t : Nat → Int} : (V.ens key t).jr = V.jr := by unfold Vl.ens; split <;> rfl
/-- The slot with its own key, zeros if there is none. -/
def Vl.slt' (V : Vl) (key : Nat) : VSl := if V.is key < V.sl.length then V.slt key else newS key
theorem Vl.ens_slt {V : Vl} {key : Nat} {t : Nat → Int} : (V.ens key t).sl.getD (V.is key) dVS = V.slt' key := by
  unfold Vl.ens Vl.slt'
  split
  · rfl
  · rename_i h
    have : V.is key = V.sl.length := Nat.le_antisymm List.findIdx_le_length (by omega)
    show (V.sl ++ [newS key]).getD (V.is key) dVS = _
    rw [this, List.getD_eq_getElem?_getD, List.getElem?_append_right (Nat.le_refl _), Nat.sub_self]; rfl
/-- What a setter of a slot leaves. -/
def SetSP (I : Ent → Prop) (R : List Ent) (cb sz : Nat) (T : TypeId) (c : Nat → Value) (V : Vl) (key : Nat) (x : VSl) (e : VE) : Post := fun r S' =>
  r = .bool true ∧ ∃ c' G' t, S' = ⟨I, ⟨cb, sz, T, c'⟩ :: (R ++ G')⟩ ∧ VI I c' (V.setS key t x e) G' ∧ VOk (V.setS key t x e) ∧ Out c c'
theorem closeS {I : Ent → Prop} {c1 : Nat → Value} {V : Vl} {key : Nat} {t : Nat → Int} {b cap i : Nat} {ca ca' : Nat → Value} {Y MJ M' : List Ent} {v' : Value} {x : VSl} {e : VE} {l : List Value} (hA : SO I c1 (V.ens key t) b cap ca Y MJ) (hix : V.is key = i)
    (hE : Els ⟨b, mulS cap 14, 186, ca'⟩ 0 14 (((V.ens key t).sl.map VSl.enc).set i l)) (hl : l = x.enc) (hj : OwnL 228 9 v' ((V.ens key t).jr.map VE.enc ++ [e.enc]) M') : VI I (upd c1 10629 v') (V.setS key t x e) (⟨b, mulS cap 14, 186, ca'⟩ :: (Y ++ M')) := by
  have := hA.close ca' v' ((V.ens key t).sl.set i x) ((V.ens key t).jr ++ [e]) M' (by rw [List.map_set, ← hl]; exact hE) List.length_set (by rw [List.map_append]; exact hj)
  rw [Vl.ens_jr] at this
  unfold Vl.setS
  rw [hix]; exact this
theorem okS {V : Vl} {key : Nat} {t : Nat → Int} {x : VSl} {e : VE} (hO : VOk (V.ens key t)) (had : x.key = (V.slt' key).key) (hb : x.val < 2 ^ 256 ∧ x.orig < 2 ^ 256) (hj : V.jr.length < 59990) (he : e.w < 2 ^ 256 ∧ e.kd < 11 ∧ e.pl < 2147483648 ∧ e.n < 2 ^ 64) : VOk (V.setS key t x e) := by
  have := hO.setS (i := V.is key) (x := x) (e := e) Vl.ens_is (by rw [Vl.ens_slt]; exact had) hb (by rw [Vl.ens_jr]; exact hj) he
  rw [Vl.ens_jr] at this
  exact this
theorem setVal {x : VSl} {v : Nat} : setN x.enc 5 (wcs v) = ({ x with val := v } : VSl).enc := by simp [setN, VSl.enc, wcs]
theorem setSW {x : VSl} : x.enc.set 13 (.bool true) = ({ x with warm := true } : VSl).enc := rfl
theorem perm_s4 {x y z c s : Ent} {R Y M : List Ent} : (x :: y :: z :: c :: s :: ((R ++ Y) ++ M)).Perm ((c :: (R ++ (s :: (Y ++ M)))) ++ [x, y, z]) := by
  refine perm_sum fun f => ?_
  simp only [sumE, sumE_append]; omega
/-- vault.Vault.WarmSlot -/
theorem vWarmSlot {I : Ent → Prop} {R G : List Ent} {cb sz key : Nat} {T : TypeId} {c : Nat → Value} {V : Vl} {a : List Nat} (hsz : 27019 ≤ sz) (hV : VI I c V G) (hO : VOk V) (ha : AdOk a) (h0 : V.ix a = 0) (h1 : 0 < V.ac.length) (hk : key < 115792089237316195423570985008687907853269984665640564039457584007913129639936) (hroom : V.sl.length < 1990) (hj : V.jr.length < 59990) :
    CallG Hvaf.prog 185 #[ptr cb 2435, bytesV a, .agg (wcs key).toArray] ⟨I, ⟨cb, sz, T, c⟩ :: (R ++ G)⟩ (SetSP I R cb sz T c V key { V.slt' key with warm := true } ⟨5, V.is key, 0, 0, (V.slt' key).warm⟩) := by
  have hal := ha.len
  have hab := ha.bv
  have hln := hO.sln
  have hixl : V.is key ≤ V.sl.length := List.findIdx_le_length
  have hkl : (wcs key).length = 4 := rfl
  have hrm := vRoom (R := R) (cb := cb) (T := T) hsz hV hO
  have hac := vSlotOfO (R := R) (cb := cb) (T := T) hsz hV hO ha h0 h1 hk hroom
  generalize hix : V.is key = i at *
  refine CallG.start (C := mkC Hvaf.prog) cok (args := [ptr cb 2435, bytesV a, .agg (wcs key).toArray]) Hvaf.func185 rfl Hvaf.ntmps185 (by simp) (by kernel_rfl) ?_
  intro xb kb
  repeat (first | refine SeqS.go cok ?_)
  refine CallG.sameL [_, _] hrm ?_
  repeat (first | (refine QuG.keep ?_; first | refine QuG.boxL cok 0 rfl rfl rfl rfl rfl (by assumption) ?_ | refine QuG.boxL cok 1 rfl rfl rfl rfl rfl (by assumption) ?_) | refine SeqS.go cok ?_ | refine CondS.f rfl ?_)
  refine CallG.behind [_, _] hac ?_
  rintro r J G1 hs ⟨c1, b, cap, ca, Y, MJ, t, rfl, hS, hA, hV1, hO1, hout⟩
  cases hS
  have hiL : i < (V.ens key t).sl.length := hix ▸ Vl.ens_is
  have hi' : i < ((V.ens key t).sl.map VSl.enc).length := by rw [List.length_map]; exact hiL
  have hgd : (V.ens key t).sl.getD i dVS = V.slt' key := by rw [← hix]; exact Vl.ens_slt
  have hm : V.slt' key ∈ (V.ens key t).sl := hgd ▸ getD_mem hiL
  have hmap : ((V.ens key t).sl.map VSl.enc).getD i [] = (V.slt' key).enc := by rw [getD_map (d := dVS) hiL, hgd]
  have hen : (((V.ens key t).sl.map VSl.enc).getD i []).getD 13 undef = .bool (V.slt' key).warm := by rw [hmap]; rfl
  have q1 := hO1.sbd _ hm
  have hE := hA.els
  have hsl := hA.sl
  have hjr := hA.jr
  obtain ⟨jad, jcap, hjf⟩ := hjr.form
  rw [List.length_map] at hjf
  rw [hjf] at hjr
  have hrd : ∀ L, Rd ⟨I, L ++ (⟨cb, sz, T, c1⟩ :: ⟨b, mulS cap 14, 186, ca⟩ :: ((R ++ Y) ++ MJ))⟩ ⟨b, mulS cap 14, 186, ca⟩ := fun L => .inr (by simp)
  repeat (first | (refine QuG.keep ?_; refine QuG.elF cok hE (hrd [_, _]) rfl rfl rfl rfl elO hi' (by decide) hen ?_) | (refine QuG.keep ?_; first | refine QuG.l1E cok 2 rfl rfl rfl rfl rfl (by first | exact Nat.le_of_ble_eq_true rfl | omega | (dsimp only; omega) | (simp only [addS_eq, mulS_eq]; omega)) (by assumption) ?_) | refine SeqS.go cok ?_ | refine CondS.f rfl ?_ | refine And.intro (fillOk_of (Eq.refl true)) ?_ | refine And.intro (Eq.refl true) ?_ | refine And.intro (by omega) ?_ | refine And.intro (by dsimp only; omega) ?_ | (refine NatS.keep ?_; first | with_reducible refine NatS.nat ?_) | refine W.drawI 6 cok [0, 0, 2, 6, 14, 0, 0, 64, 192, 448, 0, 1984, 4032, 8128, 16352, 32736, 65534, 131071, 262143, 524287] [0, 1, 2, 3, 4, 5, 6, 7, 8, 9, 10, 11, 12, 13, 14, 15, 16, 17, 18, 19] [4, 9, 13] (by kernel_rfl) (by kernel_rfl) ?_)
  intro tb
  repeat (first | (refine still_in ?_; first | refine still_nil ?_ | refine still_drop (by decide) ?_ | (refine still_keep (by decide) rfl ?_ ?_; first | exact QuV.l1 cok 3 rfl rfl rfl rfl rfl (by first | exact Nat.le_of_ble_eq_true rfl | omega | (dsimp only; omega) | (simp only [addS_eq, mulS_eq]; omega)) (by assumption))))
  refine OpG.keep ?_
  refine OpG.app1 cok (L := _ :: _ :: _ :: _ :: (R ++ Y)) (M := MJ) (vss := (V.ens key t).jr.map VE.enc) (el := (VE.mk 5 i 0 0 (V.slt' key).warm).enc) rfl rfl rfl rfl rfl rfl rfl rfl rfl ?_ ?_ ?_ ?_ ?_ ?_
  · exact hjr
  · exact row_eq (eF 5 i _) (Row.updN2 _ 0 _)
  · rfl
  · exact VE.enc_one _
  · rw [List.length_map, Vl.ens_jr]; omega
  intro v' M' hO'
  have hone' := hO'.one
  have hsl2 : upd c1 10629 v' 2436 = sl b 0 (V.ens key t).sl.length cap := (updNe (by decide)).trans hsl
  repeat (first | (refine QuG.keep ?_; first | refine QuG.l1E cok 2 rfl rfl rfl rfl rfl (by first | exact Nat.le_of_ble_eq_true rfl | omega | (dsimp only; omega) | (simp only [addS_eq, mulS_eq]; omega)) (by assumption) ?_) | (refine OpG.keep ?_; first | refine OpG.s1 cok 2 rfl rfl rfl rfl rfl (by first | exact Nat.le_of_ble_eq_true rfl | omega | (dsimp only; omega) | (simp only [addS_eq, mulS_eq]; omega)) rfl (by assumption) ?_) | refine SeqS.go cok ?_ | refine And.intro (by omega) ?_ | (refine NatS.keep ?_; first | with_reducible refine NatS.nat ?_) | (refine still_in ?_; first | refine still_drop (by decide) ?_))
  refine OpG.keep ?_
  refine OpG.elF cok 3 rfl hE rfl rfl rfl rfl elO hi' (by decide) (u := .bool true) rfl rfl ?_
  intro ca' hE'
  repeat (first | refine SeqS.go cok ?_)
  exact Fin.perm [_, _] (⟨cb, sz, T, _⟩ :: (R ++ (⟨b, mulS cap 14, 186, ca'⟩ :: (Y ++ M')))) perm_s3 ⟨rfl, _, _, t, rfl, closeS hA hix hE' (by rw [hmap]; exact setSW) hO', okS hO1 rfl q1 hj ⟨by show 0 < 2 ^ 256; decide, by show 5 < 11; decide, by show i < _; omega, by show 0 < 2 ^ 64; decide⟩, hout.trans out10629⟩
/-- vault.Vault.Store -/
theorem vStore {I : Ent → Prop} {R G : List Ent} {cb sz key v : Nat} {T : TypeId} {c : Nat → Value} {V : Vl} {a : List Nat} (hsz : 27019 ≤ sz) (hV : VI I c V G) (hO : VOk V) (ha : AdOk a) (h0 : V.ix a = 0) (h1 : 0 < V.ac.length) (hk : key < 115792089237316195423570985008687907853269984665640564039457584007913129639936) (hroom : V.sl.length < 1990) (hj : V.jr.length < 59990) (hv : v < 115792089237316195423570985008687907853269984665640564039457584007913129639936) :
    CallG Hvaf.prog 316 #[ptr cb 2435, bytesV a, .agg (wcs key).toArray, .agg (wcs v).toArray] ⟨I, ⟨cb, sz, T, c⟩ :: (R ++ G)⟩ (SetSP I R cb sz T c V key { V.slt' key with val := v } ⟨3, V.is key, 0, (V.slt' key).val, false⟩) := by
  have hal := ha.len
  have hab := ha.bv
  have hln := hO.sln
  have hixl : V.is key ≤ V.sl.length := List.findIdx_le_length
  have hkl : (wcs key).length = 4 := rfl
  have hvl : (wcs v).length = 4 := rfl
  have hvo := wcs_one v
  have hrm := vRoom (R := R) (cb := cb) (T := T) hsz hV hO
  have hac := vSlotOfO (R := R) (cb := cb) (T := T) hsz hV hO ha h0 h1 hk hroom
  generalize hix : V.is key = i at *
  refine CallG.start (C := mkC Hvaf.prog) cok (args := [ptr cb 2435, bytesV a, .agg (wcs key).toArray, .agg (wcs v).toArray]) Hvaf.func316 rfl Hvaf.ntmps316 (by simp) (by kernel_rfl) ?_
  intro xb kb vb
  repeat (first | refine SeqS.go cok ?_)
  refine CallG.sameL [_, _, _] hrm ?_
  repeat (first | (refine QuG.keep ?_; first | refine QuG.boxL cok 1 rfl rfl rfl rfl rfl (by assumption) ?_ | refine QuG.boxL cok 2 rfl rfl rfl rfl rfl (by assumption) ?_) | refine SeqS.go cok ?_ | refine CondS.f rfl ?_)
  refine CallG.behind [_, _, _] hac ?_
  rintro r J G1 hs ⟨c1, b, cap, ca, Y, MJ, t, rfl, hS, hA, hV1, hO1, hout⟩
  cases hS
  have hiL : i < (V.ens key t).sl.length := hix ▸ Vl.ens_is
  have hi' : i < ((V.ens key t).sl.map VSl.enc).length := by rw [List.length_map]; exact hiL
  have hgd : (V.ens key t).sl.getD i dVS = V.slt' key := by rw [← hix]; exact Vl.ens_slt
  have hm : V.slt' key ∈ (V.ens key t).sl := hgd ▸ getD_mem hiL
  have hmap : ((V.ens key t).sl.map VSl.enc).getD i [] = (V.slt' key).enc := by rw [getD_map (d := dVS) hiL, hgd]
  have hen : ((((V.ens key t).sl.map VSl.enc).getD i []).drop 5).take 4 = wcs (V.slt' key).val := by rw [hmap]; rfl
  have q1 := hO1.sbd _ hm
  have hE := hA.els
  have hsl := hA.sl
  have hjr := hA.jr
  obtain ⟨jad, jcap, hjf⟩ := hjr.form
  rw [List.length_map] at hjf
  rw [hjf] at hjr
  have hrd : ∀ L, Rd ⟨I, L ++ (⟨cb, sz, T, c1⟩ :: ⟨b, mulS cap 14, 186, ca⟩ :: ((R ++ Y) ++ MJ))⟩ ⟨b, mulS cap 14, 186, ca⟩ := fun L => .inr (by simp)
  repeat (first | (refine QuG.keep ?_; refine QuG.elS cok hE (hrd [_, _, _]) rfl rfl rfl rfl elO hi' (by decide) hen ?_) | (refine QuG.keep ?_; first | refine QuG.l1E cok 3 rfl rfl rfl rfl rfl (by first | exact Nat.le_of_ble_eq_true rfl | omega | (dsimp only; omega) | (simp only [addS_eq, mulS_eq]; omega)) (by assumption) ?_) | refine SeqS.go cok ?_ | refine CondS.f rfl ?_ | refine And.intro (fillOk_of (Eq.refl true)) ?_ | refine And.intro (Eq.refl true) ?_ | refine And.intro (by omega) ?_ | refine And.intro (by dsimp only; omega) ?_ | (refine NatS.keep ?_; first | with_reducible refine NatS.nat ?_) | refine W.drawI 6 cok [0, 0, 2, 6, 14, 0, 0, 64, 192, 448, 0, 1984, 4032, 8128, 16352, 32736, 65534, 131071, 262143, 524287] [0, 1, 2, 3, 4, 5, 6, 7, 8, 9, 10, 11, 12, 13, 14, 15, 16, 17, 18, 19] [4, 9, 13] (by kernel_rfl) (by kernel_rfl) ?_)
  intro tb
  repeat (first | (refine still_in ?_; first | refine still_nil ?_ | refine still_drop (by decide) ?_ | (refine still_keep (by decide) rfl ?_ ?_; first | exact QuV.l1 cok 4 rfl rfl rfl rfl rfl (by first | exact Nat.le_of_ble_eq_true rfl | omega | (dsimp only; omega) | (simp only [addS_eq, mulS_eq]; omega)) (by assumption))))
  refine OpG.keep ?_
  refine OpG.app1 cok (L := _ :: _ :: _ :: _ :: _ :: (R ++ Y)) (M := MJ) (vss := (V.ens key t).jr.map VE.enc) (el := (VE.mk 3 i 0 (V.slt' key).val false).enc) rfl rfl rfl rfl rfl rfl rfl rfl rfl ?_ ?_ ?_ ?_ ?_ ?_
  · exact hjr
  · exact row_eq (eW 3 i _) (Row.updN2 _ 0 _)
  · rfl
  · exact VE.enc_one _
  · rw [List.length_map, Vl.ens_jr]; omega
  intro v' M' hO'
  have hone' := hO'.one
  have hsl2 : upd c1 10629 v' 2436 = sl b 0 (V.ens key t).sl.length cap := (updNe (by decide)).trans hsl
  repeat (first | (refine QuG.keep ?_; first | refine QuG.l1E cok 3 rfl rfl rfl rfl rfl (by first | exact Nat.le_of_ble_eq_true rfl | omega | (dsimp only; omega) | (simp only [addS_eq, mulS_eq]; omega)) (by assumption) ?_ | refine QuG.boxL cok 0 rfl rfl rfl rfl rfl (by assumption) ?_) | (refine OpG.keep ?_; first | refine OpG.s1 cok 3 rfl rfl rfl rfl rfl (by first | exact Nat.le_of_ble_eq_true rfl | omega | (dsimp only; omega) | (simp only [addS_eq, mulS_eq]; omega)) rfl (by assumption) ?_) | refine SeqS.go cok ?_ | refine And.intro (by omega) ?_ | (refine NatS.keep ?_; first | with_reducible refine NatS.nat ?_) | (refine still_in ?_; first | refine still_drop (by decide) ?_) | refine W.drawI 7 cok [0, 1, 3, 7, 0, 0, 63, 127, 255] [0, 1, 2, 3, 4, 5, 6, 7, 8] [3, 5] (by kernel_rfl) (by kernel_rfl) ?_)
  refine OpG.keep ?_
  refine OpG.elS cok 4 (vs := wcs v) rfl hE rfl rfl rfl elO hi' rfl hvl (by show 5 + 4 ≤ 14; decide) hvo ?_
  intro ca' hE'
  repeat (first | refine SeqS.go cok ?_ | (refine still_in ?_; first | refine still_drop (by decide) ?_))
  exact Fin.perm [_, _, _] (⟨cb, sz, T, _⟩ :: (R ++ (⟨b, mulS cap 14, 186, ca'⟩ :: (Y ++ M')))) perm_s4 ⟨rfl, _, _, t, rfl, closeS hA hix hE' (by rw [hmap]; exact setVal) hO', okS hO1 rfl ⟨hv, q1.2⟩ hj ⟨q1.1, by show 3 < 11; decide, by show i < _; omega, by show 0 < 2 ^ 64; decide⟩, hout.trans out10629⟩
end Go.Proofs.YgvafwGreat
