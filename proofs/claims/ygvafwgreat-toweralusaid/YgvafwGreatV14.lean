import Derived.Test.YgvafwGreatV13
set_option exponentiation.threshold 1000
set_option maxRecDepth 100000
set_option maxHeartbeats 4000000
set_option linter.unusedVariables false
set_option linter.unusedSimpArgs false
-- v2
-- v4
-- v5
-- v6
-- v7
-- still: exact QuV.of (QuG.elS cok hE (hrd [_, _, _]) rfl rfl rfl rfl elO hi' (by decide) hen rfl)
-- still: exact QuV.of (QuG.elF cok hE (hrd [_, _]) rfl rfl rfl rfl elO hi' (by decide) hen rfl)
namespace Go.Proofs.YgvafwGreat
open Go.HL Go.Proofs

theorem Vl.ete_it {V : Vl} {key : Nat} {t : Nat → Int} : V.it key < (V.ete key t).tp.length := by
  unfold Vl.ete
  split
  · assumption
  · have : V.it key ≤ V.tp.length := List.findIdx_le_length
    show V.it key < (V.tp ++ [newT key]).length
    rw [List.length_append, List.length_singleton]; omega
/-- The slots' block and the journal laid open. -/
structure TO (I : Ent → Prop) (c : Nat → Value) (V : Vl) (b cap : Nat) (ca : Nat → Value) (Y MJ : List Ent) : Prop where
  sl : c 27017 = sl b 0 V.tp.length cap
  els : Els ⟨b, mulS cap 9, 440, ca⟩ 0 9 (V.tp.map VTp.enc)
  jr : OwnL 228 9 (c 10629) (V.jr.map VE.enc) MJ
  close : ∀ ca' v' tp' jr' MJ', Els ⟨b, mulS cap 9, 440, ca'⟩ 0 9 (tp'.map VTp.enc) → tp'.length = V.tp.length → OwnL 228 9 v' (jr'.map VE.enc) MJ' → VI I (upd c 10629 v') { V with tp := tp', jr := jr' } (⟨b, mulS cap 9, 440, ca'⟩ :: (Y ++ MJ'))
theorem VI.openT {I : Ent → Prop} {c : Nat → Value} {V : Vl} {G : List Ent} (h : VI I c V G) (hl : 0 < V.tp.length) : ∃ b cap ca Y MJ, G.Perm (⟨b, mulS cap 9, 440, ca⟩ :: (Y ++ MJ)) ∧ TO I c V b cap ca Y MJ := by
  obtain ⟨MA, MS, MJ, ML, MT, MH, hq, hb⟩ := h.own
  obtain ⟨b, cap, ca, h1, h2, rfl, h4⟩ := hb.ot.some (by rw [List.length_map]; exact hl)
  rw [List.length_map] at h1
  rw [List.length_map] at h2
  refine ⟨b, cap, ca, MA ++ (MS ++ (ML ++ MH)), MJ, hq.trans (perm_sum fun f => ?_), h1, h4, hb.oj, ?_⟩
  · simp only [sumE, sumE_append]; omega
  · intro ca' v' ac' jr' MJ' hE hlen hj
    have e : ∀ k, k ≠ 10629 → upd c 10629 v' k = c k := fun k hk => updNe hk
    have e0 : upd c 10629 v' 10629 = v' := updEq
    generalize upd c 10629 v' = c' at *
    refine ⟨⟨MA, MS, MJ', ML, [⟨b, mulS cap 9, 440, ca'⟩], MH, perm_sum fun f => ?_, ?_⟩, fun q hq => ?_, fun q hq => ?_, ?_, ?_, ?_, h.cd⟩
    · simp only [sumE, sumE_append]; omega
    · refine ⟨?_, ?_, ?_, ?_, ?_, ?_⟩
      · rw [e 2435 (by omega)]; exact hb.oa
      · rw [e 2436 (by omega)]; exact hb.os
      · rw [e0]; exact hj
      · rw [e 27016 (by omega)]; exact hb.ol
      · rw [e 27017 (by omega), h1]
        exact OwnL.of hE (by rw [List.length_map]; exact hlen.symm) (by rw [List.length_map, hlen]; exact h2)
      · rw [e 27018 (by omega)]
        rcases hb.oh with ⟨q1, q2, q3⟩ | q
        · rw [q2] at hl; simp at hl
        · exact .inr q
    · rw [e _ (by omega)]; exact h.ta q hq
    · rw [e _ (by omega)]; exact h.ts q hq
    · rw [e _ (by omega)]; exact h.mrk
    · rw [e _ (by omega)]; exact h.nm
    · rw [e _ (by omega)]; exact h.rf
/-- vault.Vault.tempOf, with what it leaves laid open -/
theorem vTempOfO {I : Ent → Prop} {R G : List Ent} {cb sz key : Nat} {T : TypeId} {c : Nat → Value} {V : Vl} {a : List Nat} (hsz : 27019 ≤ sz) (hV : VI I c V G) (hO : VOk V) (ha : AdOk a) (h0 : V.ix a = 0) (h1 : 0 < V.ac.length) (hk : key < 115792089237316195423570985008687907853269984665640564039457584007913129639936) (hroom : V.tp.length < 11990) :
    CallG Hvaf.prog 393 #[ptr cb 2435, bytesV a, .agg (wcs key).toArray] ⟨I, ⟨cb, sz, T, c⟩ :: (R ++ G)⟩ fun r S' => ∃ c' b cap ca Y MJ t, r = .tuple #[.int .i32 (V.it key : Nat), .bool true] ∧ S' = ⟨I, ⟨cb, sz, T, c'⟩ :: ⟨b, mulS cap 9, 440, ca⟩ :: ((R ++ Y) ++ MJ)⟩ ∧ TO I c' (V.ete key t) b cap ca Y MJ ∧ VI I c' (V.ete key t) (⟨b, mulS cap 9, 440, ca⟩ :: (Y ++ MJ)) ∧ VOk (V.ete key t) ∧ Out c c' := by
  refine CallG.post ((vTempOf hsz hV hO ha h0 h1 hk hroom).mono ?_)
  rintro r _ - ⟨rfl, c', G', t, rfl, hV', hO', ho⟩
  obtain ⟨b, cap, ca, Y, MJ, hp, hA⟩ := hV'.openT (Nat.lt_of_le_of_lt (Nat.zero_le _) Vl.ete_it)
  refine Rel.perm (⟨cb, sz, T, c'⟩ :: ⟨b, mulS cap 9, 440, ca⟩ :: ((R ++ Y) ++ MJ)) [] ?_ ⟨c', b, cap, ca, Y, MJ, t, rfl, rfl, hA, hV'.perm hp.symm, hO', ho⟩
  refine perm_sum fun f => ?_
  have := sumE_perm (f := f) hp
  simp only [sumE, sumE_append] at this ⊢; omega
theorem VOk.setT {V : Vl} (hO : VOk V) {i : Nat} {x : VTp} {e : VE} (hi : i < V.tp.length) (had : x.key = (V.tp.getD i dVT).key) (hb : x.val < 2 ^ 256) (hj : V.jr.length < 59990) (he : e.w < 2 ^ 256 ∧ e.kd < 11 ∧ e.pl < 2147483648 ∧ e.n < 2 ^ 64) : VOk { V with tp := V.tp.set i x, jr := V.jr ++ [e] } := by
  have hm : ∀ {P : VTp → Prop}, (∀ x ∈ V.tp, P x) → P x → ∀ y ∈ V.tp.set i x, P y := by
    intro P h1 h2 y hy
    rcases List.mem_or_eq_of_mem_set hy with h | h
    · exact h1 y h
    · rw [h]; exact h2
  have hmap : (V.tp.set i x).map VTp.key = V.tp.map VTp.key := by
    rw [List.map_set, had]
    have h1 : i < (V.tp.map VTp.key).length := by rw [List.length_map]; exact hi
    have h2 : (V.tp.getD i dVT).key = (V.tp.map VTp.key)[i] := by rw [List.getD_eq_getElem?_getD, List.getElem?_eq_getElem hi]; simp
    rw [h2, List.set_getElem_self]
  have hlen : (V.tp.set i x).length = V.tp.length := List.length_set
  have hg : ∀ j, ((V.tp.set i x).getD j dVT).key = (V.tp.getD j dVT).key := by
    intro j
    by_cases hij : i = j
    · subst hij; rw [_root_.Go.HL.getD_set_eq hi, had]
    · rw [_root_.Go.HL.getD_set_ne hij]
  refine { hO with tky := hm hO.tky (by rw [had]; exact hO.tky _ (getD_mem hi)), tbd := hm hO.tbd hb, tnd := ?_, ttt := ?_, tln := ?_, jln := ?_, jrw := ?_ }
  · show ((V.tp.set i x).map VTp.key).Nodup
    rw [hmap]; exact hO.tnd
  · show TabOk 16384 V.tt (fun j => mixN 0 ((V.tp.set i x).getD j dVT).key % 16384) (V.tp.set i x).length
    rw [hlen]
    simp only [hg]
    exact hO.ttt
  · show (V.tp.set i x).length < 12000
    rw [hlen]; exact hO.tln
  · show (V.jr ++ [e]).length < 60000
    rw [List.length_append, List.length_singleton]; omega
  · intro y hy
    rcases List.mem_append.1 hy with h | h
    · exact hO.jrw y h
    · obtain rfl := List.mem_singleton.1 h; exact he
/-- The vault with a slot changed to x and the entry e behind the journal. -/
def Vl.setT (V : Vl) (key : Nat) (t : Nat → Int) (x : VTp) (e : VE) : Vl := { V.ete key t with tp := (V.ete key t).tp.set (V.it key) x, jr := V.jr ++ [e] }
theorem Vl.ete_jr {V : Vl} {key : Nat} {t : Nat → Int} : (V.ete key t).jr = V.jr := by unfold Vl.ete; split <;> rfl
/-- The slot with its own key, zeros if there is none. -/
def Vl.tmp' (V : Vl) (key : Nat) : VTp := if V.it key < V.tp.length then V.tmp key else newT key
theorem Vl.ete_tmp {V : Vl} {key : Nat} {t : Nat → Int} : (V.ete key t).tp.getD (V.it key) dVT = V.tmp' key := by
  unfold Vl.ete Vl.tmp'
  split
  · rfl
  · rename_i h
    have : V.it key = V.tp.length := Nat.le_antisymm List.findIdx_le_length (by omega)
    show (V.tp ++ [newT key]).getD (V.it key) dVT = _
    rw [this, List.getD_eq_getElem?_getD, List.getElem?_append_right (Nat.le_refl _), Nat.sub_self]; rfl
/-- What a setter of a slot leaves. -/
def SetTP (I : Ent → Prop) (R : List Ent) (cb sz : Nat) (T : TypeId) (c : Nat → Value) (V : Vl) (key : Nat) (x : VTp) (e : VE) : Post := fun r S' =>
  r = .bool true ∧ ∃ c' G' t, S' = ⟨I, ⟨cb, sz, T, c'⟩ :: (R ++ G')⟩ ∧ VI I c' (V.setT key t x e) G' ∧ VOk (V.setT key t x e) ∧ Out c c'
theorem closeT {I : Ent → Prop} {c1 : Nat → Value} {V : Vl} {key : Nat} {t : Nat → Int} {b cap i : Nat} {ca ca' : Nat → Value} {Y MJ M' : List Ent} {v' : Value} {x : VTp} {e : VE} {l : List Value} (hA : TO I c1 (V.ete key t) b cap ca Y MJ) (hix : V.it key = i)
    (hE : Els ⟨b, mulS cap 9, 440, ca'⟩ 0 9 (((V.ete key t).tp.map VTp.enc).set i l)) (hl : l = x.enc) (hj : OwnL 228 9 v' ((V.ete key t).jr.map VE.enc ++ [e.enc]) M') : VI I (upd c1 10629 v') (V.setT key t x e) (⟨b, mulS cap 9, 440, ca'⟩ :: (Y ++ M')) := by
  have := hA.close ca' v' ((V.ete key t).tp.set i x) ((V.ete key t).jr ++ [e]) M' (by rw [List.map_set, ← hl]; exact hE) List.length_set (by rw [List.map_append]; exact hj)
  rw [Vl.ete_jr] at this
  unfold Vl.setT
  rw [hix]; exact this
theorem okT2 {V : Vl} {key : Nat} {t : Nat → Int} {x : VTp} {e : VE} (hO : VOk (V.ete key t)) (had : x.key = (V.tmp' key).key) (hb : x.val < 2 ^ 256) (hj : V.jr.length < 59990) (he : e.w < 2 ^ 256 ∧ e.kd < 11 ∧ e.pl < 2147483648 ∧ e.n < 2 ^ 64) : VOk (V.setT key t x e) := by
  have := hO.setT (i := V.it key) (x := x) (e := e) Vl.ete_it (by rw [Vl.ete_tmp]; exact had) hb (by rw [Vl.ete_jr]; exact hj) he
  rw [Vl.ete_jr] at this
  exact this
theorem setValT {x : VTp} {v : Nat} : setN x.enc 5 (wcs v) = ({ x with val := v } : VTp).enc := by simp [setN, VTp.enc, wcs]
/-- vault.Vault.TStore -/
theorem vTStore {I : Ent → Prop} {R G : List Ent} {cb sz key v : Nat} {T : TypeId} {c : Nat → Value} {V : Vl} {a : List Nat} (hsz : 27019 ≤ sz) (hV : VI I c V G) (hO : VOk V) (ha : AdOk a) (h0 : V.ix a = 0) (h1 : 0 < V.ac.length) (hk : key < 115792089237316195423570985008687907853269984665640564039457584007913129639936) (hroom : V.tp.length < 11990) (hj : V.jr.length < 59990) (hv : v < 115792089237316195423570985008687907853269984665640564039457584007913129639936) :
    CallG Hvaf.prog 321 #[ptr cb 2435, bytesV a, .agg (wcs key).toArray, .agg (wcs v).toArray] ⟨I, ⟨cb, sz, T, c⟩ :: (R ++ G)⟩ (SetTP I R cb sz T c V key { V.tmp' key with val := v } ⟨8, V.it key, 0, (V.tmp' key).val, false⟩) := by
  have hal := ha.len
  have hab := ha.bv
  have hln := hO.tln
  have hixl : V.it key ≤ V.tp.length := List.findIdx_le_length
  have hkl : (wcs key).length = 4 := rfl
  have hvl : (wcs v).length = 4 := rfl
  have hvo := wcs_one v
  have hrm := vRoom (R := R) (cb := cb) (T := T) hsz hV hO
  have hac := vTempOfO (R := R) (cb := cb) (T := T) hsz hV hO ha h0 h1 hk hroom
  generalize hix : V.it key = i at *
  refine CallG.start (C := mkC Hvaf.prog) cok (args := [ptr cb 2435, bytesV a, .agg (wcs key).toArray, .agg (wcs v).toArray]) Hvaf.func321 rfl Hvaf.ntmps321 (by simp) (by kernel_rfl) ?_
  intro xb kb vb
  repeat (first | refine SeqS.go cok ?_)
  refine CallG.sameL [_, _, _] hrm ?_
  repeat (first | (refine QuG.keep ?_; first | refine QuG.boxL cok 1 rfl rfl rfl rfl rfl (by assumption) ?_ | refine QuG.boxL cok 2 rfl rfl rfl rfl rfl (by assumption) ?_) | refine SeqS.go cok ?_ | refine CondS.f rfl ?_)
  refine CallG.behind [_, _, _] hac ?_
  rintro r J G1 hs ⟨c1, b, cap, ca, Y, MJ, t, rfl, hS, hA, hV1, hO1, hout⟩
  cases hS
  have hiL : i < (V.ete key t).tp.length := hix ▸ Vl.ete_it
  have hi' : i < ((V.ete key t).tp.map VTp.enc).length := by rw [List.length_map]; exact hiL
  have hgd : (V.ete key t).tp.getD i dVT = V.tmp' key := by rw [← hix]; exact Vl.ete_tmp
  have hm : V.tmp' key ∈ (V.ete key t).tp := hgd ▸ getD_mem hiL
  have hmap : ((V.ete key t).tp.map VTp.enc).getD i [] = (V.tmp' key).enc := by rw [getD_map (d := dVT) hiL, hgd]
  have hen : ((((V.ete key t).tp.map VTp.enc).getD i []).drop 5).take 4 = wcs (V.tmp' key).val := by rw [hmap]; rfl
  have q1 := hO1.tbd _ hm
  have hE := hA.els
  have hsl := hA.sl
  have hjr := hA.jr
  obtain ⟨jad, jcap, hjf⟩ := hjr.form
  rw [List.length_map] at hjf
  rw [hjf] at hjr
  have hrd : ∀ L, Rd ⟨I, L ++ (⟨cb, sz, T, c1⟩ :: ⟨b, mulS cap 9, 440, ca⟩ :: ((R ++ Y) ++ MJ))⟩ ⟨b, mulS cap 9, 440, ca⟩ := fun L => .inr (by simp)
  repeat (first | (refine QuG.keep ?_; refine QuG.elS cok hE (hrd [_, _, _]) rfl rfl rfl rfl elO hi' (by decide) hen ?_) | (refine QuG.keep ?_; first | refine QuG.l1E cok 3 rfl rfl rfl rfl rfl (by first | exact Nat.le_of_ble_eq_true rfl | omega | (dsimp only; omega) | (simp only [addS_eq, mulS_eq]; omega)) (by assumption) ?_) | refine SeqS.go cok ?_ | refine CondS.f rfl ?_ | refine And.intro (fillOk_of (Eq.refl true)) ?_ | refine And.intro (Eq.refl true) ?_ | refine And.intro (by omega) ?_ | refine And.intro (by dsimp only; omega) ?_ | (refine NatS.keep ?_; first | with_reducible refine NatS.nat ?_) | refine W.drawI 6 cok [0, 0, 2, 6, 14, 0, 0, 64, 192, 448, 0, 1984, 4032, 8128, 16352, 32736, 65534, 131071, 262143, 524287] [0, 1, 2, 3, 4, 5, 6, 7, 8, 9, 10, 11, 12, 13, 14, 15, 16, 17, 18, 19] [4, 9, 13] (by kernel_rfl) (by kernel_rfl) ?_)
  intro tb
  repeat (first | (refine still_in ?_; first | refine still_nil ?_ | refine still_drop (by decide) ?_ | (refine still_keep (by decide) rfl ?_ ?_; first | exact QuV.l1 cok 4 rfl rfl rfl rfl rfl (by first | exact Nat.le_of_ble_eq_true rfl | omega | (dsimp only; omega) | (simp only [addS_eq, mulS_eq]; omega)) (by assumption))))
  refine OpG.keep ?_
  refine OpG.app1 cok (L := _ :: _ :: _ :: _ :: _ :: (R ++ Y)) (M := MJ) (vss := (V.ete key t).jr.map VE.enc) (el := (VE.mk 8 i 0 (V.tmp' key).val false).enc) rfl rfl rfl rfl rfl rfl rfl rfl rfl ?_ ?_ ?_ ?_ ?_ ?_
  · exact hjr
  · exact row_eq (eW 8 i _) (Row.updN2 _ 0 _)
  · rfl
  · exact VE.enc_one _
  · rw [List.length_map, Vl.ete_jr]; omega
  intro v' M' hO'
  have hone' := hO'.one
  have hsl2 : upd c1 10629 v' 27017 = sl b 0 (V.ete key t).tp.length cap := (updNe (by decide)).trans hsl
  repeat (first | (refine QuG.keep ?_; first | refine QuG.l1E cok 3 rfl rfl rfl rfl rfl (by first | exact Nat.le_of_ble_eq_true rfl | omega | (dsimp only; omega) | (simp only [addS_eq, mulS_eq]; omega)) (by assumption) ?_ | refine QuG.boxL cok 0 rfl rfl rfl rfl rfl (by assumption) ?_) | (refine OpG.keep ?_; first | refine OpG.s1 cok 3 rfl rfl rfl rfl rfl (by first | exact Nat.le_of_ble_eq_true rfl | omega | (dsimp only; omega) | (simp only [addS_eq, mulS_eq]; omega)) rfl (by assumption) ?_) | refine SeqS.go cok ?_ | refine And.intro (by omega) ?_ | (refine NatS.keep ?_; first | with_reducible refine NatS.nat ?_) | (refine still_in ?_; first | refine still_drop (by decide) ?_) | refine W.drawI 7 cok [0, 1, 3, 7, 0, 0, 63, 127, 255] [0, 1, 2, 3, 4, 5, 6, 7, 8] [3, 5] (by kernel_rfl) (by kernel_rfl) ?_)
  refine OpG.keep ?_
  refine OpG.elS cok 4 (vs := wcs v) rfl hE rfl rfl rfl elO hi' rfl hvl (by show 5 + 4 ≤ 9; decide) hvo ?_
  intro ca' hE'
  repeat (first | refine SeqS.go cok ?_ | (refine still_in ?_; first | refine still_drop (by decide) ?_))
  exact Fin.perm [_, _, _] (⟨cb, sz, T, _⟩ :: (R ++ (⟨b, mulS cap 9, 440, ca'⟩ :: (Y ++ M')))) perm_s4 ⟨rfl, _, _, t, rfl, closeT hA hix hE' (by rw [hmap]; exact setValT) hO', okT2 hO1 rfl hv hj ⟨q1, by show 8 < 11; decide, by show i < _; omega, by show 0 < 2 ^ 64; decide⟩, hout.trans out10629⟩
end Go.Proofs.YgvafwGreat
