import Derived.Test.YgvafwGreatV12
set_option exponentiation.threshold 1000
set_option maxRecDepth 100000
set_option maxHeartbeats 4000000
set_option linter.unusedVariables false
set_option linter.unusedSimpArgs false
-- v2
-- v4
-- v5
-- v6
-- v7
namespace Go.Proofs.YgvafwGreat
open Go.HL Go.Proofs

def newT (key : Nat) : VTp := ⟨key, 0⟩
/-- The vault with the transient slot entered. -/
def Vl.ete (V : Vl) (key : Nat) (t : Nat → Int) : Vl := if V.it key < V.tp.length then V else { V with tp := V.tp ++ [newT key], tt := t }
theorem build_newT (key : Nat) : cellsFrom (fillC z440 [(0, 1, .int .i32 ((0 : Nat) : Int)), (1, 4, .agg (wcs key).toArray)]) 0 9 = (newT key).enc := by
  show _ = .int .i32 ((0 : Nat) : Int) :: (wcs key ++ wcs 0)
  rw [wcs0]; rfl
theorem VTp.enc_one (x : VTp) : ∀ u ∈ x.enc, one u = true := by
  intro u hu
  simp only [VTp.enc, wcs, List.mem_cons, List.cons_append, List.nil_append, List.not_mem_nil, or_false] at hu
  rcases hu with rfl | rfl | rfl | rfl | rfl | rfl | rfl | rfl | rfl <;> rfl
theorem VOk.ete {V : Vl} {key p : Nat} (hO : VOk V) (hk : key < 115792089237316195423570985008687907853269984665640564039457584007913129639936) (hi : ¬ V.it key < V.tp.length) (hp : FreeAt 16384 V.tt (mixN 0 key % 16384) p) (hroom : V.tp.length < 11990) : VOk (V.ete key fun q => if q = p then (V.tp.length : Int) else V.tt q) := by
  rw [Vl.ete, if_neg hi]
  have hm : ∀ {P : VTp → Prop}, (∀ x ∈ V.tp, P x) → P (newT key) → ∀ x ∈ V.tp ++ [newT key], P x := by
    intro P h1 h2 x hx
    rcases List.mem_append.1 hx with h | h
    · exact h1 x h
    · obtain rfl := List.mem_singleton.1 h; exact h2
  refine { hO with tky := hm hO.tky hk, tbd := hm hO.tbd (by show (0 : Nat) < _; decide), tnd := ?_, ttt := ?_, tln := ?_ }
  · show ((V.tp ++ [newT key]).map VTp.key).Nodup
    rw [List.map_append, List.nodup_append]
    refine ⟨hO.tnd, by simp, ?_⟩
    intro x hx y hy
    obtain rfl := List.mem_singleton.1 hy
    obtain ⟨z, hz, rfl⟩ := List.mem_map.1 hx
    obtain ⟨j, hj, rfl⟩ := List.getElem_of_mem hz
    have := Vl.itN hi hj
    rw [List.getD_eq_getElem?_getD, List.getElem?_eq_getElem hj, Option.getD_some] at this
    exact this
  · show TabOk 16384 _ (fun i => mixN 0 ((V.tp ++ [newT key]).getD i dVT).key % 16384) (V.tp ++ [newT key]).length
    rw [List.length_append]
    refine hO.ttt.add hp (fun i hi' => ?_) ?_
    · show mixN 0 ((V.tp ++ [newT key]).getD i dVT).key % 16384 = _
      rw [List.getD_eq_getElem?_getD, List.getElem?_append_left hi', ← List.getD_eq_getElem?_getD]
    · show mixN 0 ((V.tp ++ [newT key]).getD V.tp.length dVT).key % 16384 = _
      rw [List.getD_eq_getElem?_getD, List.getElem?_append_right (Nat.le_refl _), Nat.sub_self]; rfl
  · show (V.tp ++ [newT key]).length < 12000
    rw [List.length_append, List.length_singleton]; omega
/-- The vault once a slot is entered in the table at tb. -/
theorem VI.ete {I : Ent → Prop} {c c' ct : Nat → Value} {V : Vl} {MA MS MJ ML MT MH M' : List Ent} {key p tb : Nat} {v' : Value} (hta : ∀ p, p < 4096 → c (2437 + p) = .int .i32 (V.ta p)) (hts : ∀ p, p < 4096 → c (6533 + p) = .int .i32 (V.ts p)) (hmk : c 10630 = .int .i32 (V.mq : Nat)) (hnm : c 27014 = .int .i32 (V.nm : Nat)) (hrf : c 27015 = .int .u64 (V.rf : Nat)) (hcd : ∀ x ∈ V.ac, Byt ⟨I, []⟩ x.cv x.code) (hb : VIB I c V MA MS MJ ML MT MH) (hi : ¬ V.it key < V.tp.length) (hplt : p < 16384) (hO' : OwnL 440 9 v' (V.tp.map VTp.enc ++ [(newT key).enc]) M')
    (hct : ∀ p, p < 16384 → ct p = .int .i32 (V.tt p)) (e : ∀ k, k < 27017 → c' k = c k) (e0 : c' 27017 = v') (e1 : c' 27018 = sl tb 0 16384 16384) :
    VI I c' (V.ete key fun q => if q = p then (V.tp.length : Int) else V.tt q) (⟨tb, 16384, 21, upd ct (addS 0 (mulS p 1)) (.int .i32 (V.tp.length : Nat))⟩ :: ((MA ++ (MS ++ (MJ ++ ML))) ++ M')) := by
  rw [Vl.ete, if_neg hi]
  have hk : addS 0 (mulS p 1) = p := by rw [addS_mulS _ _ _ rfl, Nat.zero_add]
  rw [hk]
  refine ⟨⟨MA, MS, MJ, ML, M', [⟨tb, 16384, 21, upd ct p (.int .i32 (V.tp.length : Nat))⟩], perm_sum fun f => ?_, ?_⟩, fun q hq => ?_, fun q hq => ?_, ?_, ?_, ?_, hcd⟩
  · simp only [sumE, sumE_append]; omega
  · refine ⟨?_, ?_, ?_, ?_, ?_, ?_⟩
    · rw [e 2435 (by omega)]; exact hb.oa
    · rw [e 2436 (by omega)]; exact hb.os
    · rw [e 10629 (by omega)]; exact hb.oj
    · rw [e 27016 (by omega)]; exact hb.ol
    · show OwnL _ 9 (c' 27017) ((V.tp ++ [newT key]).map VTp.enc) M'
      rw [e0, List.map_append]; exact hO'
    · refine .inr ⟨tb, _, e1, rfl, fun q hq => ?_⟩
      show upd ct p _ q = .int .i32 (if q = p then (V.tp.length : Int) else V.tt q)
      by_cases hqp : q = p
      · subst hqp; rw [updEq, if_pos rfl]
      · rw [updNe hqp, if_neg hqp]; exact hct q hq
  · rw [e _ (by omega)]; exact hta q hq
  · rw [e _ (by omega)]; exact hts q hq
  · rw [e _ (by omega)]; exact hmk
  · rw [e _ (by omega)]; exact hnm
  · rw [e _ (by omega)]; exact hrf
def TempP (I : Ent → Prop) (R : List Ent) (cb sz : Nat) (T : TypeId) (c : Nat → Value) (V : Vl) (key : Nat) : Post := fun r S' =>
  r = .tuple #[.int .i32 (V.it key : Nat), .bool true] ∧ ∃ c' G' t, S' = ⟨I, ⟨cb, sz, T, c'⟩ :: (R ++ G')⟩ ∧ VI I c' (V.ete key t) G' ∧ VOk (V.ete key t) ∧ Out c c'
theorem acct0 {I : Ent → Prop} {GG : List Ent} {cb sz : Nat} {T : TypeId} {c : Nat → Value} {a : List Nat} (ha : AdOk a) (hfn : CallG Hvaf.prog 169 #[ptr cb 2435, bytesV a] ⟨I, ⟨cb, sz, T, c⟩ :: GG⟩ fun r S' => ⟨I, ⟨cb, sz, T, c⟩ :: GG⟩ = S' ∧ r = .tuple #[.int .i32 ((0 : Nat) : Int), .int .i32 (-1)]) :
    CallG Hvaf.prog 92 #[ptr cb 2435, bytesV a] ⟨I, ⟨cb, sz, T, c⟩ :: GG⟩ fun r S' => ⟨I, ⟨cb, sz, T, c⟩ :: GG⟩ = S' ∧ r = .tuple #[.int .i32 ((0 : Nat) : Int), .bool true] := by
  have hal := ha.len
  have hab := ha.bv
  refine CallG.start (C := mkC Hvaf.prog) cok (args := [ptr cb 2435, bytesV a]) Hvaf.func92 rfl Hvaf.ntmps92 (by simp) (by kernel_rfl) ?_
  intro xb
  repeat (first | (refine QuG.keep ?_; first | refine QuG.boxL cok 0 rfl rfl rfl rfl rfl (by assumption) ?_) | refine SeqS.go cok ?_)
  refine CallG.sameL [_] hfn ?_
  repeat (first | refine SeqS.go cok ?_ | refine CondS.t rfl ?_)
  exact Fin.drop (⟨cb, sz, T, c⟩ :: GG) [_] ⟨rfl, rfl⟩
/-- vault.Vault.tempOf, where the slot is there -/
theorem vTempY {I : Ent → Prop} {R G : List Ent} {cb sz key : Nat} {T : TypeId} {c : Nat → Value} {V : Vl} {a : List Nat} (hsz : 27019 ≤ sz) (hV : VI I c V G) (hO : VOk V) (ha : AdOk a) (h0 : V.ix a = 0) (h1 : 0 < V.ac.length) (hk : key < 115792089237316195423570985008687907853269984665640564039457584007913129639936) (hi : V.it key < V.tp.length) :
    CallG Hvaf.prog 393 #[ptr cb 2435, bytesV a, .agg (wcs key).toArray] ⟨I, ⟨cb, sz, T, c⟩ :: (R ++ G)⟩ (TempP I R cb sz T c V key) := by
  have hal := ha.len
  have hab := ha.bv
  have hkl : (wcs key).length = 4 := rfl
  have hln := hO.tln
  have hfn := vFindY (R := R) (cb := cb) (T := T) hsz hV hO ha (by omega)
  have hft := vFindTY (R := R) (cb := cb) (T := T) hsz hV hO hk hi
  have he : ∀ t, V.ete key t = V := fun t => by rw [Vl.ete, if_pos hi]
  unfold TempP
  rw [h0] at hfn
  rw [← wcs_word] at hft
  generalize V.it key = i at *
  refine CallG.start (C := mkC Hvaf.prog) cok (args := [ptr cb 2435, bytesV a, .agg (wcs key).toArray]) Hvaf.func393 rfl Hvaf.ntmps393 (by simp) (by kernel_rfl) ?_
  intro xb kb
  repeat (first | (refine QuG.keep ?_; first | refine QuG.boxL cok 1 rfl rfl rfl rfl rfl (by assumption) ?_) | refine SeqS.go cok ?_)
  refine CallG.sameL [_, _] hfn ?_
  repeat (first | (refine QuG.keep ?_; first | refine QuG.boxL cok 0 rfl rfl rfl rfl rfl (by assumption) ?_) | refine SeqS.go cok ?_ | refine CondS.t rfl ?_)
  refine CallG.sameL [_, _] hft ?_
  repeat (first | refine SeqS.go cok ?_ | refine CondS.t rfl ?_)
  exact Fin.drop (⟨cb, sz, T, c⟩ :: (R ++ G)) [_, _] ⟨rfl, c, G, V.tt, rfl, (he _).symm ▸ hV, (he _).symm ▸ hO, .refl _⟩
theorem out_tp {c : Nat → Value} {v : Value} : Out c (upd c 27017 v) := fun k hk => updNe (by omega)
theorem out_tp2 {c : Nat → Value} {v w : Value} : Out c (upd (upd c 27018 w) 27017 v) := fun k hk => by rw [updNe (by omega), updNe (by omega)]
theorem perm_t1 {x y c t : Ent} {R Y M : List Ent} : (x :: y :: c :: t :: ((R ++ Y) ++ M)).Perm ((c :: (R ++ (t :: (Y ++ M)))) ++ [x, y]) := by
  refine perm_sum fun f => ?_
  simp only [sumE, sumE_append]; omega
theorem perm_t0 {x y c t : Ent} {R Y M : List Ent} : (t :: x :: y :: c :: ((R ++ Y) ++ M)).Perm ((c :: (R ++ (t :: (Y ++ M)))) ++ [x, y]) := by
  refine perm_sum fun f => ?_
  simp only [sumE, sumE_append]; omega
/-- vault.Vault.tempOf, where the slot is not there but a table is -/
theorem vTempN1 {I : Ent → Prop} {R G : List Ent} {cb sz key tb : Nat} {T : TypeId} {c ct : Nat → Value} {V : Vl} {a : List Nat} {MA MS MJ ML MT : List Ent} (hsz : 27019 ≤ sz) (hV : VI I c V G) (hO : VOk V) (ha : AdOk a) (h0 : V.ix a = 0) (h1 : 0 < V.ac.length) (hk : key < 115792089237316195423570985008687907853269984665640564039457584007913129639936) (hi : ¬ V.it key < V.tp.length) (hroom : V.tp.length < 11990)
    (hpm : G.Perm (MA ++ (MS ++ (MJ ++ (ML ++ (MT ++ [⟨tb, 16384, 21, ct⟩])))))) (hb : VIB I c V MA MS MJ ML MT [⟨tb, 16384, 21, ct⟩]) (hct0 : c 27018 = sl tb 0 16384 16384) (hct : ∀ p, p < 16384 → ct p = .int .i32 (V.tt p)) :
    CallG Hvaf.prog 393 #[ptr cb 2435, bytesV a, .agg (wcs key).toArray] ⟨I, ⟨cb, sz, T, c⟩ :: (R ++ G)⟩ (TempP I R cb sz T c V key) := by
  have hal := ha.len
  have hab := ha.bv
  have hkl : (wcs key).length = 4 := rfl
  have hln := hO.tln
  have hixe : V.it key = V.tp.length := Nat.le_antisymm List.findIdx_le_length (by omega)
  have hfn := vFindY (R := R) (cb := cb) (T := T) hsz hV hO ha (by omega)
  obtain ⟨p, hp, hft⟩ := vFindTN (R := R) (cb := cb) (T := T) hsz hV hO hk hi hct0 (hpm.symm.subset (by simp)) hct
  have hplt := hp.lt
  have hp2 : addS 0 (mulS p 1) < 16384 := by rw [addS_mulS _ _ _ rfl]; omega
  obtain ⟨⟨ad, cap, hf⟩, -⟩ := hV.tpc
  have hot := hb.ot
  rw [hf] at hot
  have hpm2 : (R ++ G).Perm (⟨tb, 16384, 21, ct⟩ :: ((R ++ (MA ++ (MS ++ (MJ ++ ML)))) ++ MT)) := by
    refine perm_sum fun f => ?_
    have := sumE_perm (f := f) hpm
    simp only [sumE, sumE_append] at this ⊢; omega
  rw [h0] at hfn
  rw [← wcs_word] at hft
  refine CallG.perm _ (hpm2.cons _) ?_
  replace hfn := CallG.samePerm hpm2.symm hfn
  replace hft := CallG.samePerm hpm2.symm hft
  have hac := acct0 ha hfn
  unfold TempP
  rw [hixe]
  refine CallG.start (C := mkC Hvaf.prog) cok (args := [ptr cb 2435, bytesV a, .agg (wcs key).toArray]) Hvaf.func393 rfl Hvaf.ntmps393 (by simp) (by kernel_rfl) ?_
  intro xb kb
  repeat (first | (refine QuG.keep ?_; first | refine QuG.boxL cok 1 rfl rfl rfl rfl rfl (by assumption) ?_) | refine SeqS.go cok ?_)
  refine CallG.sameL [_, _] hfn ?_
  repeat (first | (refine QuG.keep ?_; first | refine QuG.boxL cok 0 rfl rfl rfl rfl rfl (by assumption) ?_) | refine SeqS.go cok ?_ | refine CondS.t rfl ?_)
  refine CallG.sameL [_, _] hft ?_
  repeat (first | (refine QuG.keep ?_; first | refine QuG.l1E cok 2 rfl rfl rfl rfl rfl (by first | exact Nat.le_of_ble_eq_true rfl | omega | (dsimp only; omega) | (simp only [addS_eq, mulS_eq]; omega)) (by assumption) ?_ | refine QuG.boxL cok 1 rfl rfl rfl rfl rfl (by assumption) ?_) | refine SeqS.go cok ?_ | refine CondS.f rfl ?_ | (refine CondS.keep ?_; first | refine CondS.d0 rfl (by omega) ?_))
  refine CallG.sameL [_, _] hac ?_
  repeat (first | (refine QuG.keep ?_; first | refine QuG.l1E cok 2 rfl rfl rfl rfl rfl (by first | exact Nat.le_of_ble_eq_true rfl | omega | (dsimp only; omega) | (simp only [addS_eq, mulS_eq]; omega)) (by assumption) ?_ | refine QuG.boxL cok 0 rfl rfl rfl rfl rfl (by assumption) ?_) | refine SeqS.go cok ?_ | refine CondS.f rfl ?_)
  refine CallG.sameL [_, _] hft ?_
  repeat (first | (refine QuG.keep ?_; first | refine QuG.l1E cok 2 rfl rfl rfl rfl rfl (by first | exact Nat.le_of_ble_eq_true rfl | omega | (dsimp only; omega) | (simp only [addS_eq, mulS_eq]; omega)) (by assumption) ?_ | refine QuG.boxL cok 0 rfl rfl rfl rfl rfl (by assumption) ?_) | refine SeqS.go cok ?_ | refine CondS.f rfl ?_ | refine And.intro (fillOk_of (Eq.refl true)) ?_ | refine And.intro (Eq.refl true) ?_ | refine And.intro (by dsimp only; omega) ?_ | (refine ValS.keep ?_; first | (with_reducible refine ValS.kI32 ?_; first | (with_reducible refine ValS.convI32 ?_ ?_ ; omega))) | refine W.drawI 23 cok [0, 0, 2, 6, 14, 0, 0, 96, 224, 510, 1023, 2047, 4095] [0, 1, 2, 3, 4, 5, 6, 7, 8, 9, 10, 11, 12] [4, 6] (by kernel_rfl) (by kernel_rfl) ?_)
  intro ub
  repeat (first | (refine still_in ?_; first | refine still_nil ?_ | refine still_drop (by decide) ?_ | (refine still_keep (by decide) rfl ?_ ?_; first | exact QuV.l1 cok 3 rfl rfl rfl rfl rfl (by first | exact Nat.le_of_ble_eq_true rfl | omega | (dsimp only; omega) | (simp only [addS_eq, mulS_eq]; omega)) (by assumption))))
  refine OpG.keep ?_
  refine OpG.app1 cok (L := _ :: _ :: _ :: _ :: (R ++ (MA ++ (MS ++ (MJ ++ ML))))) (M := MT) (vss := V.tp.map VTp.enc) (el := (newT key).enc) rfl rfl rfl rfl rfl rfl rfl rfl rfl ?_ ?_ ?_ ?_ ?_ ?_
  · exact hot
  · exact row_eq (build_newT key) (Row.updN2 _ 0 _)
  · rfl
  · exact VTp.enc_one _
  · rw [List.length_map]; omega
  intro v' M' hO'
  have hone' := hO'.one
  have hct2 : upd c 27017 v' 27018 = sl tb 0 16384 16384 := (updNe (by decide)).trans hct0
  repeat (first | (refine QuG.keep ?_; first | refine QuG.l1E cok 2 rfl rfl rfl rfl rfl (by first | exact Nat.le_of_ble_eq_true rfl | omega | (dsimp only; omega) | (simp only [addS_eq, mulS_eq]; omega)) (by assumption) ?_) | (refine OpG.keep ?_; first | refine OpG.s1 cok 2 rfl rfl rfl rfl rfl (by first | exact Nat.le_of_ble_eq_true rfl | omega | (dsimp only; omega) | (simp only [addS_eq, mulS_eq]; omega)) rfl (by assumption) ?_) | refine SeqS.go cok ?_ | refine And.intro (by omega) ?_ | (refine NatS.keep ?_; first | with_reducible refine NatS.nat ?_) | (refine still_in ?_; first | refine still_drop (by decide) ?_) | (refine OpG.keep ?_; first | refine OpG.s1 cok 3 rfl rfl rfl rfl rfl (by first | exact Nat.le_of_ble_eq_true rfl | omega | (dsimp only; omega) | (simp only [addS_eq, mulS_eq]; omega)) rfl rfl ?_))
  exact Fin.perm [_, _] (⟨cb, sz, T, _⟩ :: (R ++ (⟨tb, 16384, 21, _⟩ :: ((MA ++ (MS ++ (MJ ++ ML))) ++ M')))) perm_t1 ⟨rfl, _, _, fun q => if q = p then (V.tp.length : Int) else V.tt q, rfl, VI.ete (c := c) hV.ta hV.ts hV.mrk hV.nm hV.rf hV.cd hb hi hplt hO' hct (fun k hk => updNe (by omega)) updEq hct2, VOk.ete hO hk hi hp hroom, out_tp⟩
theorem perm_tX {x y c t : Ent} {R Y M X : List Ent} (hX : R ++ Y = X) : (x :: y :: c :: t :: (X ++ M)).Perm ((c :: (R ++ (t :: (Y ++ M)))) ++ [x, y]) := hX ▸ perm_t1
theorem perm_mv {h x y c : Ent} {X : List Ent} : (h :: x :: y :: c :: X).Perm (x :: y :: (c :: (h :: X))) := by
  refine perm_sum fun f => ?_
  simp only [sumE]; omega
/-- vault.Vault.tempOf, where there is no table yet -/
theorem vTempN0 {I : Ent → Prop} {R G : List Ent} {cb sz key : Nat} {T : TypeId} {c : Nat → Value} {V : Vl} {a : List Nat} {MA MS MJ ML MT : List Ent} (hsz : 27019 ≤ sz) (hV : VI I c V G) (hO : VOk V) (ha : AdOk a) (h0 : V.ix a = 0) (h1 : 0 < V.ac.length) (hk : key < 115792089237316195423570985008687907853269984665640564039457584007913129639936) (htp : V.tp = [])
    (hpm : G.Perm (MA ++ (MS ++ (MJ ++ (ML ++ (MT ++ []))))) ) (hb : VIB I c V MA MS MJ ML MT []) (hct0 : c 27018 = .slice none 0 0) :
    CallG Hvaf.prog 393 #[ptr cb 2435, bytesV a, .agg (wcs key).toArray] ⟨I, ⟨cb, sz, T, c⟩ :: (R ++ G)⟩ (TempP I R cb sz T c V key) := by
  have hal := ha.len
  have hab := ha.bv
  have hkl : (wcs key).length = 4 := rfl
  have hl0 : V.tp.length = 0 := by rw [htp]; rfl
  have hi : ¬ V.it key < V.tp.length := by omega
  have hixe : V.it key = V.tp.length := Nat.le_antisymm List.findIdx_le_length (by omega)
  have htt : ∀ p, p < 16384 → V.tt p = -1 := by
    intro p hp
    rcases hO.ttt.rng p hp with h | ⟨i, hi, _⟩
    · exact h
    · omega
  have hfn := vFindY (R := R) (cb := cb) (T := T) hsz hV hO ha (by omega)
  have hft := vFindTn (I := I) (G := (R ++ (MA ++ (MS ++ (MJ ++ ML)))) ++ MT) (cb := cb) (T := T) (key := key) hsz hct0
  obtain ⟨⟨ad, cap, hf⟩, -⟩ := hV.tpc
  have hot := hb.ot
  rw [hf] at hot
  have hpm2 : (R ++ G).Perm ((R ++ (MA ++ (MS ++ (MJ ++ ML)))) ++ MT) := by
    refine perm_sum fun f => ?_
    have := sumE_perm (f := f) hpm
    simp only [sumE, sumE_append] at this ⊢; omega
  rw [h0] at hfn
  rw [← wcs_word] at hft
  refine CallG.perm _ (hpm2.cons _) ?_
  replace hfn := CallG.samePerm hpm2.symm hfn
  have hac := acct0 ha hfn
  -- the vault behind the making of the table
  have hnew : ∀ hb' (ch : Nat → Value), (∀ p, p < 16384 → ch p = .int .i32 (-1)) → VI I (upd c 27018 (sl hb' 0 16384 16384)) V (⟨hb', 16384, 21, ch⟩ :: ((MA ++ (MS ++ (MJ ++ ML))) ++ MT)) := by
    intro hb' ch hch
    have e : ∀ k, k ≠ 27018 → upd c 27018 (sl hb' 0 16384 16384) k = c k := fun k hk => updNe hk
    refine ⟨⟨MA, MS, MJ, ML, MT, [⟨hb', 16384, 21, ch⟩], perm_sum fun f => ?_, ?_⟩, fun q hq => ?_, fun q hq => ?_, ?_, ?_, ?_, hV.cd⟩
    · simp only [sumE, sumE_append]; omega
    · refine ⟨?_, ?_, ?_, ?_, ?_, ?_⟩
      · rw [e _ (by omega)]; exact hb.oa
      · rw [e _ (by omega)]; exact hb.os
      · rw [e _ (by omega)]; exact hb.oj
      · rw [e _ (by omega)]; exact hb.ol
      · rw [e _ (by omega)]; exact hb.ot
      · exact .inr ⟨hb', ch, updEq, rfl, fun p hp => by rw [hch p hp, htt p hp]⟩
    · rw [e _ (by omega)]; exact hV.ta q hq
    · rw [e _ (by omega)]; exact hV.ts q hq
    · rw [e _ (by omega)]; exact hV.mrk
    · rw [e _ (by omega)]; exact hV.nm
    · rw [e _ (by omega)]; exact hV.rf
  have hft2 : ∀ hb' (ch : Nat → Value), (∀ p, p < 16384 → ch p = .int .i32 (-1)) → ∃ p, FreeAt 16384 V.tt (mixN 0 key % 16384) p ∧ CallG Hvaf.prog 392 #[ptr cb 2435, .int .i32 ((0 : Nat) : Int), .agg (wcs key).toArray] ⟨I, ⟨cb, sz, T, upd c 27018 (sl hb' 0 16384 16384)⟩ :: (⟨hb', 16384, 21, ch⟩ :: ((R ++ (MA ++ (MS ++ (MJ ++ ML)))) ++ MT))⟩ fun r S' => ⟨I, ⟨cb, sz, T, upd c 27018 (sl hb' 0 16384 16384)⟩ :: (⟨hb', 16384, 21, ch⟩ :: ((R ++ (MA ++ (MS ++ (MJ ++ ML)))) ++ MT))⟩ = S' ∧ r = .tuple #[.int .i32 (-1), .int .i32 (p : Nat)] := by
    intro hb' ch hch
    obtain ⟨p, hp, h⟩ := vFindTN (R := R) (cb := cb) (T := T) (ct := ch) hsz (hnew hb' ch hch) hO hk hi updEq List.mem_cons_self (fun p hp => by rw [hch p hp, htt p hp])
    rw [← wcs_word] at h
    refine ⟨p, hp, CallG.samePerm ?_ h⟩
    refine perm_sum fun f => ?_
    simp only [sumE, sumE_append]; omega
  unfold TempP
  rw [hixe]
  generalize hX : R ++ (MA ++ (MS ++ (MJ ++ ML))) = X at *
  refine CallG.start (C := mkC Hvaf.prog) cok (args := [ptr cb 2435, bytesV a, .agg (wcs key).toArray]) Hvaf.func393 rfl Hvaf.ntmps393 (by simp) (by kernel_rfl) ?_
  intro xb kb
  repeat (first | (refine QuG.keep ?_; first | refine QuG.boxL cok 1 rfl rfl rfl rfl rfl (by assumption) ?_) | refine SeqS.go cok ?_)
  refine CallG.sameL [_, _] hfn ?_
  repeat (first | (refine QuG.keep ?_; first | refine QuG.boxL cok 0 rfl rfl rfl rfl rfl (by assumption) ?_) | refine SeqS.go cok ?_ | refine CondS.t rfl ?_)
  refine CallG.sameL [_, _] hft ?_
  repeat (first | (refine QuG.keep ?_; first | refine QuG.l1E cok 2 rfl rfl rfl rfl rfl (by first | exact Nat.le_of_ble_eq_true rfl | omega | (dsimp only; omega) | (simp only [addS_eq, mulS_eq]; omega)) (by assumption) ?_ | refine QuG.boxL cok 1 rfl rfl rfl rfl rfl (by assumption) ?_) | refine SeqS.go cok ?_ | refine CondS.f rfl ?_ | (refine CondS.keep ?_; first | refine CondS.d0 rfl (by omega) ?_))
  refine CallG.sameL [_, _] hac ?_
  repeat (first | (refine QuG.keep ?_; first | refine QuG.l1E cok 2 rfl rfl rfl rfl rfl (by first | exact Nat.le_of_ble_eq_true rfl | omega | (dsimp only; omega) | (simp only [addS_eq, mulS_eq]; omega)) (by assumption) ?_) | refine SeqS.go cok ?_ | refine CondS.t rfl ?_ | refine CondS.f rfl ?_ | refine And.intro (by dsimp only; omega) ?_ | (refine NatS.keep ?_; first | with_reducible refine NatS.lit ?_))
  intro hb'
  have hc18 : upd c 27018 (sl hb' 0 16384 16384) 27018 = sl hb' 0 16384 16384 := updEq
  skip
  refine OpG.keep ?_
  refine OpG.s1 cok 3 (o := 27018) (u := sl hb' 0 16384 16384) rfl rfl rfl rfl rfl (by omega) rfl rfl ?_
  repeat (first | refine SeqS.go cok ?_)
  refine QuG.keep ?_
  refine QuG.l1E cok 3 rfl rfl rfl rfl rfl (by omega) hc18 ?_
  repeat (first | refine SeqS.go cok ?_)
  refine W.loopE cok (by kernel_rfl) 0 (fun (i : Nat) e' S' => ∃ ch, S' = ⟨I, ⟨hb', 16384, 21, ch⟩ :: ⟨kb, (Value.agg (wcs key).toArray).cells.size, 79, vc (.agg (wcs key).toArray)⟩ :: ⟨xb, (bytesV a).cells.size, 31, vc (bytesV a)⟩ :: ⟨cb, sz, T, upd c 27018 (sl hb' 0 16384 16384)⟩ :: (X ++ MT)⟩ ∧ i ≤ 16384 ∧ (∀ p, p < i → ch p = .int .i32 (-1)) ∧ slots [(0, ptr cb 2435), (4, ptr xb 0), (5, ptr kb 0), (8, .int .i32 ((0 : Nat) : Int)), (61, .int .i64 ((16384 : Nat) : Int)), (62, .int .i64 (i : Nat))] e') (fun i => 16384 - i) 0
    ⟨_, rfl, by decide, fun p hp => by omega, rfl, rfl, rfl, rfl, rfl, rfl, trivial⟩
    (fun e' S' => ∃ ch, S' = ⟨I, ⟨hb', 16384, 21, ch⟩ :: ⟨kb, (Value.agg (wcs key).toArray).cells.size, 79, vc (.agg (wcs key).toArray)⟩ :: ⟨xb, (bytesV a).cells.size, 31, vc (bytesV a)⟩ :: ⟨cb, sz, T, upd c 27018 (sl hb' 0 16384 16384)⟩ :: (X ++ MT)⟩ ∧ (∀ p, p < 16384 → ch p = .int .i32 (-1)) ∧ slots [(0, ptr cb 2435), (4, ptr xb 0), (5, ptr kb 0), (8, .int .i32 ((0 : Nat) : Int))] e') ?_ ?_
  · rintro e' S2 - ⟨ch, rfl, hch, hsl⟩
    refine SeqS.slots cok _ hsl fun e => ?_
    obtain ⟨p, hp, hft3⟩ := hft2 hb' ch hch
    have hplt := hp.lt
    have hp2 : addS 0 (mulS p 1) < 16384 := by rw [addS_mulS _ _ _ rfl]; omega
    repeat (first | (refine QuG.keep ?_; first | refine QuG.boxL cok 1 rfl rfl rfl rfl rfl (by assumption) ?_))
    refine CallG.perm (_ :: _ :: (⟨cb, sz, T, upd c 27018 (sl hb' 0 16384 16384)⟩ :: (⟨hb', 16384, 21, ch⟩ :: (X ++ MT)))) perm_mv ?_
    refine CallG.sameL [_, _] hft3 ?_
    repeat (first | (refine QuG.keep ?_; first | refine QuG.l1E cok 2 rfl rfl rfl rfl rfl (by first | exact Nat.le_of_ble_eq_true rfl | omega | (dsimp only; omega) | (simp only [addS_eq, mulS_eq]; omega)) (by assumption) ?_ | refine QuG.boxL cok 0 rfl rfl rfl rfl rfl (by assumption) ?_) | refine SeqS.go cok ?_ | refine CondS.f rfl ?_ | refine And.intro (fillOk_of (Eq.refl true)) ?_ | refine And.intro (Eq.refl true) ?_ | refine And.intro (by dsimp only; omega) ?_ | (refine ValS.keep ?_; first | (with_reducible refine ValS.kI32 ?_; first | (with_reducible refine ValS.convI32 ?_ ?_ ; omega))) | refine W.drawI 23 cok [0, 0, 2, 6, 14, 0, 0, 96, 224, 510, 1023, 2047, 4095] [0, 1, 2, 3, 4, 5, 6, 7, 8, 9, 10, 11, 12] [4, 6] (by kernel_rfl) (by kernel_rfl) ?_)
    intro ub
    repeat (first | (refine still_in ?_; first | refine still_nil ?_ | refine still_drop (by decide) ?_ | (refine still_keep (by decide) rfl ?_ ?_; first | exact QuV.l1 cok 3 rfl rfl rfl rfl rfl (by first | exact Nat.le_of_ble_eq_true rfl | omega | (dsimp only; omega) | (simp only [addS_eq, mulS_eq]; omega)) (by assumption))))
    refine OpG.keep ?_
    refine OpG.app1 cok (L := _ :: _ :: _ :: _ :: X) (M := MT) (vss := V.tp.map VTp.enc) (el := (newT key).enc) rfl rfl rfl rfl rfl rfl rfl rfl rfl ?_ ?_ ?_ ?_ ?_ ?_
    · exact hot
    · exact row_eq (build_newT key) (Row.updN2 _ 0 _)
    · rfl
    · exact VTp.enc_one _
    · rw [List.length_map]; omega
    intro v' M' hO'
    have hone' := hO'.one
    have hct2 : upd (upd c 27018 (sl hb' 0 16384 16384)) 27017 v' 27018 = sl hb' 0 16384 16384 := (updNe (by decide)).trans hc18
    repeat (first | (refine QuG.keep ?_; first | refine QuG.l1E cok 2 rfl rfl rfl rfl rfl (by first | exact Nat.le_of_ble_eq_true rfl | omega | (dsimp only; omega) | (simp only [addS_eq, mulS_eq]; omega)) (by assumption) ?_) | (refine OpG.keep ?_; first | refine OpG.s1 cok 2 rfl rfl rfl rfl rfl (by first | exact Nat.le_of_ble_eq_true rfl | omega | (dsimp only; omega) | (simp only [addS_eq, mulS_eq]; omega)) rfl (by assumption) ?_) | refine SeqS.go cok ?_ | refine And.intro (by omega) ?_ | (refine NatS.keep ?_; first | with_reducible refine NatS.nat ?_) | (refine still_in ?_; first | refine still_drop (by decide) ?_) | (refine OpG.keep ?_; first | refine OpG.s1 cok 3 rfl rfl rfl rfl rfl (by first | exact Nat.le_of_ble_eq_true rfl | omega | (dsimp only; omega) | (simp only [addS_eq, mulS_eq]; omega)) rfl rfl ?_))
    exact Fin.perm [_, _] (⟨cb, sz, T, _⟩ :: (R ++ (⟨hb', 16384, 21, _⟩ :: ((MA ++ (MS ++ (MJ ++ ML))) ++ M')))) (perm_tX hX) ⟨rfl, _, _, fun q => if q = p then (V.tp.length : Int) else V.tt q, rfl, VI.ete (c := c) (ct := ch) hV.ta hV.ts hV.mrk hV.nm hV.rf hV.cd hb hi hplt hO' (fun p hp => by rw [hch p hp, htt p hp]) (fun k hk => by rw [updNe (by omega), updNe (by omega)]) updEq hct2, VOk.ete hO hk hi hp (by omega), out_tp2⟩
  · rintro i e' S2 - ⟨ch, rfl, hi2, hch, hsl⟩
    refine W.slots _ hsl fun e => ?_
    by_cases hlt : i < 16384
    · repeat (first | (refine QuG.keep ?_; first | refine QuG.l1E cok 3 rfl rfl rfl rfl rfl (by first | exact Nat.le_of_ble_eq_true rfl | omega | (dsimp only; omega) | (simp only [addS_eq, mulS_eq]; omega)) (by assumption) ?_) | refine SeqS.go cok ?_ | refine And.intro (by omega) ?_ | (refine NatS.keep ?_; first | with_reducible refine NatS.nat ?_) | (refine ValS.keep ?_; first | (with_reducible refine ValS.kI64 ?_; first | (with_reducible refine ValS.addI64_L ?_ ?_ ; omega))) | (refine OpG.keep ?_; first | refine OpG.s1 cok 0 rfl rfl rfl rfl rfl (by first | exact Nat.le_of_ble_eq_true rfl | omega | (dsimp only; omega) | (simp only [addS_eq, mulS_eq]; omega)) rfl rfl ?_) | (refine CondS.keep ?_; first | refine CondS.d1 rfl (by omega) ?_))
      refine ⟨i + 1, ⟨_, rfl, hlt, fun p hp => ?_, rfl, rfl, rfl, rfl, rfl, rfl, trivial⟩, by show 16384 - (i + 1) < 16384 - i; omega⟩
      have hk' : addS 0 (mulS i 1) = i := by rw [addS_mulS _ _ _ rfl, Nat.zero_add]
      show upd ch (addS 0 (mulS i 1)) _ p = _
      rw [hk']
      by_cases hpi : p = i
      · subst hpi; exact updEq
      · rw [updNe hpi]; exact hch p (by omega)
    · obtain rfl : i = 16384 := by omega
      repeat (first | refine SeqS.go cok ?_ | refine CondS.f rfl ?_)
      exact ⟨ch, rfl, hch, rfl, rfl, rfl, rfl, trivial⟩
/-- vault.Vault.tempOf -/
theorem vTempOf {I : Ent → Prop} {R G : List Ent} {cb sz key : Nat} {T : TypeId} {c : Nat → Value} {V : Vl} {a : List Nat} (hsz : 27019 ≤ sz) (hV : VI I c V G) (hO : VOk V) (ha : AdOk a) (h0 : V.ix a = 0) (h1 : 0 < V.ac.length) (hk : key < 115792089237316195423570985008687907853269984665640564039457584007913129639936) (hroom : V.tp.length < 11990) :
    CallG Hvaf.prog 393 #[ptr cb 2435, bytesV a, .agg (wcs key).toArray] ⟨I, ⟨cb, sz, T, c⟩ :: (R ++ G)⟩ (TempP I R cb sz T c V key) := by
  by_cases hi : V.it key < V.tp.length
  · exact vTempY hsz hV hO ha h0 h1 hk hi
  · obtain ⟨MA, MS, MJ, ML, MT, MH, hpm, hb⟩ := hV.own
    rcases hb.oh with ⟨h2, h3, rfl⟩ | ⟨b, ct, h2, rfl, h3⟩
    · exact vTempN0 hsz hV hO ha h0 h1 hk h3 hpm hb h2
    · exact vTempN1 hsz hV hO ha h0 h1 hk hi hroom hpm hb h2 h3
end Go.Proofs.YgvafwGreat
