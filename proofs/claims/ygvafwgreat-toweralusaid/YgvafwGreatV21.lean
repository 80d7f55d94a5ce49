import Derived.Test.YgvafwGreatV20
set_option exponentiation.threshold 1000
set_option maxRecDepth 100000
set_option maxHeartbeats 4000000
set_option linter.unusedVariables false
set_option linter.unusedSimpArgs false
-- v2
-- v4
-- v5
-- v6
-- v7
namespace Go.Proofs.YgvafwGreat
open Go.HL Go.Proofs

theorem eL (kd : Nat) : cellsFrom (fillC z228 [(0, 1, .int .u8 (kd : Nat))]) 0 9 = (VE.mk kd 0 0 0 false).enc := by
  show _ = .int .u8 (kd : Nat) :: .int .i32 ((0 : Nat) : Int) :: .int .u64 ((0 : Nat) : Int) :: (wcs 0 ++ [.slice none 0 0, .bool false])
  rw [wcs0]; rfl
theorem VI.up {I J : Ent → Prop} {c : Nat → Value} {V : Vl} {G : List Ent} (h : VI I c V G) (hs : Sub I J) : VI J c V G := by
  obtain ⟨MA, MS, MJ, ML, MT, MH, hq, hb⟩ := h.own
  exact ⟨⟨MA, MS, MJ, ML, MT, MH, hq, ⟨hb.oa, hb.os, hb.oj, hb.ol.up hs, hb.ot, hb.oh⟩⟩, h.ta, h.ts, h.mrk, h.nm, h.rf, fun x hx => (h.cd x hx).mono hs (by simp)⟩
/-- vault.copiedLog -/
theorem vCopiedLog {I : Ent → Prop} {G : List Ent} {a ts ds : List Nat} {tv dv : Value} (ha : AdOk a) (ht : RowI I 32 tv (ts.map fun n => bvs (be32 n))) (hd : Byt ⟨I, []⟩ dv ds) (h5 : ts.length < 5) :
    CallG Hvaf.prog 217 #[.agg (bvs a ++ [tv, dv]).toArray] ⟨I, G⟩ (CopyP G a ts ds) := by
  by_cases h0 : 0 < ts.length
  · exact vCopiedLog1 ha ht hd h0 h5
  · obtain rfl : ts = [] := List.length_eq_zero_iff.1 (by omega)
    exact vCopiedLog0 ha ht hd
theorem perm_lj {x y : Ent} {Y MJ ML : List Ent} : (x :: y :: ((Y ++ ML) ++ MJ)).Perm ((x :: y :: ((Y ++ MJ) ++ ML)) ++ []) := by
  refine perm_sum fun f => ?_
  simp only [sumE, sumE_append]; omega
theorem out_log {c : Nat → Value} {v w : Value} : Out c (upd (upd c 10629 v) 27016 w) := fun k hk => by rw [updNe (by omega), updNe (by omega)]
theorem st_app2 {I : Ent → Prop} {x : Ent} {X R Y M N : List Ent} (hX : R ++ Y = X) : (⟨I, x :: ((X ++ M) ++ N)⟩ : St) = ⟨I, x :: (R ++ ((Y ++ M) ++ N))⟩ := by subst hX; simp only [List.append_assoc]
theorem VOk.putLog {V : Vl} {l : LG} (hO : VOk V) (hj : V.jr.length < 59990) (hll : V.lg.length < 2798) : VOk { V with jr := V.jr ++ [⟨7, 0, 0, 0, false⟩], lg := V.lg ++ [l] } := by
  refine { hO with jln := ?_, jrw := ?_, lln := ?_ }
  · show (V.jr ++ [_]).length < 60000
    rw [List.length_append, List.length_singleton]; omega
  · intro y hy
    rcases List.mem_append.1 hy with h | h
    · exact hO.jrw y h
    · obtain rfl := List.mem_singleton.1 h
      exact ⟨by show 0 < 2 ^ 256; decide, by show 7 < 11; decide, by show 0 < 2147483648; decide, by show 0 < 2 ^ 64; decide⟩
  · show (V.lg ++ [l]).length < 2799
    rw [List.length_append, List.length_singleton]; omega
theorem VI.putLog {I J : Ent → Prop} {c : Nat → Value} {V : Vl} {G MA MS MJ ML MT MH M' N' : List Ent} {v' w' : Value} {lss : List (List Value)} {el : List Value} {l : LG} (hV : VI J c V G) (hb : VIB I c V MA MS MJ ML MT MH) (hO' : OwnL 228 9 v' (V.jr.map VE.enc ++ [(VE.mk 7 0 0 0 false).enc]) M') (hN' : OwnL 141 22 w' (lss ++ [el]) N') (hL : L2 (LgC J) dL lss V.lg) (hl : LgC J el l) :
    VI J (upd (upd c 10629 v') 27016 w') { V with jr := V.jr ++ [⟨7, 0, 0, 0, false⟩], lg := V.lg ++ [l] } (((MA ++ (MS ++ (MT ++ MH))) ++ M') ++ N') := by
  have e : ∀ k, k ≠ 10629 → k ≠ 27016 → upd (upd c 10629 v') 27016 w' k = c k := fun k h1 h2 => by rw [updNe h2, updNe h1]
  have e1 : upd (upd c 10629 v') 27016 w' 10629 = v' := by rw [updNe (by omega), updEq]
  have e2 : upd (upd c 10629 v') 27016 w' 27016 = w' := updEq
  generalize upd (upd c 10629 v') 27016 w' = c' at *
  refine ⟨⟨MA, MS, M', N', MT, MH, perm_sum fun f => ?_, ?_⟩, fun q hq => ?_, fun q hq => ?_, ?_, ?_, ?_, hV.cd⟩
  · simp only [sumE_append]; omega
  · refine ⟨?_, ?_, ?_, ?_, ?_, ?_⟩
    · rw [e _ (by omega) (by omega)]; exact hb.oa
    · rw [e _ (by omega) (by omega)]; exact hb.os
    · show OwnL _ 9 (c' 10629) ((V.jr ++ [_]).map VE.enc) M'
      rw [e1, List.map_append]; exact hO'
    · refine ⟨lss ++ [el], ?_, hL.snoc hl⟩
      rw [e2]; exact hN'
    · rw [e _ (by omega) (by omega)]; exact hb.ot
    · rw [e _ (by omega) (by omega)]; exact hb.oh
  · rw [e _ (by omega) (by omega)]; exact hV.ta q hq
  · rw [e _ (by omega) (by omega)]; exact hV.ts q hq
  · rw [e _ (by omega) (by omega)]; exact hV.mrk
  · rw [e _ (by omega) (by omega)]; exact hV.nm
  · rw [e _ (by omega) (by omega)]; exact hV.rf
/-- vault.Vault.PutLog -/
theorem vPutLog {I : Ent → Prop} {R G : List Ent} {cb sz : Nat} {T : TypeId} {c : Nat → Value} {V : Vl} {a ts ds : List Nat} {tv dv : Value} (hsz : 27019 ≤ sz) (hV : VI I c V G) (hO : VOk V) (hj : V.jr.length < 59990) (hll : V.lg.length < 2798) (ha : AdOk a) (ht : RowI I 32 tv (ts.map fun n => bvs (be32 n))) (hd : Byt ⟨I, []⟩ dv ds) (h5 : ts.length < 5) (hdl : ds.length ≤ 717280) :
    CallG Hvaf.prog 394 #[ptr cb 2435, .agg (bvs a ++ [tv, dv]).toArray] ⟨I, ⟨cb, sz, T, c⟩ :: (R ++ G)⟩ fun r S' => r = .bool true ∧ ∃ J c' G', S' = ⟨J, ⟨cb, sz, T, c'⟩ :: (R ++ G')⟩ ∧ VI J c' { V with jr := V.jr ++ [⟨7, 0, 0, 0, false⟩], lg := V.lg ++ [(a, ts, ds)] } G' ∧ VOk { V with jr := V.jr ++ [⟨7, 0, 0, 0, false⟩], lg := V.lg ++ [(a, ts, ds)] } ∧ Out c c' := by
  have hrm := vRoom (R := R) (cb := cb) (T := T) hsz hV hO
  obtain ⟨MA, MS, MJ, ML, MT, MH, hpm, hb⟩ := hV.own
  have hpm2 : (R ++ G).Perm (((R ++ (MA ++ (MS ++ (MT ++ MH)))) ++ ML) ++ MJ) := by
    refine perm_sum fun f => ?_
    have := sumE_perm (f := f) hpm
    simp only [sumE, sumE_append] at this ⊢; omega
  have hjr := hb.oj
  obtain ⟨jad, jcap, hjf⟩ := hjr.form
  rw [List.length_map] at hjf
  rw [hjf] at hjr
  obtain ⟨lss, hlo, hL⟩ := hb.ol.out
  have hlsl := hL.len
  obtain ⟨lad, lcap, hlf⟩ := hlo.form
  rw [hlf] at hlo
  obtain ⟨tad, tcap, rfl⟩ := ht.form
  obtain ⟨dad, dcap, rfl⟩ : ∃ ad cap, dv = .slice ad ds.length cap := by
    rcases hd.cases with ⟨h1, h2⟩ | ⟨x, o, cap, h1, _⟩
    · exact ⟨none, 0, by rw [h1, h2]; rfl⟩
    · exact ⟨_, cap, h1⟩
  have htl : (ts.map fun n => bvs (be32 n)).length = ts.length := by simp
  refine CallG.perm _ (hpm2.cons _) ?_
  replace hrm := CallG.samePerm hpm2.symm hrm
  generalize hX : R ++ (MA ++ (MS ++ (MT ++ MH))) = X at *
  have ha2 := ha
  have hcl := fun L => vCopiedLog (G := L) ha ht hd h5
  generalize htm : (ts.map fun n => bvs (be32 n)) = tss at *
  obtain ⟨a0, a1, a2, a3, a4, a5, a6, a7, a8, a9, a10, a11, a12, a13, a14, a15, a16, a17, a18, a19, hae⟩ := list20b ha.len
  rw [hae] at hcl ⊢
  refine CallG.start (C := mkC Hvaf.prog) cok (args := [ptr cb 2435, .agg (bvs [a0, a1, a2, a3, a4, a5, a6, a7, a8, a9, a10, a11, a12, a13, a14, a15, a16, a17, a18, a19] ++ [Value.slice tad tss.length tcap, Value.slice dad ds.length dcap]).toArray]) Hvaf.func394 rfl Hvaf.ntmps394 (by simp) (by kernel_rfl) ?_
  intro lb
  repeat (first | refine SeqS.go cok ?_)
  refine CallG.sameL [_] hrm ?_
  repeat (first | (refine QuG.keep ?_; first | refine QuG.l1E cok 1 rfl rfl rfl rfl rfl (by first | exact Nat.le_of_ble_eq_true rfl | omega | (dsimp only; omega) | (simp only [addS_eq, mulS_eq]; omega)) (by assumption) ?_) | refine SeqS.go cok ?_ | refine GuardS.yes rfl ?_ | refine And.intro (fillOk_of (Eq.refl true)) ?_ | refine And.intro (Eq.refl true) ?_ | refine And.intro (by dsimp only; omega) ?_ | (refine QuG.keep ?_; first | refine QuG.l1 cok 0 rfl rfl rfl rfl rfl (by first | exact Nat.le_of_ble_eq_true rfl | omega | (dsimp only; omega) | (simp only [addS_eq, mulS_eq]; omega)) ?_) | (refine GuardS.keep ?_; first | refine GuardS.F0 rfl (by omega) ?_) | (refine CondS.keep ?_; first | refine CondS.d0 rfl (by omega) ?_))
  intro tb
  skip
  refine OpG.keep ?_
  refine OpG.app1 cok (L := _ :: _ :: (X ++ ML)) (M := MJ) (vss := V.jr.map VE.enc) (el := (VE.mk 7 0 0 0 false).enc) rfl rfl rfl rfl rfl rfl rfl rfl rfl ?_ ?_ ?_ ?_ ?_ ?_
  · exact hjr
  · exact row_eq (eL 7) (Row.updN2 _ 0 _)
  · rfl
  · exact VE.enc_one _
  · rw [List.length_map]; omega
  intro v' M' hO'
  have hone' := hO'.one
  have hlf2 : upd c 10629 v' 27016 = .slice lad lss.length lcap := (updNe (by decide)).trans hlf
  repeat (first | (refine QuG.keep ?_; first | refine QuG.l1E cok 1 rfl rfl rfl rfl rfl (by first | exact Nat.le_of_ble_eq_true rfl | omega | (dsimp only; omega) | (simp only [addS_eq, mulS_eq]; omega)) (by assumption) ?_) | (refine OpG.keep ?_; first | refine OpG.s1 cok 1 rfl rfl rfl rfl rfl (by first | exact Nat.le_of_ble_eq_true rfl | omega | (dsimp only; omega) | (simp only [addS_eq, mulS_eq]; omega)) rfl (by assumption) ?_) | refine SeqS.go cok ?_ | (refine QuG.keep ?_; first | refine QuG.lN cok 0 rfl rfl rfl rfl rfl (by first | exact Nat.le_of_ble_eq_true rfl | omega | (dsimp only; omega) | (simp only [addS_eq, mulS_eq]; omega)) ?_) | refine W.drawI 4 cok [0, 0, 2, 6, 14, 0, 32, 96, 254, 511, 1023, 2047] [0, 1, 2, 3, 4, 5, 6, 7, 8, 9, 10, 11] [4, 5] (by kernel_rfl) (by kernel_rfl) ?_)
  refine CallG.post ((hcl _).mono ?_)
  rintro r ⟨J, _⟩ hs ⟨tv2, dv2, rfl, rfl, ht2, hd2, o1, o2⟩
  refine Rel.perm _ [] perm_lj ?_
  repeat (first | refine And.intro (fillOk_of (Eq.refl true)) ?_ | refine And.intro (by dsimp only; omega) ?_ | (refine still_in ?_; first | refine still_drop (by decide) ?_ | (refine still_keep (by decide) rfl ?_ ?_; first | exact QuV.l1 cok 1 rfl rfl rfl rfl rfl (by first | exact Nat.le_of_ble_eq_true rfl | omega | (dsimp only; omega) | (simp only [addS_eq, mulS_eq]; omega)) (by assumption))))
  intro ub
  repeat (first | (refine still_in ?_; first | refine still_nil ?_ | refine still_drop (by decide) ?_ | (refine still_keep (by decide) rfl ?_ ?_; first | exact QuV.l1 cok 2 rfl rfl rfl rfl rfl (by first | exact Nat.le_of_ble_eq_true rfl | omega | (dsimp only; omega) | (simp only [addS_eq, mulS_eq]; omega)) (by assumption))))
  refine OpG.keep ?_
  refine OpG.app1 cok (L := _ :: _ :: (X ++ M')) (M := ML) (vss := lss) (el := bvs [a0, a1, a2, a3, a4, a5, a6, a7, a8, a9, a10, a11, a12, a13, a14, a15, a16, a17, a18, a19] ++ [tv2, dv2]) rfl rfl rfl rfl rfl rfl rfl rfl rfl ?_ ?_ ?_ ?_ ?_ ?_
  · exact hlo
  · exact Row.updN2 _ 0 _
  · rfl
  · exact one_log o1 o2
  · omega
  intro w' N' hN'
  have hone2 := hN'.one
  repeat (first | (refine OpG.keep ?_; first | refine OpG.s1 cok 1 rfl rfl rfl rfl rfl (by first | exact Nat.le_of_ble_eq_true rfl | omega | (dsimp only; omega) | (simp only [addS_eq, mulS_eq]; omega)) rfl (by assumption) ?_) | refine SeqS.go cok ?_ | (refine still_in ?_; first | refine still_drop (by decide) ?_))
  exact Fin.drop (⟨cb, sz, T, _⟩ :: ((X ++ M') ++ N')) [_] ⟨rfl, J, _, ((MA ++ (MS ++ (MT ++ MH))) ++ M') ++ N', st_app2 hX, VI.putLog (hV.up hs) hb hO' hN' (hL.mono fun _ _ h => h.up hs) ⟨hae ▸ ha, tv2, dv2, rfl, htm ▸ ht2, hd2⟩, VOk.putLog hO hj hll, out_log⟩
end Go.Proofs.YgvafwGreat
