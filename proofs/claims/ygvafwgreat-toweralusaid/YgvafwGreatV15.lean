import Derived.Test.YgvafwGreatV14
set_option exponentiation.threshold 1000
set_option maxRecDepth 100000
set_option maxHeartbeats 4000000
set_option linter.unusedVariables false
set_option linter.unusedSimpArgs false
-- v2
-- v4
-- v5
-- v6
-- v7
namespace Go.Proofs.YgvafwGreat
open Go.HL Go.Proofs

theorem eR (kd n : Nat) : cellsFrom (fillC z228 [(0, 1, .int .u8 (kd : Nat)), (2, 1, .int .u64 (n : Nat))]) 0 9 = (VE.mk kd 0 n 0 false).enc := by
  show _ = .int .u8 (kd : Nat) :: .int .i32 ((0 : Nat) : Int) :: .int .u64 (n : Nat) :: (wcs 0 ++ [.slice none 0 0, .bool false])
  rw [wcs0]; rfl
/-- The journal laid open. -/
structure JO (I : Ent → Prop) (c : Nat → Value) (V : Vl) (Y MJ : List Ent) : Prop where
  jr : OwnL 228 9 (c 10629) (V.jr.map VE.enc) MJ
  close : ∀ c' jr' rf' MJ', (∀ k, k ≠ 10629 → k ≠ 27015 → c' k = c k) → OwnL 228 9 (c' 10629) (jr'.map VE.enc) MJ' → c' 27015 = .int .u64 (rf' : Nat) → VI I c' { V with jr := jr', rf := rf' } (Y ++ MJ')
theorem VI.openJ {I : Ent → Prop} {c : Nat → Value} {V : Vl} {G : List Ent} (h : VI I c V G) : ∃ Y MJ, G.Perm (Y ++ MJ) ∧ JO I c V Y MJ := by
  obtain ⟨MA, MS, MJ, ML, MT, MH, hq, hb⟩ := h.own
  refine ⟨MA ++ (MS ++ (ML ++ (MT ++ MH))), MJ, hq.trans (perm_sum fun f => ?_), hb.oj, ?_⟩
  · simp only [sumE, sumE_append]; omega
  · intro c' jr' rf' MJ' e hj hr
    refine ⟨⟨MA, MS, MJ', ML, MT, MH, perm_sum fun f => ?_, ?_⟩, fun q hq => ?_, fun q hq => ?_, ?_, ?_, hr, h.cd⟩
    · simp only [sumE, sumE_append]; omega
    · refine ⟨?_, ?_, hj, ?_, ?_, ?_⟩
      · rw [e 2435 (by omega) (by omega)]; exact hb.oa
      · rw [e 2436 (by omega) (by omega)]; exact hb.os
      · rw [e 27016 (by omega) (by omega)]; exact hb.ol
      · rw [e 27017 (by omega) (by omega)]; exact hb.ot
      · rw [e 27018 (by omega) (by omega)]; exact hb.oh
    · rw [e _ (by omega) (by omega)]; exact h.ta q hq
    · rw [e _ (by omega) (by omega)]; exact h.ts q hq
    · rw [e _ (by omega) (by omega)]; exact h.mrk
    · rw [e _ (by omega) (by omega)]; exact h.nm
theorem VOk.setJ {V : Vl} (hO : VOk V) {e : VE} {r : Nat} (hj : V.jr.length < 59990) (he : e.w < 2 ^ 256 ∧ e.kd < 11 ∧ e.pl < 2147483648 ∧ e.n < 2 ^ 64) (hr : r < 2 ^ 40) : VOk { V with jr := V.jr ++ [e], rf := r } := by
  refine { hO with jln := ?_, jrw := ?_, rfl' := hr }
  · show (V.jr ++ [e]).length < 60000
    rw [List.length_append, List.length_singleton]; omega
  · intro y hy
    rcases List.mem_append.1 hy with h | h
    · exact hO.jrw y h
    · obtain rfl := List.mem_singleton.1 h; exact he
theorem out_rf {c : Nat → Value} {v w : Value} : Out c (upd (upd c 10629 v) 27015 w) := fun k hk => by rw [updNe (by omega), updNe (by omega)]
/-- vault.Vault.RefundUp -/
theorem vRefundUp {I : Ent → Prop} {R G : List Ent} {cb sz n : Nat} {T : TypeId} {c : Nat → Value} {V : Vl} (hsz : 27019 ≤ sz) (hV : VI I c V G) (hO : VOk V) (hj : V.jr.length < 59990) (hr : V.rf ≤ 209715200) (hn : n ≤ 209715200 - V.rf) :
    CallG Hvaf.prog 318 #[ptr cb 2435, .int .u64 (n : Nat)] ⟨I, ⟨cb, sz, T, c⟩ :: (R ++ G)⟩ fun r S' => r = .bool true ∧ ∃ c' G', S' = ⟨I, ⟨cb, sz, T, c'⟩ :: (R ++ G')⟩ ∧ VI I c' { V with jr := V.jr ++ [⟨6, 0, V.rf, 0, false⟩], rf := V.rf + n } G' ∧ VOk { V with jr := V.jr ++ [⟨6, 0, V.rf, 0, false⟩], rf := V.rf + n } ∧ Out c c' := by
  have hrm := vRoom (R := R) (cb := cb) (T := T) hsz hV hO
  have hrf := hV.rf
  obtain ⟨Y, MJ, hpm, hA⟩ := hV.openJ
  have hpm2 : (R ++ G).Perm ((R ++ Y) ++ MJ) := by
    rw [List.append_assoc]; exact hpm.append_left R
  have hjr := hA.jr
  obtain ⟨jad, jcap, hjf⟩ := hjr.form
  rw [List.length_map] at hjf
  rw [hjf] at hjr
  refine CallG.perm _ (hpm2.cons _) ?_
  replace hrm := CallG.samePerm hpm2.symm hrm
  generalize hX : R ++ Y = X at *
  refine CallG.start (C := mkC Hvaf.prog) cok (args := [ptr cb 2435, .int .u64 (n : Nat)]) Hvaf.func318 rfl Hvaf.ntmps318 (by simp) (by kernel_rfl) ?_
  repeat (first | refine SeqS.go cok ?_)
  refine CallG.sameL [] hrm ?_
  repeat (first | (refine QuG.keep ?_; first | refine QuG.l1E cok 0 rfl rfl rfl rfl rfl (by first | exact Nat.le_of_ble_eq_true rfl | omega | (dsimp only; omega) | (simp only [addS_eq, mulS_eq]; omega)) (by assumption) ?_) | refine SeqS.go cok ?_ | refine GuardS.yes rfl ?_ | refine And.intro (fillOk_of (Eq.refl true)) ?_ | refine And.intro (Eq.refl true) ?_ | refine And.intro (by dsimp only; omega) ?_ | (refine ValS.keep ?_; first | (with_reducible refine ValS.kU64 ?_; first | (with_reducible refine ValS.subU64_M ?_ ?_ ?_ ; omega; omega))) | refine W.drawI 3 cok [0, 0, 2, 6, 14, 0, 32, 96, 224, 480, 992, 2046, 4095, 8191, 16383] [0, 1, 2, 3, 4, 5, 6, 7, 8, 9, 10, 11, 12, 13, 14] [4, 8] (by kernel_rfl) (by kernel_rfl) ?_ | (refine GuardS.keep ?_; first | refine GuardS.F0 rfl (by omega) ?_) | (refine CondS.keep ?_; first | refine CondS.d0 rfl (by omega) ?_))
  intro tb
  repeat (first | (refine still_in ?_; first | refine still_nil ?_ | refine still_drop (by decide) ?_ | (refine still_keep (by decide) rfl ?_ ?_; first | exact QuV.l1 cok 1 rfl rfl rfl rfl rfl (by first | exact Nat.le_of_ble_eq_true rfl | omega | (dsimp only; omega) | (simp only [addS_eq, mulS_eq]; omega)) (by assumption))))
  refine OpG.keep ?_
  refine OpG.app1 cok (L := _ :: X) (M := MJ) (vss := V.jr.map VE.enc) (el := (VE.mk 6 0 V.rf 0 false).enc) rfl rfl rfl rfl rfl rfl rfl rfl rfl ?_ ?_ ?_ ?_ ?_ ?_
  · exact hjr
  · exact row_eq (eR 6 _) (Row.updN2 _ 0 _)
  · rfl
  · exact VE.enc_one _
  · rw [List.length_map]; omega
  intro v' M' hO'
  have hone' := hO'.one
  have hrf2 : upd c 10629 v' 27015 = .int .u64 (V.rf : Nat) := (updNe (by decide)).trans hrf
  repeat (first | (refine QuG.keep ?_; first | refine QuG.l1E cok 0 rfl rfl rfl rfl rfl (by first | exact Nat.le_of_ble_eq_true rfl | omega | (dsimp only; omega) | (simp only [addS_eq, mulS_eq]; omega)) (by assumption) ?_) | (refine OpG.keep ?_; first | refine OpG.s1 cok 0 rfl rfl rfl rfl rfl (by first | exact Nat.le_of_ble_eq_true rfl | omega | (dsimp only; omega) | (simp only [addS_eq, mulS_eq]; omega)) rfl (by assumption) ?_) | refine SeqS.go cok ?_ | (refine ValS.keep ?_; first | (with_reducible refine ValS.kU64 ?_; first | (with_reducible refine ValS.addU64 ?_ ?_ ; omega))) | (refine still_in ?_; first | refine still_drop (by decide) ?_) | (refine OpG.keep ?_; first | refine OpG.s1 cok 0 rfl rfl rfl rfl rfl (by first | exact Nat.le_of_ble_eq_true rfl | omega | (dsimp only; omega) | (simp only [addS_eq, mulS_eq]; omega)) rfl rfl ?_))
  exact Fin.same ⟨rfl, _, Y ++ M', st_app hX, hA.close _ _ _ M' (fun k h1 h2 => by rw [updNe h2, updNe h1]) (by rw [updNe (by decide), updEq, List.map_append]; exact hO') updEq, hO.setJ hj ⟨by show 0 < 2 ^ 256; decide, by show 6 < 11; decide, by show 0 < 2147483648; decide, by show V.rf < 2 ^ 64; omega⟩ (by omega), out_rf⟩
/-- vault.Vault.RefundDown -/
theorem vRefundDown {I : Ent → Prop} {R G : List Ent} {cb sz n : Nat} {T : TypeId} {c : Nat → Value} {V : Vl} (hsz : 27019 ≤ sz) (hV : VI I c V G) (hO : VOk V) (hj : V.jr.length < 59990) (hr : V.rf ≤ 209715200) (hn : n ≤ V.rf) :
    CallG Hvaf.prog 317 #[ptr cb 2435, .int .u64 (n : Nat)] ⟨I, ⟨cb, sz, T, c⟩ :: (R ++ G)⟩ fun r S' => r = .bool true ∧ ∃ c' G', S' = ⟨I, ⟨cb, sz, T, c'⟩ :: (R ++ G')⟩ ∧ VI I c' { V with jr := V.jr ++ [⟨6, 0, V.rf, 0, false⟩], rf := V.rf - n } G' ∧ VOk { V with jr := V.jr ++ [⟨6, 0, V.rf, 0, false⟩], rf := V.rf - n } ∧ Out c c' := by
  have hrm := vRoom (R := R) (cb := cb) (T := T) hsz hV hO
  have hrf := hV.rf
  obtain ⟨Y, MJ, hpm, hA⟩ := hV.openJ
  have hpm2 : (R ++ G).Perm ((R ++ Y) ++ MJ) := by
    rw [List.append_assoc]; exact hpm.append_left R
  have hjr := hA.jr
  obtain ⟨jad, jcap, hjf⟩ := hjr.form
  rw [List.length_map] at hjf
  rw [hjf] at hjr
  refine CallG.perm _ (hpm2.cons _) ?_
  replace hrm := CallG.samePerm hpm2.symm hrm
  generalize hX : R ++ Y = X at *
  refine CallG.start (C := mkC Hvaf.prog) cok (args := [ptr cb 2435, .int .u64 (n : Nat)]) Hvaf.func317 rfl Hvaf.ntmps317 (by simp) (by kernel_rfl) ?_
  repeat (first | refine SeqS.go cok ?_)
  refine CallG.sameL [] hrm ?_
  repeat (first | (refine QuG.keep ?_; first | refine QuG.l1E cok 0 rfl rfl rfl rfl rfl (by first | exact Nat.le_of_ble_eq_true rfl | omega | (dsimp only; omega) | (simp only [addS_eq, mulS_eq]; omega)) (by assumption) ?_) | refine SeqS.go cok ?_ | refine GuardS.yes rfl ?_ | refine And.intro (fillOk_of (Eq.refl true)) ?_ | refine And.intro (Eq.refl true) ?_ | refine And.intro (by dsimp only; omega) ?_ | refine W.drawI 3 cok [0, 0, 2, 6, 14, 0, 32, 96, 224, 480, 992, 2046, 4095, 8191, 16383] [0, 1, 2, 3, 4, 5, 6, 7, 8, 9, 10, 11, 12, 13, 14] [4, 8] (by kernel_rfl) (by kernel_rfl) ?_ | (refine CondS.keep ?_; first | refine CondS.d0 rfl (by omega) ?_))
  intro tb
  repeat (first | (refine still_in ?_; first | refine still_nil ?_ | refine still_drop (by decide) ?_ | (refine still_keep (by decide) rfl ?_ ?_; first | exact QuV.l1 cok 1 rfl rfl rfl rfl rfl (by first | exact Nat.le_of_ble_eq_true rfl | omega | (dsimp only; omega) | (simp only [addS_eq, mulS_eq]; omega)) (by assumption))))
  refine OpG.keep ?_
  refine OpG.app1 cok (L := _ :: X) (M := MJ) (vss := V.jr.map VE.enc) (el := (VE.mk 6 0 V.rf 0 false).enc) rfl rfl rfl rfl rfl rfl rfl rfl rfl ?_ ?_ ?_ ?_ ?_ ?_
  · exact hjr
  · exact row_eq (eR 6 _) (Row.updN2 _ 0 _)
  · rfl
  · exact VE.enc_one _
  · rw [List.length_map]; omega
  intro v' M' hO'
  have hone' := hO'.one
  have hrf2 : upd c 10629 v' 27015 = .int .u64 (V.rf : Nat) := (updNe (by decide)).trans hrf
  repeat (first | (refine QuG.keep ?_; first | refine QuG.l1E cok 0 rfl rfl rfl rfl rfl (by first | exact Nat.le_of_ble_eq_true rfl | omega | (dsimp only; omega) | (simp only [addS_eq, mulS_eq]; omega)) (by assumption) ?_) | (refine OpG.keep ?_; first | refine OpG.s1 cok 0 rfl rfl rfl rfl rfl (by first | exact Nat.le_of_ble_eq_true rfl | omega | (dsimp only; omega) | (simp only [addS_eq, mulS_eq]; omega)) rfl (by assumption) ?_) | refine SeqS.go cok ?_ | (refine ValS.keep ?_; first | (with_reducible refine ValS.kU64 ?_; first | (with_reducible refine ValS.subU64 ?_ ?_ ?_ ; omega; omega))) | (refine still_in ?_; first | refine still_drop (by decide) ?_) | (refine OpG.keep ?_; first | refine OpG.s1 cok 0 rfl rfl rfl rfl rfl (by first | exact Nat.le_of_ble_eq_true rfl | omega | (dsimp only; omega) | (simp only [addS_eq, mulS_eq]; omega)) rfl rfl ?_))
  exact Fin.same ⟨rfl, _, Y ++ M', st_app hX, hA.close _ _ _ M' (fun k h1 h2 => by rw [updNe h2, updNe h1]) (by rw [updNe (by decide), updEq, List.map_append]; exact hO') updEq, hO.setJ hj ⟨by show 0 < 2 ^ 256; decide, by show 6 < 11; decide, by show 0 < 2147483648; decide, by show V.rf < 2 ^ 64; omega⟩ (by omega), out_rf⟩
theorem out_snap {c : Nat → Value} {v w : Value} : Out c (upd (upd c (addS 10630 (mulS 0 1)) v) 27014 w) := fun k hk => by
  have e : addS 10630 (mulS 0 1) = 10630 := rfl
  rw [e, updNe (by omega), updNe (by omega)]
theorem VI.snap {I : Ent → Prop} {c : Nat → Value} {V : Vl} {G : List Ent} (h : VI I c V G) : VI I (upd (upd c (addS 10630 (mulS 0 1)) (.int .i32 (V.jr.length : Nat))) 27014 (.int .i32 ((1 : Nat) : Int))) { V with nm := 1, mq := V.jr.length } G := by
  have e0 : addS 10630 (mulS 0 1) = 10630 := rfl
  rw [e0]
  have e : ∀ k, k ≠ 10630 → k ≠ 27014 → upd (upd c 10630 (.int .i32 (V.jr.length : Nat))) 27014 (.int .i32 ((1 : Nat) : Int)) k = c k := fun k h1 h2 => by rw [updNe h2, updNe h1]
  have e1 : upd (upd c 10630 (.int .i32 (V.jr.length : Nat))) 27014 (.int .i32 ((1 : Nat) : Int)) 10630 = .int .i32 (V.jr.length : Nat) := by rw [updNe (by omega), updEq]
  have e2 : upd (upd c 10630 (.int .i32 (V.jr.length : Nat))) 27014 (.int .i32 ((1 : Nat) : Int)) 27014 = .int .i32 ((1 : Nat) : Int) := updEq
  generalize upd (upd c 10630 (.int .i32 (V.jr.length : Nat))) 27014 (.int .i32 ((1 : Nat) : Int)) = c' at *
  obtain ⟨MA, MS, MJ, ML, MT, MH, hq, hb⟩ := h.own
  refine ⟨⟨MA, MS, MJ, ML, MT, MH, hq, ?_⟩, fun q hq => ?_, fun q hq => ?_, e1, e2, ?_, h.cd⟩
  · refine ⟨?_, ?_, ?_, ?_, ?_, ?_⟩
    · rw [e _ (by omega) (by omega)]; exact hb.oa
    · rw [e _ (by omega) (by omega)]; exact hb.os
    · rw [e _ (by omega) (by omega)]; exact hb.oj
    · rw [e _ (by omega) (by omega)]; exact hb.ol
    · rw [e _ (by omega) (by omega)]; exact hb.ot
    · rw [e _ (by omega) (by omega)]; exact hb.oh
  · rw [e _ (by omega) (by omega)]; exact h.ta q hq
  · rw [e _ (by omega) (by omega)]; exact h.ts q hq
  · rw [e _ (by omega) (by omega)]; exact h.rf
/-- vault.Vault.Snap -/
theorem vSnap {I : Ent → Prop} {R G : List Ent} {cb sz : Nat} {T : TypeId} {c : Nat → Value} {V : Vl} (hsz : 27019 ≤ sz) (hV : VI I c V G) (hO : VOk V) (h0 : V.nm = 0) :
    CallG Hvaf.prog 188 #[ptr cb 2435] ⟨I, ⟨cb, sz, T, c⟩ :: (R ++ G)⟩ fun r S' => r = .int .i32 ((0 : Nat) : Int) ∧ ∃ c', S' = ⟨I, ⟨cb, sz, T, c'⟩ :: (R ++ G)⟩ ∧ VI I c' { V with nm := 1, mq := V.jr.length } G ∧ VOk { V with nm := 1, mq := V.jr.length } ∧ Out c c' := by
  have hnm := hV.nm
  have hjl := hO.jln
  rw [h0] at hnm
  obtain ⟨ad, cap, hf⟩ : ∃ ad cap, c 10629 = .slice ad V.jr.length cap := by
    obtain ⟨MA, MS, MJ, ML, MT, MH, hpm, hb⟩ := hV.own
    obtain ⟨ad, cap, h⟩ := hb.oj.form
    rw [List.length_map] at h; exact ⟨ad, cap, h⟩
  have hnm2 : upd c (addS 10630 (mulS 0 1)) (.int .i32 (V.jr.length : Nat)) 27014 = .int .i32 ((0 : Nat) : Int) := (updNe (by decide)).trans hnm
  have hnm3 : upd (upd c (addS 10630 (mulS 0 1)) (.int .i32 (V.jr.length : Nat))) 27014 (.int .i32 ((1 : Nat) : Int)) 27014 = .int .i32 ((1 : Nat) : Int) := updEq
  refine CallG.start (C := mkC Hvaf.prog) cok (args := [ptr cb 2435]) Hvaf.func188 rfl Hvaf.ntmps188 (by simp) (by kernel_rfl) ?_
  repeat (first | (refine QuG.keep ?_; first | refine QuG.l1E cok 0 rfl rfl rfl rfl rfl (by first | exact Nat.le_of_ble_eq_true rfl | omega | (dsimp only; omega) | (simp only [addS_eq, mulS_eq]; omega)) (by assumption) ?_) | refine SeqS.go cok ?_ | refine GuardS.yes rfl ?_ | refine CondS.f rfl ?_ | refine And.intro (by dsimp only; omega) ?_ | (refine NatS.keep ?_; first | with_reducible refine NatS.nat ?_) | (refine ValS.keep ?_; first | (with_reducible refine ValS.kI32 ?_; first | (with_reducible refine ValS.convI32 ?_ ?_ ; omega) | (with_reducible refine ValS.addI32_L ?_ ?_ ; omega) | (with_reducible refine ValS.subI32_L ?_ ?_ ?_ ; omega; omega))) | (refine still_in ?_; first | refine still_drop (by decide) ?_) | (refine OpG.keep ?_; first | refine OpG.s1 cok 0 rfl rfl rfl rfl rfl (by first | exact Nat.le_of_ble_eq_true rfl | omega | (dsimp only; omega) | (simp only [addS_eq, mulS_eq]; omega)) rfl rfl ?_) | refine W.drawI 3 cok [0, 0, 2, 6, 14, 0, 32, 96, 224, 480, 992, 1, 2049, 8191, 16383] [0, 1, 2, 3, 4, 5, 6, 7, 8, 9, 10, 11, 12, 13, 14] [4, 8] (by kernel_rfl) (by kernel_rfl) ?_)
  exact Fin.same ⟨rfl, _, rfl, VI.snap hV, { hO with }, out_snap⟩
/-- vault.Vault.Sizes -/
theorem vSizes {I : Ent → Prop} {R G : List Ent} {cb sz : Nat} {T : TypeId} {c : Nat → Value} {V : Vl} (hsz : 27019 ≤ sz) (hV : VI I c V G) (hO : VOk V) :
    CallG Hvaf.prog 102 #[ptr cb 2435] ⟨I, ⟨cb, sz, T, c⟩ :: (R ++ G)⟩ fun r S' => ⟨I, ⟨cb, sz, T, c⟩ :: (R ++ G)⟩ = S' ∧ r = .tuple #[.int .i32 (V.ac.length : Nat), .int .i32 (V.sl.length : Nat), .int .i32 (V.jr.length : Nat), .int .i32 (V.nm : Nat)] := by
  have hnm := hV.nm
  have hjl := hO.jln
  have hal := hO.aln
  have hsl := hO.sln
  obtain ⟨ad, cap, hf⟩ : ∃ ad cap, c 10629 = .slice ad V.jr.length cap := by
    obtain ⟨MA, MS, MJ, ML, MT, MH, hpm, hb⟩ := hV.own
    obtain ⟨ad, cap, h⟩ := hb.oj.form
    rw [List.length_map] at h; exact ⟨ad, cap, h⟩
  obtain ⟨ad2, cap2, hf2⟩ := hV.acc.1
  obtain ⟨ad3, cap3, hf3⟩ := hV.slc.1
  refine CallG.start (C := mkC Hvaf.prog) cok (args := [ptr cb 2435]) Hvaf.func102 rfl Hvaf.ntmps102 (by simp) (by kernel_rfl) ?_
  repeat (first | (refine QuG.keep ?_; first | refine QuG.l1E cok 0 rfl rfl rfl rfl rfl (by first | exact Nat.le_of_ble_eq_true rfl | omega | (dsimp only; omega) | (simp only [addS_eq, mulS_eq]; omega)) (by assumption) ?_) | refine SeqS.go cok ?_ | (refine ValS.keep ?_; first | (with_reducible refine ValS.kI32 ?_; first | (with_reducible refine ValS.convI32 ?_ ?_ ; omega))) | refine W.drawI 1 cok [0, 1, 3, 7, 15, 31, 0, 64, 192, 448, 960, 1984, 0, 4096, 12288, 28672, 61440, 126976, 0, 262144, 786432, 1835008, 63, 4198399, 12845055, 33554431] [0, 1, 2, 3, 4, 5, 6, 7, 8, 9, 10, 11, 12, 13, 14, 15, 16, 17, 18, 19, 20, 21, 22, 23, 24, 25] [3, 9, 15, 21] (by kernel_rfl) (by kernel_rfl) ?_)
  exact Fin.same ⟨rfl, rfl⟩
end Go.Proofs.YgvafwGreat
