import Derived.Test.YgvafwGreatV10
set_option exponentiation.threshold 1000
set_option maxRecDepth 100000
set_option maxHeartbeats 4000000
set_option linter.unusedVariables false
set_option linter.unusedSimpArgs false
-- v2
-- v4
-- v5
-- v6
-- v7
namespace Go.Proofs.YgvafwGreat
open Go.HL Go.Proofs

def newS (key : Nat) : VSl := ⟨key, 0, 0, false⟩
/-- The vault with the slot entered. -/
def Vl.ens (V : Vl) (key : Nat) (t : Nat → Int) : Vl := if V.is key < V.sl.length then V else { V with sl := V.sl ++ [newS key], ts := t }
theorem build_newS (key : Nat) : cellsFrom (fillC z186 [(0, 1, .int .i32 ((0 : Nat) : Int)), (1, 4, .agg (wcs key).toArray)]) 0 14 = (newS key).enc := by
  show _ = .int .i32 ((0 : Nat) : Int) :: (wcs key ++ (wcs 0 ++ (wcs 0 ++ [.bool false])))
  rw [wcs0]; rfl
theorem VSl.enc_one (x : VSl) : ∀ u ∈ x.enc, one u = true := by
  intro u hu
  simp only [VSl.enc, wcs, List.mem_cons, List.cons_append, List.nil_append, List.not_mem_nil, or_false] at hu
  rcases hu with rfl | rfl | rfl | rfl | rfl | rfl | rfl | rfl | rfl | rfl | rfl | rfl | rfl | rfl <;> rfl
theorem VOk.ens {V : Vl} {key p : Nat} (hO : VOk V) (hk : key < 115792089237316195423570985008687907853269984665640564039457584007913129639936) (hi : ¬ V.is key < V.sl.length) (hp : FreeAt 4096 V.ts (mixN 0 key % 4096) p) (hroom : V.sl.length < 1990) : VOk (V.ens key fun q => if q = p then (V.sl.length : Int) else V.ts q) := by
  rw [Vl.ens, if_neg hi]
  have hm : ∀ {P : VSl → Prop}, (∀ x ∈ V.sl, P x) → P (newS key) → ∀ x ∈ V.sl ++ [newS key], P x := by
    intro P h1 h2 x hx
    rcases List.mem_append.1 hx with h | h
    · exact h1 x h
    · obtain rfl := List.mem_singleton.1 h; exact h2
  refine { hO with sky := hm hO.sky hk, sbd := hm hO.sbd ⟨by show (0 : Nat) < _; decide, by show (0 : Nat) < _; decide⟩, snd := ?_, sts := ?_, sln := ?_ }
  · show ((V.sl ++ [newS key]).map VSl.key).Nodup
    rw [List.map_append, List.nodup_append]
    refine ⟨hO.snd, by simp, ?_⟩
    intro x hx y hy
    obtain rfl := List.mem_singleton.1 hy
    obtain ⟨z, hz, rfl⟩ := List.mem_map.1 hx
    obtain ⟨j, hj, rfl⟩ := List.getElem_of_mem hz
    have := Vl.isN hi hj
    rw [List.getD_eq_getElem?_getD, List.getElem?_eq_getElem hj, Option.getD_some] at this
    exact this
  · show TabOk 4096 _ (fun i => mixN 0 ((V.sl ++ [newS key]).getD i dVS).key % 4096) (V.sl ++ [newS key]).length
    rw [List.length_append]
    refine hO.sts.add hp (fun i hi' => ?_) ?_
    · show mixN 0 ((V.sl ++ [newS key]).getD i dVS).key % 4096 = _
      rw [List.getD_eq_getElem?_getD, List.getElem?_append_left hi', ← List.getD_eq_getElem?_getD]
    · show mixN 0 ((V.sl ++ [newS key]).getD V.sl.length dVS).key % 4096 = _
      rw [List.getD_eq_getElem?_getD, List.getElem?_append_right (Nat.le_refl _), Nat.sub_self]; rfl
  · show (V.sl ++ [newS key]).length < 2000
    rw [List.length_append, List.length_singleton]; omega
theorem out_ens {c : Nat → Value} {p : Nat} {v w : Value} (hp : p < 4096) : Out c (upd (upd c 2436 v) (addS 6533 (mulS p 1)) w) := by
  intro k hk'
  have hk : addS 6533 (mulS p 1) = 6533 + p := addS_mulS _ _ _ rfl
  rw [hk, updNe (by omega), updNe (by omega)]
theorem VI.ens {I : Ent → Prop} {c : Nat → Value} {V : Vl} {G MA MS MJ ML MT MH M' : List Ent} {key p : Nat} {v' : Value} (hV : VI I c V G) (hb : VIB I c V MA MS MJ ML MT MH) (hi : ¬ V.is key < V.sl.length) (hplt : p < 4096) (hO' : OwnL 186 14 v' (V.sl.map VSl.enc ++ [(newS key).enc]) M') :
    VI I (upd (upd c 2436 v') (addS 6533 (mulS p 1)) (.int .i32 (V.sl.length : Nat))) (V.ens key fun q => if q = p then (V.sl.length : Int) else V.ts q) ((MA ++ (MJ ++ (ML ++ (MT ++ MH)))) ++ M') := by
  rw [Vl.ens, if_neg hi]
  have hk : addS 6533 (mulS p 1) = 6533 + p := addS_mulS _ _ _ rfl
  rw [hk]
  have e : ∀ k, (k < 2436 ∨ 2436 < k ∧ k < 6533 ∨ 10628 < k) → upd (upd c 2436 v') (6533 + p) (.int .i32 (V.sl.length : Nat)) k = c k := fun k hk' => by rw [updNe (by omega), updNe (by omega)]
  have e0 : upd (upd c 2436 v') (6533 + p) (.int .i32 (V.sl.length : Nat)) 2436 = v' := by rw [updNe (by omega), updEq]
  have e1 : ∀ q, upd (upd c 2436 v') (6533 + p) (.int .i32 (V.sl.length : Nat)) (6533 + q) = if q = p then .int .i32 (V.sl.length : Nat) else c (6533 + q) := fun q => by
    by_cases hqp : q = p
    · subst hqp; rw [if_pos rfl, updEq]
    · rw [if_neg hqp, updNe (by omega), updNe (by omega)]
  generalize upd (upd c 2436 v') (6533 + p) (.int .i32 (V.sl.length : Nat)) = c' at *
  refine ⟨⟨MA, M', MJ, ML, MT, MH, perm_sum fun f => ?_, ?_⟩, fun q hq => ?_, fun q hq => ?_, ?_, ?_, ?_, ?_⟩
  · simp only [sumE_append]; omega
  · refine ⟨?_, ?_, ?_, ?_, ?_, ?_⟩
    · rw [e 2435 (by omega)]; exact hb.oa
    · show OwnL _ 14 (c' 2436) ((V.sl ++ [newS key]).map VSl.enc) M'
      rw [e0, List.map_append]; exact hO'
    · rw [e 10629 (by omega)]; exact hb.oj
    · rw [e 27016 (by omega)]; exact hb.ol
    · rw [e 27017 (by omega)]; exact hb.ot
    · rw [e 27018 (by omega)]; exact hb.oh
  · rw [e (2437 + q) (by omega)]; exact hV.ta q hq
  · rw [e1 q]
    split
    · rename_i h; subst h; simp
    · rename_i h; simp only [h, if_false]; exact hV.ts q hq
  · rw [e 10630 (by omega)]; exact hV.mrk
  · rw [e 27014 (by omega)]; exact hV.nm
  · rw [e 27015 (by omega)]; exact hV.rf
  · exact hV.cd
theorem perm_sl {R G MA MS X : List Ent} (hp : G.Perm (MA ++ (MS ++ X))) : (R ++ G).Perm ((R ++ (MA ++ X)) ++ MS) := by
  refine perm_sum fun f => ?_
  have := sumE_perm (f := f) hp
  simp only [sumE_append] at this ⊢; omega
/-- vault.Vault.slot, where the slot is not there -/
theorem vSlotN {I : Ent → Prop} {R G : List Ent} {cb sz key : Nat} {T : TypeId} {c : Nat → Value} {V : Vl} (hsz : 27019 ≤ sz) (hV : VI I c V G) (hO : VOk V) (hk : key < 115792089237316195423570985008687907853269984665640564039457584007913129639936) (hi : ¬ V.is key < V.sl.length) (hroom : V.sl.length < 1990) :
    CallG Hvaf.prog 94 #[ptr cb 2435, .int .i32 ((0 : Nat) : Int), .agg (wcs key).toArray] ⟨I, ⟨cb, sz, T, c⟩ :: (R ++ G)⟩ fun r S' => r = .tuple #[.int .i32 (V.is key : Nat), .bool true] ∧ ∃ c' G' t, S' = ⟨I, ⟨cb, sz, T, c'⟩ :: (R ++ G')⟩ ∧ VI I c' (V.ens key t) G' ∧ VOk (V.ens key t) ∧ Out c c' := by
  have hixe : V.is key = V.sl.length := Nat.le_antisymm List.findIdx_le_length (by omega)
  obtain ⟨p, hp, hfn⟩ := vFindSN (R := R) (cb := cb) (T := T) hsz hV hO hk hi
  have hplt := hp.lt
  obtain ⟨MA, MS, MJ, ML, MT, MH, hpm, hb⟩ := hV.own
  have hpm2 := perm_sl (R := R) hpm
  obtain ⟨⟨ad, cap, hf⟩, -⟩ := hV.slc
  have hoa := hb.os
  rw [hf] at hoa
  refine CallG.perm (⟨cb, sz, T, c⟩ :: ((R ++ (MA ++ (MJ ++ (ML ++ (MT ++ MH))))) ++ MS)) (hpm2.cons _) ?_
  replace hfn := CallG.samePerm hpm2.symm hfn
  generalize hX : R ++ (MA ++ (MJ ++ (ML ++ (MT ++ MH)))) = X at *
  rw [hixe]
  have hkl : (wcs key).length = 4 := rfl
  rw [← wcs_word] at hfn
  refine CallG.start (C := mkC Hvaf.prog) cok (args := [ptr cb 2435, .int .i32 ((0 : Nat) : Int), .agg (wcs key).toArray]) Hvaf.func94 rfl Hvaf.ntmps94 (by simp) (by kernel_rfl) ?_
  intro xb
  repeat (first | (refine QuG.keep ?_; first | refine QuG.boxL cok 0 rfl rfl rfl rfl rfl (by assumption) ?_) | refine SeqS.go cok ?_)
  refine CallG.sameL [_] hfn ?_
  repeat (first | (refine QuG.keep ?_; first | refine QuG.l1E cok 1 rfl rfl rfl rfl rfl (by first | exact Nat.le_of_ble_eq_true rfl | omega | (dsimp only; omega) | (simp only [addS_eq, mulS_eq]; omega)) (by assumption) ?_ | refine QuG.boxL cok 0 rfl rfl rfl rfl rfl (by assumption) ?_) | refine SeqS.go cok ?_ | refine GuardS.yes rfl ?_ | refine CondS.f rfl ?_ | refine And.intro (fillOk_of (Eq.refl true)) ?_ | refine And.intro (Eq.refl true) ?_ | refine And.intro (by dsimp only; omega) ?_ | (refine ValS.keep ?_; first | (with_reducible refine ValS.kI32 ?_; first | (with_reducible refine ValS.convI32 ?_ ?_ ; omega))) | refine W.drawI 7 cok [0, 0, 2, 6, 14, 0, 0, 96, 224, 510, 1023, 2047, 4095] [0, 1, 2, 3, 4, 5, 6, 7, 8, 9, 10, 11, 12] [4, 6] (by kernel_rfl) (by kernel_rfl) ?_ | (refine CondS.keep ?_; first | refine CondS.d0 rfl (by omega) ?_))
  intro tb
  repeat (first | (refine still_in ?_; first | refine still_nil ?_ | refine still_drop (by decide) ?_ | (refine still_keep (by decide) rfl ?_ ?_; first | exact QuV.l1 cok 2 rfl rfl rfl rfl rfl (by first | exact Nat.le_of_ble_eq_true rfl | omega | (dsimp only; omega) | (simp only [addS_eq, mulS_eq]; omega)) (by assumption))))
  refine OpG.keep ?_
  refine OpG.app1 cok (L := _ :: _ :: X) (M := MS) (vss := V.sl.map VSl.enc) (el := (newS key).enc) rfl rfl rfl rfl rfl rfl rfl rfl rfl ?_ ?_ ?_ ?_ ?_ ?_
  · exact hoa
  · exact row_eq (build_newS key) (Row.updN2 _ 0 _)
  · rfl
  · exact VSl.enc_one _
  · rw [List.length_map]; omega
  intro v' M' hO'
  have hone' := hO'.one
  repeat (first | (refine OpG.keep ?_; first | refine OpG.s1 cok 1 rfl rfl rfl rfl rfl (by first | exact Nat.le_of_ble_eq_true rfl | omega | (dsimp only; omega) | (simp only [addS_eq, mulS_eq]; omega)) rfl (by assumption) ?_) | refine SeqS.go cok ?_ | refine And.intro (by omega) ?_ | (refine NatS.keep ?_; first | with_reducible refine NatS.nat ?_) | (refine still_in ?_; first | refine still_drop (by decide) ?_) | (refine OpG.keep ?_; first | refine OpG.s1 cok 1 rfl rfl rfl rfl rfl (by first | exact Nat.le_of_ble_eq_true rfl | omega | (dsimp only; omega) | (simp only [addS_eq, mulS_eq]; omega)) rfl rfl ?_))
  exact Fin.drop (⟨cb, sz, T, _⟩ :: (X ++ M')) [_] ⟨rfl, _, (MA ++ (MJ ++ (ML ++ (MT ++ MH)))) ++ M', fun q => if q = p then (V.sl.length : Int) else V.ts q, st_app hX, VI.ens hV hb hi hplt hO', VOk.ens hO hk hi hp hroom, out_ens hplt⟩
/-- vault.Vault.slot -/
theorem vSlot {I : Ent → Prop} {R G : List Ent} {cb sz key : Nat} {T : TypeId} {c : Nat → Value} {V : Vl} (hsz : 27019 ≤ sz) (hV : VI I c V G) (hO : VOk V) (hk : key < 115792089237316195423570985008687907853269984665640564039457584007913129639936) (hroom : V.sl.length < 1990) :
    CallG Hvaf.prog 94 #[ptr cb 2435, .int .i32 ((0 : Nat) : Int), .agg (wcs key).toArray] ⟨I, ⟨cb, sz, T, c⟩ :: (R ++ G)⟩ fun r S' => r = .tuple #[.int .i32 (V.is key : Nat), .bool true] ∧ ∃ c' G' t, S' = ⟨I, ⟨cb, sz, T, c'⟩ :: (R ++ G')⟩ ∧ VI I c' (V.ens key t) G' ∧ VOk (V.ens key t) ∧ Out c c' := by
  by_cases hi : V.is key < V.sl.length
  · have hln := hO.sln
    have hkl : (wcs key).length = 4 := rfl
    have hfn := vFindSY (R := R) (cb := cb) (T := T) hsz hV hO hk hi
    have he : ∀ t, V.ens key t = V := fun t => by rw [Vl.ens, if_pos hi]
    generalize V.is key = i at *
    rw [← wcs_word] at hfn
    refine CallG.start (C := mkC Hvaf.prog) cok (args := [ptr cb 2435, .int .i32 ((0 : Nat) : Int), .agg (wcs key).toArray]) Hvaf.func94 rfl Hvaf.ntmps94 (by simp) (by kernel_rfl) ?_
    intro xb
    repeat (first | (refine QuG.keep ?_; first | refine QuG.boxL cok 0 rfl rfl rfl rfl rfl (by assumption) ?_) | refine SeqS.go cok ?_)
    refine CallG.sameL [_] hfn ?_
    repeat (first | refine SeqS.go cok ?_ | refine CondS.t rfl ?_)
    exact Fin.drop (⟨cb, sz, T, c⟩ :: (R ++ G)) [_] ⟨rfl, c, G, V.ts, rfl, (he _).symm ▸ hV, (he _).symm ▸ hO, .refl _⟩
  · exact vSlotN hsz hV hO hk hi hroom
theorem Vl.ens_is {V : Vl} {key : Nat} {t : Nat → Int} : V.is key < (V.ens key t).sl.length := by
  unfold Vl.ens
  split
  · assumption
  · have : V.is key ≤ V.sl.length := List.findIdx_le_length
    show V.is key < (V.sl ++ [newS key]).length
    rw [List.length_append, List.length_singleton]; omega
/-- The slots' block and the journal laid open. -/
structure SO (I : Ent → Prop) (c : Nat → Value) (V : Vl) (b cap : Nat) (ca : Nat → Value) (Y MJ : List Ent) : Prop where
  sl : c 2436 = sl b 0 V.sl.length cap
  els : Els ⟨b, mulS cap 14, 186, ca⟩ 0 14 (V.sl.map VSl.enc)
  jr : OwnL 228 9 (c 10629) (V.jr.map VE.enc) MJ
  close : ∀ ca' v' sl' jr' MJ', Els ⟨b, mulS cap 14, 186, ca'⟩ 0 14 (sl'.map VSl.enc) → sl'.length = V.sl.length → OwnL 228 9 v' (jr'.map VE.enc) MJ' → VI I (upd c 10629 v') { V with sl := sl', jr := jr' } (⟨b, mulS cap 14, 186, ca'⟩ :: (Y ++ MJ'))
theorem VI.openS {I : Ent → Prop} {c : Nat → Value} {V : Vl} {G : List Ent} (h : VI I c V G) (hl : 0 < V.sl.length) : ∃ b cap ca Y MJ, G.Perm (⟨b, mulS cap 14, 186, ca⟩ :: (Y ++ MJ)) ∧ SO I c V b cap ca Y MJ := by
  obtain ⟨MA, MS, MJ, ML, MT, MH, hq, hb⟩ := h.own
  obtain ⟨b, cap, ca, h1, h2, rfl, h4⟩ := hb.os.some (by rw [List.length_map]; exact hl)
  rw [List.length_map] at h1
  rw [List.length_map] at h2
  refine ⟨b, cap, ca, MA ++ (ML ++ (MT ++ MH)), MJ, hq.trans (perm_sum fun f => ?_), h1, h4, hb.oj, ?_⟩
  · simp only [sumE, sumE_append]; omega
  · intro ca' v' ac' jr' MJ' hE hlen hj
    have e : ∀ k, k ≠ 10629 → upd c 10629 v' k = c k := fun k hk => updNe hk
    have e0 : upd c 10629 v' 10629 = v' := updEq
    generalize upd c 10629 v' = c' at *
    refine ⟨⟨MA, [⟨b, mulS cap 14, 186, ca'⟩], MJ', ML, MT, MH, perm_sum fun f => ?_, ?_⟩, fun q hq => ?_, fun q hq => ?_, ?_, ?_, ?_, h.cd⟩
    · simp only [sumE, sumE_append]; omega
    · refine ⟨?_, ?_, ?_, ?_, ?_, ?_⟩
      · rw [e 2435 (by omega)]; exact hb.oa
      · rw [e 2436 (by omega), h1]
        exact OwnL.of hE (by rw [List.length_map]; exact hlen.symm) (by rw [List.length_map, hlen]; exact h2)
      · rw [e0]; exact hj
      · rw [e 27016 (by omega)]; exact hb.ol
      · rw [e 27017 (by omega)]; exact hb.ot
      · rw [e 27018 (by omega)]; exact hb.oh
    · rw [e _ (by omega)]; exact h.ta q hq
    · rw [e _ (by omega)]; exact h.ts q hq
    · rw [e _ (by omega)]; exact h.mrk
    · rw [e _ (by omega)]; exact h.nm
    · rw [e _ (by omega)]; exact h.rf
/-- vault.Vault.slotOf, for the account at place 0, with what it leaves laid open -/
theorem vSlotOfO {I : Ent → Prop} {R G : List Ent} {cb sz key : Nat} {T : TypeId} {c : Nat → Value} {V : Vl} {a : List Nat} (hsz : 27019 ≤ sz) (hV : VI I c V G) (hO : VOk V) (ha : AdOk a) (h0 : V.ix a = 0) (h1 : 0 < V.ac.length) (hk : key < 115792089237316195423570985008687907853269984665640564039457584007913129639936) (hroom : V.sl.length < 1990) :
    CallG Hvaf.prog 258 #[ptr cb 2435, bytesV a, .agg (wcs key).toArray] ⟨I, ⟨cb, sz, T, c⟩ :: (R ++ G)⟩ fun r S' => ∃ c' b cap ca Y MJ t, r = .tuple #[.int .i32 (V.is key : Nat), .bool true] ∧ S' = ⟨I, ⟨cb, sz, T, c'⟩ :: ⟨b, mulS cap 14, 186, ca⟩ :: ((R ++ Y) ++ MJ)⟩ ∧ SO I c' (V.ens key t) b cap ca Y MJ ∧ VI I c' (V.ens key t) (⟨b, mulS cap 14, 186, ca⟩ :: (Y ++ MJ)) ∧ VOk (V.ens key t) ∧ Out c c' := by
  have hal := ha.len
  have hab := ha.bv
  have hkl : (wcs key).length = 4 := rfl
  have hfn := vFindY (R := R) (cb := cb) (T := T) hsz hV hO ha (by omega)
  have hac : CallG Hvaf.prog 92 #[ptr cb 2435, bytesV a] ⟨I, ⟨cb, sz, T, c⟩ :: (R ++ G)⟩ fun r S' => ⟨I, ⟨cb, sz, T, c⟩ :: (R ++ G)⟩ = S' ∧ r = .tuple #[.int .i32 ((0 : Nat) : Int), .bool true] := by
    rw [h0] at hfn
    refine CallG.start (C := mkC Hvaf.prog) cok (args := [ptr cb 2435, bytesV a]) Hvaf.func92 rfl Hvaf.ntmps92 (by simp) (by kernel_rfl) ?_
    intro xb
    repeat (first | (refine QuG.keep ?_; first | refine QuG.boxL cok 0 rfl rfl rfl rfl rfl (by assumption) ?_) | refine SeqS.go cok ?_)
    refine CallG.sameL [_] hfn ?_
    repeat (first | refine SeqS.go cok ?_ | refine CondS.t rfl ?_)
    exact Fin.drop (⟨cb, sz, T, c⟩ :: (R ++ G)) [_] ⟨rfl, rfl⟩
  have hsl := vSlot (R := R) (cb := cb) (T := T) hsz hV hO hk hroom
  refine CallG.post ?_
  rw [h0] at hfn
  generalize his : V.is key = i at *
  refine CallG.start (C := mkC Hvaf.prog) cok (args := [ptr cb 2435, bytesV a, .agg (wcs key).toArray]) Hvaf.func258 rfl Hvaf.ntmps258 (by simp) (by kernel_rfl) ?_
  intro xb kb
  repeat (first | (refine QuG.keep ?_; first | refine QuG.boxL cok 1 rfl rfl rfl rfl rfl (by assumption) ?_) | refine SeqS.go cok ?_)
  refine CallG.sameL [_, _] hfn ?_
  repeat (first | (refine QuG.keep ?_; first | refine QuG.boxL cok 1 rfl rfl rfl rfl rfl (by assumption) ?_) | refine SeqS.go cok ?_ | refine GuardS.no rfl ?_ | refine CondS.f rfl ?_)
  refine CallG.sameL [_, _] hac ?_
  repeat (first | (refine QuG.keep ?_; first | refine QuG.boxL cok 0 rfl rfl rfl rfl rfl (by assumption) ?_) | refine SeqS.go cok ?_ | refine CondS.f rfl ?_)
  refine CallG.behind [_, _] hsl ?_
  rintro r J G1 hs ⟨rfl, c', G', t, hS, hV', hO', ho⟩
  cases hS
  repeat (first | refine SeqS.go cok ?_)
  refine Fin.drop (⟨cb, sz, T, c'⟩ :: (R ++ G')) [_, _] ?_
  obtain ⟨b, cap, ca, Y, MJ, hp, hA⟩ := hV'.openS (Nat.lt_of_le_of_lt (Nat.zero_le _) Vl.ens_is)
  refine Rel.perm (⟨cb, sz, T, c'⟩ :: ⟨b, mulS cap 14, 186, ca⟩ :: ((R ++ Y) ++ MJ)) [] ?_ ⟨c', b, cap, ca, Y, MJ, t, rfl, rfl, hA, hV'.perm hp.symm, hO', ho⟩
  refine perm_sum fun f => ?_
  have := sumE_perm (f := f) hp
  simp only [sumE, sumE_append] at this ⊢; omega
end Go.Proofs.YgvafwGreat
