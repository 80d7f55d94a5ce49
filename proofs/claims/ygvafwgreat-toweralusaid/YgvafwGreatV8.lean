import Derived.Test.YgvafwGreatV7
set_option exponentiation.threshold 1000
set_option maxRecDepth 100000
set_option maxHeartbeats 4000000
set_option linter.unusedVariables false
set_option linter.unusedSimpArgs false
-- v2
-- v4
-- v5
-- v6
-- v7
namespace Go.Proofs.YgvafwGreat
open Go.HL Go.Proofs

/-! ### Permutations, by sums -/
def sumE (f : Ent → Nat) : List Ent → Nat
  | [] => 0
  | x :: l => f x + sumE f l
theorem sumE_append (f : Ent → Nat) : ∀ l m, sumE f (l ++ m) = sumE f l + sumE f m
  | [], m => by simp [sumE]
  | x :: l, m => by simp [sumE, sumE_append f l m, Nat.add_assoc]
theorem sumE_perm {f : Ent → Nat} {l m : List Ent} (h : l.Perm m) : sumE f l = sumE f m := by
  induction h with
  | nil => rfl
  | cons x _ ih => simp [sumE, ih]
  | swap x y l => simp [sumE]; omega
  | trans _ _ a b => exact a.trans b
open Classical in
theorem sumE_count (a : Ent) : ∀ l : List Ent, sumE (fun x => if x = a then 1 else 0) l = l.count a
  | [] => rfl
  | x :: l => by
    rw [sumE, sumE_count a l, List.count_cons]
    by_cases h : x = a <;> simp [h]; omega
open Classical in
theorem perm_sum {l m : List Ent} (h : ∀ f, sumE f l = sumE f m) : l.Perm m := by
  rw [List.perm_iff_count]
  intro a
  rw [← sumE_count, ← sumE_count]; exact h _
theorem _root_.Go.HL.Fin.perm {K : Post} {v : Value} {I : Ent → Prop} {G0 : List Ent} (D G : List Ent) (hp : G0.Perm (G ++ D)) (h : K v ⟨I, G⟩) : Fin K v ⟨I, G0⟩ := ⟨D, [], G, I, by simpa using hp, fun x => by simp, h⟩
/-- vault.Vault.room -/
theorem vRoom {I : Ent → Prop} {R G : List Ent} {cb sz : Nat} {T : TypeId} {c : Nat → Value} {V : Vl} (hsz : 27019 ≤ sz) (hV : VI I c V G) (hO : VOk V) :
    CallG Hvaf.prog 180 #[ptr cb 2435] ⟨I, ⟨cb, sz, T, c⟩ :: (R ++ G)⟩ fun r S' => ⟨I, ⟨cb, sz, T, c⟩ :: (R ++ G)⟩ = S' ∧ r = .bool true := by
  have hj := hO.jln
  obtain ⟨ad, cap, hf⟩ : ∃ ad cap, c 10629 = .slice ad V.jr.length cap := by
    obtain ⟨MA, MS, MJ, ML, MT, MH, hpm, hb⟩ := hV.own
    obtain ⟨ad, cap, h⟩ := hb.oj.form
    rw [List.length_map] at h; exact ⟨ad, cap, h⟩
  refine CallG.start (C := mkC Hvaf.prog) cok (args := [ptr cb 2435]) Hvaf.func180 rfl Hvaf.ntmps180 (by simp) (by kernel_rfl) ?_
  repeat (first | (refine QuG.keep ?_; first | refine QuG.l1E cok 0 rfl rfl rfl rfl rfl (by first | exact Nat.le_of_ble_eq_true rfl | omega | (dsimp only; omega) | (simp only [addS_eq, mulS_eq]; omega)) (by assumption) ?_) | refine SeqS.go cok ?_)
  exact Fin.same ⟨rfl, vB rfl (by simp; omega)⟩
/-- vault.Vault.acct -/
theorem vAcct {I : Ent → Prop} {R G : List Ent} {cb sz : Nat} {T : TypeId} {c : Nat → Value} {V : Vl} {a : List Nat} (hsz : 27019 ≤ sz) (hV : VI I c V G) (hO : VOk V) (ha : AdOk a) (hroom : V.ac.length < 1990) :
    CallG Hvaf.prog 92 #[ptr cb 2435, bytesV a] ⟨I, ⟨cb, sz, T, c⟩ :: (R ++ G)⟩ fun r S' => r = .tuple #[.int .i32 (V.ix a : Nat), .bool true] ∧ ∃ c' G' t, S' = ⟨I, ⟨cb, sz, T, c'⟩ :: (R ++ G')⟩ ∧ VI I c' (V.ent a t) G' ∧ VOk (V.ent a t) ∧ Out c c' := by
  by_cases hi : V.ix a < V.ac.length
  · have hal := ha.len
    have hab := ha.bv
    have hln := hO.aln
    have hfn := vFindY (R := R) (cb := cb) (T := T) hsz hV hO ha hi
    have he : ∀ t, V.ent a t = V := fun t => by rw [Vl.ent, if_pos hi]
    generalize V.ix a = i at *
    refine CallG.start (C := mkC Hvaf.prog) cok (args := [ptr cb 2435, bytesV a]) Hvaf.func92 rfl Hvaf.ntmps92 (by simp) (by kernel_rfl) ?_
    intro xb
    repeat (first | (refine QuG.keep ?_; first | refine QuG.boxL cok 0 rfl rfl rfl rfl rfl (by assumption) ?_) | refine SeqS.go cok ?_)
    refine CallG.sameL [_] hfn ?_
    repeat (first | refine SeqS.go cok ?_ | refine CondS.t rfl ?_)
    exact Fin.drop (⟨cb, sz, T, c⟩ :: (R ++ G)) [_] ⟨rfl, c, G, V.ta, rfl, (he _).symm ▸ hV, (he _).symm ▸ hO, .refl _⟩
  · exact vAcctN hsz hV hO ha hi hroom
theorem Vl.ent_ix {V : Vl} {a : List Nat} {t : Nat → Int} : V.ix a < (V.ent a t).ac.length := by
  unfold Vl.ent
  split
  · assumption
  · have : V.ix a ≤ V.ac.length := List.findIdx_le_length
    show V.ix a < (V.ac ++ [newA a]).length
    rw [List.length_append, List.length_singleton]; omega
/-- The accounts' block and the journal laid open. -/
structure AO (I : Ent → Prop) (c : Nat → Value) (V : Vl) (b cap : Nat) (ca : Nat → Value) (Y MJ : List Ent) : Prop where
  sl : c 2435 = sl b 0 V.ac.length cap
  els : Els ⟨b, mulS cap 29, 177, ca⟩ 0 29 (V.ac.map VA.enc)
  jr : OwnL 228 9 (c 10629) (V.jr.map VE.enc) MJ
  close : ∀ ca' v' ac' jr' MJ', Els ⟨b, mulS cap 29, 177, ca'⟩ 0 29 (ac'.map VA.enc) → ac'.length = V.ac.length → OwnL 228 9 v' (jr'.map VE.enc) MJ' → (∀ x ∈ ac', Byt ⟨I, []⟩ x.cv x.code) → VI I (upd c 10629 v') { V with ac := ac', jr := jr' } (⟨b, mulS cap 29, 177, ca'⟩ :: (Y ++ MJ'))
theorem VI.openA {I : Ent → Prop} {c : Nat → Value} {V : Vl} {G : List Ent} (h : VI I c V G) (hl : 0 < V.ac.length) : ∃ b cap ca Y MJ, G.Perm (⟨b, mulS cap 29, 177, ca⟩ :: (Y ++ MJ)) ∧ AO I c V b cap ca Y MJ := by
  obtain ⟨MA, MS, MJ, ML, MT, MH, hq, hb⟩ := h.own
  obtain ⟨b, cap, ca, h1, h2, rfl, h4⟩ := hb.oa.some (by rw [List.length_map]; exact hl)
  rw [List.length_map] at h1
  rw [List.length_map] at h2
  refine ⟨b, cap, ca, MS ++ (ML ++ (MT ++ MH)), MJ, hq.trans (perm_sum fun f => ?_), h1, h4, hb.oj, ?_⟩
  · simp only [sumE, sumE_append]; omega
  · intro ca' v' ac' jr' MJ' hE hlen hj hcd
    have e : ∀ k, k ≠ 10629 → upd c 10629 v' k = c k := fun k hk => updNe hk
    have e0 : upd c 10629 v' 10629 = v' := updEq
    generalize upd c 10629 v' = c' at *
    refine ⟨⟨[⟨b, mulS cap 29, 177, ca'⟩], MS, MJ', ML, MT, MH, perm_sum fun f => ?_, ?_⟩, fun q hq => ?_, fun q hq => ?_, ?_, ?_, ?_, hcd⟩
    · simp only [sumE, sumE_append]; omega
    · refine ⟨?_, ?_, ?_, ?_, ?_, ?_⟩
      · rw [e 2435 (by omega), h1]
        exact OwnL.of hE (by rw [List.length_map]; exact hlen.symm) (by rw [List.length_map, hlen]; exact h2)
      · rw [e 2436 (by omega)]; exact hb.os
      · rw [e0]; exact hj
      · rw [e 27016 (by omega)]; exact hb.ol
      · rw [e 27017 (by omega)]; exact hb.ot
      · rw [e 27018 (by omega)]; exact hb.oh
    · rw [e _ (by omega)]; exact h.ta q hq
    · rw [e _ (by omega)]; exact h.ts q hq
    · rw [e _ (by omega)]; exact h.mrk
    · rw [e _ (by omega)]; exact h.nm
    · rw [e _ (by omega)]; exact h.rf
/-- vault.Vault.acct, with what it leaves laid open -/
theorem vAcctO {I : Ent → Prop} {R G : List Ent} {cb sz : Nat} {T : TypeId} {c : Nat → Value} {V : Vl} {a : List Nat} (hsz : 27019 ≤ sz) (hV : VI I c V G) (hO : VOk V) (ha : AdOk a) (hroom : V.ac.length < 1990) :
    CallG Hvaf.prog 92 #[ptr cb 2435, bytesV a] ⟨I, ⟨cb, sz, T, c⟩ :: (R ++ G)⟩ fun r S' => ∃ c' b cap ca Y MJ t, r = .tuple #[.int .i32 (V.ix a : Nat), .bool true] ∧ S' = ⟨I, ⟨cb, sz, T, c'⟩ :: ⟨b, mulS cap 29, 177, ca⟩ :: ((R ++ Y) ++ MJ)⟩ ∧ AO I c' (V.ent a t) b cap ca Y MJ ∧ VI I c' (V.ent a t) (⟨b, mulS cap 29, 177, ca⟩ :: (Y ++ MJ)) ∧ VOk (V.ent a t) ∧ Out c c' := by
  refine CallG.post ((vAcct hsz hV hO ha hroom).mono ?_)
  rintro r _ - ⟨rfl, c', G', t, rfl, hV', hO', ho⟩
  obtain ⟨b, cap, ca, Y, MJ, hp, hA⟩ := hV'.openA (Nat.lt_of_le_of_lt (Nat.zero_le _) Vl.ent_ix)
  refine Rel.perm (⟨cb, sz, T, c'⟩ :: ⟨b, mulS cap 29, 177, ca⟩ :: ((R ++ Y) ++ MJ)) [] ?_ ⟨c', b, cap, ca, Y, MJ, t, rfl, rfl, hA, hV'.perm hp.symm, hO', ho⟩
  refine perm_sum fun f => ?_
  have := sumE_perm (f := f) hp
  simp only [sumE, sumE_append] at this ⊢; omega
end Go.Proofs.YgvafwGreat
