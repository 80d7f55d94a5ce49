import Derived.Test.YgvafwGreatV25
set_option exponentiation.threshold 1000
set_option maxRecDepth 100000
set_option maxHeartbeats 4000000
set_option linter.unusedVariables false
set_option linter.unusedSimpArgs false
-- v2
-- v4
-- v5
-- v6
-- v7
-- plus: (refine ValS.keep ?_; with_reducible refine ValS.slZ ?_ ?_; omega)
namespace Go.HL
open Go Go.Proofs
theorem ValS.slZ {q : Value → Prop} {b o h m z l : Nat} (hl : m = l) (hq : q (.slice (some ⟨b, o, none⟩) (h - l) (m - l))) : ValS (.slice (some ⟨b, if m = l then o else addS o (mulS l z), none⟩) (h - l) (m - l)) q :=
  ⟨by rw [if_pos hl]; exact hq⟩
end Go.HL
namespace Go.Proofs.YgvafwGreat
open Go.HL Go.Proofs

theorem passL_step {w f lo n : Nat} {L O : List SK} (hn : L.length = n) (hlt : lo < n) (hf : n - lo ≤ f + 1) (h : O ++ passL leK w (f + 1) (L.drop lo) = passL leK w n L) : (O ++ List.merge ((L.drop lo).take w) ((L.drop (lo + w)).take w) leK) ++ passL leK w f (L.drop (lo + 2 * w)) = passL leK w n L := by
  rw [← h, List.append_assoc]
  congr 1
  rw [passL, if_neg (by rw [List.length_drop]; omega), List.drop_drop, List.drop_drop]
theorem els_cut {x : Ent} {L : List SK} {lo w : Nat} (hE : Els x 0 6 (L.map SK.enc)) (hl : lo ≤ L.length) : Els x (addS 0 (mulS lo 6)) 6 (((L.drop lo).take w).map SK.enc) := by
  rw [addS_eq, mulS_eq, Nat.zero_add]
  have hf : (L.map SK.enc).flatten.length = L.length * 6 := by rw [flat_len (k := 6) hE.len, List.length_map]
  have he : (L.map SK.enc).flatten = ((L.take lo).map SK.enc).flatten ++ ((((L.drop lo).take w).map SK.enc).flatten ++ (((L.drop lo).drop w).map SK.enc).flatten) := by
    rw [← List.flatten_append, ← List.map_append, List.take_append_drop, ← List.flatten_append, ← List.map_append, List.take_append_drop]
  have hl1 : ((L.take lo).map SK.enc).flatten.length = lo * 6 := by
    rw [flat_len (k := 6) (fun l h => by obtain ⟨y, _, rfl⟩ := List.mem_map.1 h; rfl), List.length_map, List.length_take]; congr 1; omega
  have hl2 : (((L.drop lo).take w).map SK.enc).flatten.length = ((L.drop lo).take w).length * 6 := by
    rw [flat_len (k := 6) (fun l h => by obtain ⟨y, _, rfl⟩ := List.mem_map.1 h; rfl), List.length_map]
  have hle : ((L.drop lo).take w).length ≤ L.length - lo := by rw [List.length_take, List.length_drop]; omega
  have hfit := hE.fit
  rw [List.length_map] at hfit
  refine ⟨fun l h => by obtain ⟨y, _, rfl⟩ := List.mem_map.1 h; rfl, ⟨fun p hp => ?_⟩, by rw [List.length_map]; omega⟩
  have := hE.row.get (lo * 6 + p) (by rw [he, List.length_append, List.length_append, hl1]; omega)
  rw [Nat.zero_add] at this
  rw [this, he, List.getD_eq_getElem?_getD, List.getElem?_append_right (by omega), hl1, List.getElem?_append_left (by omega), ← List.getD_eq_getElem?_getD, show lo * 6 + p - lo * 6 = p by omega]
theorem row_app {c c' : Nat → Value} {A B : List Value} {o : Nat} (ho : o = A.length) (h1 : Row c 0 A) (h2 : Row c' o B) (hk : ∀ p, p < o → c' p = c p) : Row c' 0 (A ++ B) := by
  subst ho
  refine ⟨fun p hp => ?_⟩
  rw [Nat.zero_add]
  by_cases h : p < A.length
  · rw [hk p h, List.getD_eq_getElem?_getD, List.getElem?_append_left h, ← List.getD_eq_getElem?_getD]
    have := h1.get p h
    rw [Nat.zero_add] at this; exact this
  · rw [List.length_append] at hp
    have := h2.get (p - A.length) (by omega)
    rw [List.getD_eq_getElem?_getD, List.getElem?_append_right (by omega), ← List.getD_eq_getElem?_getD, ← this]
    congr 1; omega
theorem leK_tr (a b c : SK) (h1 : leK a b = true) (h2 : leK b c = true) : leK a c = true := by
  have h1 := of_decide_eq_true h1
  have h2 := of_decide_eq_true h2
  exact decide_eq_true (Nat.le_trans h1 h2)
theorem leK_tot (a b : SK) : (leK a b || leK b a) = true := by
  unfold leK
  rcases Nat.le_total a.w b.w with h | h <;> simp [h]
/-- A pass underway. -/
def PasP (I : Ent → Prop) (G : List Ent) (bF sF bT sT n w : Nat) (cF : Nat → Value) (L : List SK) (lo : Nat) (S' : St) : Prop :=
  ∃ (cT : Nat → Value) (O : List SK) (f : Nat), S' = ⟨I, ⟨bT, sT, 180, cT⟩ :: ⟨bF, sF, 180, cF⟩ :: G⟩ ∧ O.length = min lo n ∧ O ++ passL leK w f (L.drop lo) = passL leK w n L ∧ n - lo ≤ f ∧ Row cT 0 (O.map SK.enc).flatten
/-- The two rows between passes. -/
def SoP (I : Ent → Prop) (G : List Ent) (n w : Nat) (L0 : List SK) (bF pF bT pT : Nat) (S' : St) : Prop :=
  ∃ (sF sT : Nat) (cF cT : Nat → Value) (L : List SK), S' = ⟨I, ⟨bT, sT, 180, cT⟩ :: ⟨bF, sF, 180, cF⟩ :: G⟩ ∧ Els ⟨bF, sF, 180, cF⟩ 0 6 (L.map SK.enc) ∧ n * 6 ≤ sT ∧ n ≤ pF ∧ n ≤ pT ∧ L.Perm L0 ∧ RunsW leK w L ∧ 0 < w
/-- vault.sorted -/
theorem vSorted {I : Ent → Prop} {G : List Ent} {kb ksz n cap rk : Nat} {kc : Nat → Value} {L0 : List SK} (hE0 : Els ⟨kb, ksz, 180, kc⟩ 0 6 (L0.map SK.enc)) (hn : L0.length = n) (hcap : n ≤ cap) (hk : ∀ x ∈ L0, x.rk = rk ∧ x.w < 115792089237316195423570985008687907853269984665640564039457584007913129639936) (hrk : rk = 0 ∨ rk = 1) (hln : n < 2 ^ 20) :
    CallG Hvaf.prog 85 #[HL.sl kb 0 n cap] ⟨I, ⟨kb, ksz, 180, kc⟩ :: G⟩ fun r S' => ∃ (b sz : Nat) (c : Nat → Value) (cap' : Nat) (L : List SK), r = HL.sl b 0 n cap' ∧ S' = ⟨I, ⟨b, sz, 180, c⟩ :: G⟩ ∧ n ≤ cap' ∧ Els ⟨b, sz, 180, c⟩ 0 6 (L.map SK.enc) ∧ L.Perm L0 ∧ L.Pairwise fun a b => leK a b = true := by
  refine CallG.start (C := mkC Hvaf.prog) cok (args := [HL.sl kb 0 n cap]) Hvaf.func85 rfl Hvaf.ntmps85 (by simp) (by kernel_rfl) ?_
  repeat (first | refine SeqS.go cok ?_ | refine And.intro (by dsimp only; omega) ?_ | (refine NatS.keep ?_; first | with_reducible refine NatS.nat ?_))
  intro tb
  repeat (first | refine SeqS.go cok ?_)
  refine W.loopF cok (by kernel_rfl) 0 (fun (w : Nat) e' S' => ∃ bF pF bT pT, SoP I G n w L0 bF pF bT pT S' ∧ w < 2 ^ 30 ∧ slots [(3, HL.sl bF 0 n pF), (4, HL.sl bT 0 n pT), (5, .int .i64 (w : Nat))] e') (fun w => n - w) 1
    (Rel.same ⟨kb, cap, tb, n, ⟨_, _, kc, _, L0, rfl, hE0, (by rw [mulS_eq]; exact Nat.le_refl (n * 6)), hcap, Nat.le_refl _, .refl _, RunsW.one _, by decide⟩, by decide, rfl, rfl, rfl, trivial⟩) (fun e' S' => ∃ bF pF bT pT w, SoP I G n w L0 bF pF bT pT S' ∧ n ≤ w ∧ slots [(3, HL.sl bF 0 n pF)] e') ?_ ?_
  · rintro e' S2 - ⟨bF, pF, bT, pT, w, ⟨sF, sT, cF, cT, L, rfl, hE, hsT, h1, h2, hp, hr, hw0⟩, hw, hsl⟩
    refine SeqS.slots cok _ hsl fun e => ?_
    repeat (first | refine SeqS.go cok ?_)
    have hLn : L.length = n := hp.length_eq.trans hn
    have hr0 := hr 0
    rw [Nat.mul_zero, List.drop_zero, List.take_of_length_le (by omega)] at hr0
    exact Fin.drop _ [_] ⟨bF, sF, cF, pF, L, rfl, rfl, h1, hE, hp, hr0⟩
  · rintro w e' S2 - ⟨bF, pF, bT, pT, ⟨sF, sT, cF, cT, L, rfl, hE, hsT, h1, h2, hp, hr, hw0⟩, hwb, hsl⟩
    have hLn : L.length = n := hp.length_eq.trans hn
    refine W.slots _ hsl fun e => ?_
    by_cases hlt : w < n
    · repeat (first | refine SeqS.go cok ?_ | (refine CondS.keep ?_; first | refine CondS.d1 rfl (by omega) ?_))
      refine W.loopF cok (by kernel_rfl) 2 (fun (lo : Nat) e' S' => PasP I G bF sF bT sT n w cF L lo S' ∧ lo < 2 ^ 24 ∧ slots [(3, HL.sl bF 0 n pF), (4, HL.sl bT 0 n pT), (5, .int .i64 (w : Nat)), (6, .int .i64 (lo : Nat))] e') (fun lo => n - lo) 0
        (Rel.same ⟨⟨cT, [], n, rfl, by simp, by simp, by omega, ⟨fun i hi => absurd hi (by simp)⟩⟩, by decide, rfl, rfl, rfl, rfl, trivial⟩) (fun e' S' => (∃ lo, PasP I G bF sF bT sT n w cF L lo S' ∧ n ≤ lo) ∧ slots [(3, HL.sl bF 0 n pF), (4, HL.sl bT 0 n pT), (5, .int .i64 (w : Nat))] e') ?_ ?_
      · rintro e' S2 - ⟨⟨lo, ⟨cT', O, f, rfl, hOl, hOp, hf, hrow⟩, hlo⟩, hsl⟩
        refine SeqS.slots cok _ hsl fun e => ?_
        repeat (first | refine SeqS.go cok ?_ | (refine ValS.keep ?_; first | (with_reducible refine ValS.kI64 ?_; first | (with_reducible refine ValS.mulI64_L ?_ ?_ ; omega))))
        have hO2 : O = passL leK w n L := by
          rw [List.drop_eq_nil_of_le (by omega), passL_nil, List.append_nil] at hOp; exact hOp
        have hO3 : O.Perm L := by rw [hO2]; exact passL_perm hw0 _ _
        have hE2 : Els ⟨bT, sT, 180, cT'⟩ 0 6 (O.map SK.enc) := by
          refine ⟨fun l h => ?_, hrow, ?_⟩
          · obtain ⟨y, _, rfl⟩ := List.mem_map.1 h; rfl
          · rw [List.length_map, hO3.length_eq, hLn, Nat.zero_add]; exact hsT
        have hR2 : RunsW leK (w * 2) O := by
          rw [hO2, ← hLn, Nat.mul_comm]
          exact RunsW.pass hw0 leK_tr leK_tot hr
        have hfF := hE.fit
        rw [List.length_map, hLn, Nat.zero_add] at hfF
        exact ⟨w * 2, Rel.perm (⟨bF, sF, 180, cF⟩ :: ⟨bT, sT, 180, cT'⟩ :: G) [] (by rw [List.append_nil]; exact List.Perm.swap ..) ⟨bT, pT, bF, pF, ⟨sT, sF, cT', cF, O, rfl, hE2, hfF, h2, h1, hO3.trans hp, hR2, by omega⟩, by omega, rfl, rfl, rfl, trivial⟩, by show n - w * 2 < n - w; omega⟩
      · rintro lo e' S2 - ⟨⟨cT', O, f, rfl, hOl, hOp, hf, hrow⟩, hlb, hsl⟩
        refine W.slots _ hsl fun e => ?_
        by_cases hlo : lo < n
        · have hA1 : ((L.drop lo).take w).length = min (lo + w) n - lo := by rw [List.length_take, List.length_drop, hLn]; omega
          have hmA : ∀ x ∈ (L.drop lo).take w, x.rk = rk ∧ x.w < 115792089237316195423570985008687907853269984665640564039457584007913129639936 := fun x hx => hk x (hp.mem_iff.1 (List.mem_of_mem_drop (List.mem_of_mem_take hx)))
          have hEA := els_cut (w := w) hE (lo := lo) (by omega)
          obtain ⟨f', rfl⟩ : ∃ f', f = f' + 1 := ⟨f - 1, by omega⟩
          have hst := passL_step hLn hlo hf hOp
          by_cases hmid : lo + w < n
          · have hB1 : ((L.drop (lo + w)).take w).length = min (lo + 2 * w) n - min (lo + w) n := by rw [List.length_take, List.length_drop, hLn]; omega
            have hmB : ∀ x ∈ (L.drop (lo + w)).take w, x.rk = rk ∧ x.w < 115792089237316195423570985008687907853269984665640564039457584007913129639936 := fun x hx => hk x (hp.mem_iff.1 (List.mem_of_mem_drop (List.mem_of_mem_take hx)))
            have hEB : Els ⟨bF, sF, 180, cF⟩ (addS 0 (mulS (min (lo + w) n) 6)) 6 (((L.drop (lo + w)).take w).map SK.enc) := by
              rw [show min (lo + w) n = lo + w by omega]
              exact els_cut (w := w) hE (lo := lo + w) (by omega)
            have hmg := fun ct => vMerge (I := I) (G := G) (tb := bT) (tsz := sT) (T := 180) (ct := ct) (oo := addS 0 (mulS lo 6)) (n := min (lo + 2 * w) n - lo) hEA hEB (by rw [hA1, hB1]; omega) (by rw [addS_eq, mulS_eq]; omega) hmA hmB hrk (by omega)
            rw [hA1, hB1] at hmg
            repeat (first | refine SeqS.go cok ?_ | refine And.intro (Eq.refl true) ?_ | refine And.intro (by omega) ?_ | (refine NatS.keep ?_; first | with_reducible refine NatS.nat ?_) | (refine ValS.keep ?_; first | (with_reducible refine ValS.kI64 ?_; first | (with_reducible refine ValS.addI64 ?_ ?_ ; omega) | (with_reducible refine ValS.mulI64_M ?_ ?_ ; omega) | with_reducible refine ValS.minN ?_) | (with_reducible refine ValS.slN ?_ ?_; omega)) | refine W.drawI 11 cok [0, 0, 0, 0, 15, 0, 0, 0, 0, 480, 0, 0, 0, 0, 15360, 32767] [0, 1, 2, 3, 4, 5, 6, 7, 8, 9, 10, 11, 12, 13, 14, 15] [] (by kernel_rfl) (by kernel_rfl) ?_ | (refine CondS.keep ?_; first | refine CondS.d1 rfl (by omega) ?_))
            refine (hmg _).mono ?_
            rintro r _ - ⟨cT2, rfl, hr2, hf2⟩
            repeat (first | refine SeqS.go cok ?_ | (refine ValS.keep ?_; first | (with_reducible refine ValS.kI64 ?_; first | (with_reducible refine ValS.addI64 ?_ ?_ ; omega) | (with_reducible refine ValS.mulI64_M ?_ ?_ ; omega))))
            have hOl2 : (O ++ List.merge ((L.drop lo).take w) ((L.drop (lo + w)).take w) leK).length = min (lo + 2 * w) n := by
              rw [List.length_append, List.length_merge, hA1, hB1, hOl]; omega
            refine ⟨lo + 2 * w, Rel.same ⟨⟨cT2, _, f', rfl, hOl2, hst, by omega, ?_⟩, by omega, rfl, rfl, rfl, vI rfl (by omega), trivial⟩, by show n - (lo + 2 * w) < n - lo; omega⟩
            rw [List.map_append, List.flatten_append]
            refine row_app ?_ hrow hr2 fun p hp => hf2 p (.inl hp)
            rw [flat_len (k := 6) (fun l h => by obtain ⟨y, _, rfl⟩ := List.mem_map.1 h; rfl), List.length_map, hOl, addS_eq, mulS_eq]; omega
          · have hB0 : (L.drop (lo + w)).take w = [] := by rw [List.drop_eq_nil_of_le (by omega), List.take_nil]
            have hB1 : ((L.drop (lo + w)).take w).length = min (lo + 2 * w) n - min (lo + w) n := by rw [hB0]; show 0 = _; omega
            have hEB : Els ⟨bF, sF, 180, cF⟩ 0 6 (((L.drop (lo + w)).take w).map SK.enc) := by
              rw [hB0]; exact ⟨by simp, ⟨fun i hi => absurd hi (by simp)⟩, by simp⟩
            have hmg := fun ct => vMerge (I := I) (G := G) (tb := bT) (tsz := sT) (T := 180) (ct := ct) (oo := addS 0 (mulS lo 6)) (n := min (lo + 2 * w) n - lo) hEA hEB (by rw [hA1, hB1]; omega) (by rw [addS_eq, mulS_eq]; omega) hmA (by rw [hB0]; simp) hrk (by omega)
            rw [hA1, hB1] at hmg
            repeat (first | (refine ValS.keep ?_; with_reducible refine ValS.slZ ?_ ?_; omega) | refine SeqS.go cok ?_ | refine And.intro (Eq.refl true) ?_ | refine And.intro (by omega) ?_ | (refine NatS.keep ?_; first | with_reducible refine NatS.nat ?_) | (refine ValS.keep ?_; first | (with_reducible refine ValS.kI64 ?_; first | (with_reducible refine ValS.addI64 ?_ ?_ ; omega) | (with_reducible refine ValS.mulI64_M ?_ ?_ ; omega) | with_reducible refine ValS.minN ?_) | (with_reducible refine ValS.slN ?_ ?_; omega)) | refine W.drawI 11 cok [0, 0, 0, 0, 15, 0, 0, 0, 0, 480, 0, 0, 0, 0, 15360, 32767] [0, 1, 2, 3, 4, 5, 6, 7, 8, 9, 10, 11, 12, 13, 14, 15] [] (by kernel_rfl) (by kernel_rfl) ?_ | (refine CondS.keep ?_; first | refine CondS.d1 rfl (by omega) ?_))
            refine (hmg _).mono ?_
            rintro r _ - ⟨cT2, rfl, hr2, hf2⟩
            repeat (first | refine SeqS.go cok ?_ | (refine ValS.keep ?_; first | (with_reducible refine ValS.kI64 ?_; first | (with_reducible refine ValS.addI64 ?_ ?_ ; omega) | (with_reducible refine ValS.mulI64_M ?_ ?_ ; omega))))
            have hOl2 : (O ++ List.merge ((L.drop lo).take w) ((L.drop (lo + w)).take w) leK).length = min (lo + 2 * w) n := by
              rw [List.length_append, List.length_merge, hA1, hB1, hOl]; omega
            refine ⟨lo + 2 * w, Rel.same ⟨⟨cT2, _, f', rfl, hOl2, hst, by omega, ?_⟩, by omega, rfl, rfl, rfl, vI rfl (by omega), trivial⟩, by show n - (lo + 2 * w) < n - lo; omega⟩
            rw [List.map_append, List.flatten_append]
            refine row_app ?_ hrow hr2 fun p hp => hf2 p (.inl hp)
            rw [flat_len (k := 6) (fun l h => by obtain ⟨y, _, rfl⟩ := List.mem_map.1 h; rfl), List.length_map, hOl, addS_eq, mulS_eq]; omega
        · repeat (first | refine SeqS.go cok ?_ | (refine CondS.keep ?_; first | refine CondS.d0 rfl (by omega) ?_))
          exact ⟨⟨lo, ⟨cT', O, f, rfl, hOl, hOp, hf, hrow⟩, by omega⟩, rfl, rfl, rfl, trivial⟩
    · repeat (first | refine SeqS.go cok ?_ | (refine CondS.keep ?_; first | refine CondS.d0 rfl (by omega) ?_))
      exact ⟨bF, pF, bT, pT, w, ⟨sF, sT, cF, cT, L, rfl, hE, hsT, h1, h2, hp, hr, hw0⟩, by omega, rfl, trivial⟩
end Go.Proofs.YgvafwGreat
