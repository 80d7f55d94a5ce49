import Derived.Test.YgvafwGreatY53
set_option exponentiation.threshold 1000
set_option maxRecDepth 100000
set_option maxHeartbeats 4000000
set_option linter.unusedVariables false
set_option linter.unusedSimpArgs false
-- v2
-- v4
-- v5
-- v6
-- v7
namespace Go.Proofs.YgvafwGreat
open Go.HL Go.Proofs

/-- yp.State.plain at DUP -/
theorem yPlainD {I : Ent → Prop} {G : List Ent} {sb ssz fb fsz pc gas o t : Nat} {Ts Tf : TypeId} {cs cf : Nat → Value} {K : YK} {s : List Nat} (hfz : 60 ≤ fsz) (hF : YF I cf K pc gas s) (ho : o < 256)
    (ht : t = o - 128 + 1) (hts : t ≤ s.length) (n1 : 128 ≤ o) (n2 : o ≤ 143) (hpc : pc < 2 ^ 100) :
    CallG Hvaf.prog 77 #[ptr sb 0, ptr fb 0, .int .u8 (o : Nat)] ⟨I, ⟨sb, ssz, Ts, cs⟩ :: ⟨fb, fsz, Tf, cf⟩ :: G⟩ fun r S' => ∃ J pv sv, S' = ⟨J, ⟨sb, ssz, Ts, cs⟩ :: ⟨fb, fsz, Tf, upd (upd cf 8 sv) 3 pv⟩ :: G⟩ ∧ NatI J pv (pc + (1 + immN o)) ∧ StkI J sv (s.take (s.length - 0) ++ [argN s (t - 1)]) := by
  have har := fun (S : St) => yArity (S := S) ho
  have hg : arN o = (t, t + 1, true) := by rw [ht]; unfold arN; repeat (first | rw [if_pos (by omega)] | rw [if_neg (by omega)])
  rw [hg] at har
  dsimp only at har
  have ht0 : 0 < t := by omega
  have hl := hF.fl
  have him := fun (S : St) => Imm_spec (S := S) (o := o) ho
  have himm : immN o ≤ 32 := by unfold immN; split <;> omega
  obtain ⟨im, him2⟩ : ∃ im, immN o = im := ⟨_, rfl⟩
  rw [him2] at him himm ⊢
  have hN1 := fun (I : Ent → Prop) (G : List Ent) => yNum (I := I) (G := G) (n := 1 + im) (by omega)
  have hnb : pc + (1 + im) < NB := NB_p (Nat.lt_trans (show pc + (1 + im) < 2 ^ 101 by omega) (Nat.pow_lt_pow_right (by decide) (by decide)))
  have hpcN := hF.fpc
  obtain ⟨vss, hR, hvl, hel⟩ := hF.fstk.out
  obtain ⟨ad, cap, hc8⟩ := hR.form
  have hR2 := hR
  rw [hc8] at hR2
  have hcap := hR2.capLe
  have had : (ad = none ∧ vss = []) ∨ (∃ (x : Ent) (o2 : Nat), ad = some ⟨x.b, o2, none⟩) := by
    rcases hR2.2 with ⟨h1, h2⟩ | ⟨x, o2, c2, h1, _⟩
    · exact .inl ⟨(Value.slice.inj h1).1, h2⟩
    · exact .inr ⟨x, o2, (Value.slice.inj h1).1⟩
  have hv0 : ad = none → vss.length = 0 := by
    intro h; rcases had with ⟨_, h2⟩ | ⟨x, o2, h2⟩
    · rw [h2]; rfl
    · rw [h] at h2; cases h2
  have hel2 := hR2
  obtain ⟨x, o2, had⟩ | had : (∃ (x : Ent) (o2 : Nat), ad = some ⟨x.b, o2, none⟩) ∨ ad = none := by
    rcases had with ⟨h, _⟩ | h
    · exact .inr h
    · exact .inl h
  all_goals (
    subst had
    refine CallG.start (C := mkC Hvaf.prog) cok (args := [ptr sb 0, ptr fb 0, .int .u8 (o : Nat)]) Hvaf.func77 rfl Hvaf.ntmps77 (by simp) (by kernel_rfl) ?_
    skip
    refine (har _).mono ?_
    rintro r _ - ⟨rfl, rfl⟩
    repeat (first | refine SeqS.go cok ?_ | refine And.intro (by dsimp only; omega) ?_ | (refine NatS.keep ?_; first | with_reducible refine NatS.nat ?_))
    intro ab
    repeat (first | refine SeqS.go cok ?_)
    refine W.loopE cok (by kernel_rfl) 0 (fun (i : Nat) e' S' => ∃ Z vs, S' = ⟨I, ⟨ab, mulS t 1, 109, updN Z 0 vs⟩ :: ⟨sb, ssz, Ts, cs⟩ :: ⟨fb, fsz, Tf, cf⟩ :: G⟩ ∧ i ≤ t ∧ vs.length = i ∧ (∀ j, j < i → NatI I (vs.getD j undef) (argN s j)) ∧ slots [(0, ptr sb 0), (1, ptr fb 0), (2, .int .u8 (o : Nat)), (6, .int .i64 (t : Nat)), (7, .int .i64 ((t + 1 : Nat) : Int)), (9, sl ab 0 t t), (23, .int .i64 (t : Nat)), (24, .int .i64 (i : Nat))] e') (fun i => t - i) 0
      ⟨_, [], congrArg (fun c => (⟨I, ⟨ab, mulS t 1, 109, c⟩ :: ⟨sb, ssz, Ts, cs⟩ :: ⟨fb, fsz, Tf, cf⟩ :: G⟩ : St)) (updN_nil _).symm, Nat.zero_le _, rfl, by intro j hj; omega, rfl, rfl, rfl, rfl, rfl, rfl, rfl, rfl, trivial⟩
      (fun e' S' => ∃ Z vs ra rn rc, S' = ⟨I, ⟨ab, mulS t 1, 109, updN Z 0 vs⟩ :: ⟨sb, ssz, Ts, cs⟩ :: ⟨fb, fsz, Tf, cf⟩ :: G⟩ ∧ vs.length = t ∧ updN Z 0 vs (addS 0 (mulS (t - 1) 1)) = .slice ra rn rc ∧ NatI I (.slice ra rn rc) (argN s (t - 1)) ∧ slots [(0, ptr sb 0), (1, ptr fb 0), (2, .int .u8 (o : Nat)), (6, .int .i64 (t : Nat)), (7, .int .i64 ((t + 1 : Nat) : Int)), (9, sl ab 0 t t)] e') ?_ ?_
    · rintro e' S2 - ⟨Z, vs, ra, rn, rc, rfl, hvsl, hld, hvv, hsl⟩
      refine SeqS.slots cok _ hsl fun e => ?_
      repeat (first | (refine QuG.keep ?_; first | refine QuG.l1 cok 2 rfl rfl rfl rfl rfl (by first | exact Nat.le_of_ble_eq_true rfl | omega | (dsimp only; omega) | (simp only [addS_eq, mulS_eq]; omega)) ?_) | refine W.drawI 7 cok [0, 1, 3, 7, 0, 16, 48, 112, 240, 511, 1023] [0, 1, 2, 3, 4, 5, 6, 7, 8, 9, 10] [3] (by kernel_rfl) (by kernel_rfl) ?_)
      refine (him _).mono ?_
      rintro r _ - ⟨rfl, rfl⟩
      repeat (first | (refine ValS.keep ?_; first | (with_reducible refine ValS.kU64 ?_; first | (with_reducible refine ValS.convU64 ?_ ?_ ; omega) | (with_reducible refine ValS.addU64_M ?_ ?_ ; omega))) | (refine still_in ?_; first | (refine still_keep (by decide) rfl ?_ ?_; first | exact QuV.l1 cok 2 rfl rfl rfl rfl rfl (by first | exact Nat.le_of_ble_eq_true rfl | omega | (dsimp only; omega) | (simp only [addS_eq, mulS_eq]; omega)) rfl)))
      refine callN (hN1 _ _) fun y J1 hs1 hy => ?_
      repeat (first | (refine still_in ?_; first | refine still_nil ?_ | (refine still_keep (by decide) rfl ?_ ?_; first | exact QuV.l1 cok 2 rfl rfl rfl rfl rfl (by first | exact Nat.le_of_ble_eq_true rfl | omega | (dsimp only; omega) | (simp only [addS_eq, mulS_eq]; omega)) rfl)))
      refine callN (nAdd (hpcN.up hs1) hy hnb) fun pv J2 hs2 hpv => ?_
      repeat (first | (refine QuG.keep ?_; first | refine QuG.l1E cok 0 rfl rfl rfl rfl rfl (by first | exact Nat.le_of_ble_eq_true rfl | omega | (dsimp only; omega) | (simp only [addS_eq, mulS_eq]; omega)) (by assumption) ?_ | refine QuG.l1E cok 2 rfl rfl rfl rfl rfl (by first | exact Nat.le_of_ble_eq_true rfl | omega | (dsimp only; omega) | (simp only [addS_eq, mulS_eq]; omega)) (by assumption) ?_) | refine SeqS.go cok ?_ | refine GuardS.yes rfl ?_ | refine GuardS.no rfl ?_ | refine CondS.f rfl ?_ | refine And.intro (fillOk_of (Eq.refl true)) ?_ | refine And.intro (Eq.refl true) ?_ | refine And.intro (by omega) ?_ | refine And.intro (by dsimp only; omega) ?_ | (refine NatS.keep ?_; first | with_reducible refine NatS.nat ?_) | (refine ValS.keep ?_; first | (with_reducible refine ValS.kI64 ?_; first | (with_reducible refine ValS.subI64_L ?_ ?_ ?_ ; omega; omega) | (with_reducible refine ValS.subI64 ?_ ?_ ?_ ; omega; omega)) | with_reducible refine ValS.sl0 ?_) | (refine still_in ?_; first | refine still_drop (by decide) ?_) | refine W.drawI 8 cok [0, 1, 3, 7, 0, 16, 48, 112, 240, 0, 1008, 0, 2048, 6144, 14336, 30720, 0, 129024, 262143, 524287] [0, 1, 2, 3, 4, 5, 6, 7, 8, 9, 10, 11, 12, 13, 14, 15, 16, 17, 18, 19] [3, 7, 14] (by kernel_rfl) (by kernel_rfl) ?_ | refine W.drawI 15 cok [0, 1, 3, 7, 0, 16, 48, 112, 240, 0, 512, 1536, 3584, 7680, 16383, 0, 0, 65536, 229376, 491520, 1015808, 2097151, 4194303] [0, 1, 2, 3, 4, 5, 6, 7, 8, 9, 10, 11, 12, 13, 14, 15, 16, 17, 18, 19, 20, 21, 22] [3, 7, 12, 19] (by kernel_rfl) (by kernel_rfl) ?_ | (refine GuardS.keep ?_; first | refine GuardS.T1 rfl (by omega) ?_ | refine GuardS.T0 rfl (by omega) ?_) | (refine CondS.keep ?_; first | refine CondS.d1 rfl (by omega) ?_ | refine CondS.d0 rfl (by omega) ?_))
      intro tb
      repeat (first | (refine still_in ?_; first | refine still_nil ?_ | refine still_drop (by decide) ?_ | (refine still_keep (by decide) rfl ?_ ?_; first | exact QuV.l1 cok 3 rfl rfl rfl rfl rfl (by first | exact Nat.le_of_ble_eq_true rfl | omega | (dsimp only; omega) | (simp only [addS_eq, mulS_eq]; omega)) (by assumption))))
      refine OpG.keep ?_
      refine OpG.appFz cok (L := ⟨ab, mulS t 1, 109, updN Z 0 vs⟩ :: ⟨sb, ssz, Ts, cs⟩ :: ⟨fb, fsz, Tf, cf⟩ :: G) (tz := 1) (vss := vss) (n := vss.length - 0) (el := [.slice ra rn rc]) rfl rfl rfl rfl rfl rfl rfl ?_ rfl (hR2.up (hs1.trans hs2)) (Nat.sub_le _ _) (by decide) ?_ rfl (by omega) ?_ ?_
      · first | rfl
      · refine ⟨fun p hp => ?_⟩
        have hp0 : p = 0 := by simpa using hp
        subst hp0
        rfl
      · exact Nat.le_of_ble_eq_true rfl
      intro sv J4 hs4 hsv1 hrow
      have hpv1 := NatI.isl hpv
      repeat (first | (refine OpG.keep ?_; first | refine OpG.s1 cok 2 rfl rfl rfl rfl rfl (by first | exact Nat.le_of_ble_eq_true rfl | omega | (dsimp only; omega) | (simp only [addS_eq, mulS_eq]; omega)) rfl (by assumption) ?_) | refine SeqS.go cok ?_ | (refine still_in ?_; first | refine still_drop (by decide) ?_))
      exact Fin.drop (⟨sb, ssz, Ts, cs⟩ :: ⟨fb, fsz, Tf, upd (upd cf 8 sv) 3 pv⟩ :: G) [_] ⟨J4, pv, sv, rfl, hpv.up hs4, stk_take2 hrow hvl (fun i hi => by
        obtain ⟨u, hu, hn⟩ := hel i hi
        exact ⟨u, hu, hn.up ((hs1.trans hs2).trans hs4)⟩) (((hvv.up hs1).up hs2).up hs4)⟩
    · rintro i e' S2 - ⟨Z, vs, rfl, hi, hvsl, hvN, hsl⟩
      refine W.slots _ hsl fun e => ?_
      by_cases hit : i < t
      · repeat (first | refine SeqS.go cok ?_ | (refine CondS.keep ?_; first | refine CondS.d1 rfl (by omega) ?_))
        refine (yArgF3 hfz hF (by omega)).mono ?_
        rintro r _ - ⟨rfl, hr⟩
        have hr1 := NatI.isl hr
        repeat (first | (refine OpG.keep ?_; first | refine OpG.s1 cok 0 rfl rfl rfl rfl rfl (by first | exact Nat.le_of_ble_eq_true rfl | omega | (dsimp only; omega) | (simp only [addS_eq, mulS_eq]; omega)) rfl (by assumption) ?_) | refine SeqS.go cok ?_ | refine And.intro (by omega) ?_ | (refine NatS.keep ?_; first | with_reducible refine NatS.nat ?_) | (refine ValS.keep ?_; first | (with_reducible refine ValS.kI64 ?_; first | (with_reducible refine ValS.addI64_L ?_ ?_ ; omega))))
        refine ⟨i + 1, ⟨Z, vs ++ [r], congrArg (fun c => (⟨I, ⟨ab, mulS t 1, 109, c⟩ :: ⟨sb, ssz, Ts, cs⟩ :: ⟨fb, fsz, Tf, cf⟩ :: G⟩ : St)) (upd_snoc2 hvsl (by show addS 0 (mulS i 1) = i; rw [addS_eq, mulS_eq]; omega)), hit, by simp [hvsl], ?_, rfl, rfl, rfl, rfl, rfl, rfl, rfl, rfl, trivial⟩, by show t - (i + 1) < t - i; omega⟩
        intro j hj
        by_cases hj2 : j < i
        · rw [List.getD_eq_getElem?_getD, List.getElem?_append_left (by omega), ← List.getD_eq_getElem?_getD]; exact hvN j hj2
        · obtain rfl : j = i := by omega
          rw [List.getD_eq_getElem?_getD, List.getElem?_append_right (by omega), hvsl, Nat.sub_self]; exact hr
      · obtain rfl : i = t := by omega
        repeat (first | refine SeqS.go cok ?_ | (refine CondS.keep ?_; first | refine CondS.d0 rfl (by omega) ?_))
        have hN := hvN (i - 1) (by omega)
        obtain ⟨ds, hb, _⟩ := hN.byt []
        obtain ⟨ra, rc, hra, _⟩ := hb.form
        rw [hra] at hN
        exact ⟨Z, vs, ra, _, rc, rfl, hvsl, by rw [addS_eq, mulS_eq, updN, if_pos (by omega), ← hra]; congr 1; omega, hN, rfl, rfl, rfl, rfl, rfl, rfl, trivial⟩)
end Go.Proofs.YgvafwGreat
