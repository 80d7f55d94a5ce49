import Derived.Test.YgvafwGreatY53
set_option exponentiation.threshold 1000
set_option maxRecDepth 100000
set_option maxHeartbeats 4000000
set_option linter.unusedVariables false
set_option linter.unusedSimpArgs false
-- v2
-- v4
-- v5
-- v6
-- v7
namespace Go.Proofs.YgvafwGreat
open Go.HL Go.Proofs

theorem yPlainJ {I : Ent → Prop} {G : List Ent} {sb ssz fb fsz pc gas : Nat} {Ts Tf : TypeId} {cs cf : Nat → Value} {K : YK} {s : List Nat} (hfz : 60 ≤ fsz) (hF : YF I cf K pc gas s) (hts : 1 ≤ s.length) (hpc : pc < 2 ^ 100) :
    CallG Hvaf.prog 77 #[ptr sb 0, ptr fb 0, .int .u8 (86 : Nat)] ⟨I, ⟨sb, ssz, Ts, cs⟩ :: ⟨fb, fsz, Tf, cf⟩ :: G⟩ fun r S' => ∃ J pv sv, S' = ⟨J, ⟨sb, ssz, Ts, cs⟩ :: ⟨fb, fsz, Tf, upd (upd cf 8 sv) 3 pv⟩ :: G⟩ ∧ NatI J pv (argN s 0) ∧ StkI J sv (s.take (s.length - 1)) := by
  have har : ∀ S, CallG Hvaf.prog 147 #[.int .u8 (86 : Nat)] S fun r S' => S = S' ∧ r = .tuple #[.int .i64 (1 : Nat), .int .i64 (0 : Nat), .bool true] := fun S => yArity (S := S) (o := 86) (by decide)
  have hl := hF.fl
  have him : ∀ S, CallG Hvaf.prog 161 #[.int .u8 (86 : Nat)] S fun r S' => S = S' ∧ r = .int .u8 (0 : Nat) := fun S => Imm_spec (S := S) (o := 86) (by decide)
  have hN1 := fun (I : Ent → Prop) (G : List Ent) => yNum (I := I) (G := G) (n := 1) (by decide)
  have hnb : pc + 1 < NB := NB_p (Nat.lt_of_le_of_lt (Nat.succ_le_of_lt hpc) (Nat.pow_lt_pow_right (by decide) (by decide)))
  have hpcN := hF.fpc
  obtain ⟨vss, hR, hvl, hel⟩ := hF.fstk.out
  obtain ⟨ad, cap, hc8⟩ := hR.form
  have hR2 := hR
  rw [hc8] at hR2
  have hcap := hR2.capLe
  have had : (ad = none ∧ vss = []) ∨ (∃ (x : Ent) (o2 : Nat), ad = some ⟨x.b, o2, none⟩) := by
    rcases hR2.2 with ⟨h1, h2⟩ | ⟨x, o2, c2, h1, _⟩
    · exact .inl ⟨(Value.slice.inj h1).1, h2⟩
    · exact .inr ⟨x, o2, (Value.slice.inj h1).1⟩
  have hv0 : ad = none → vss.length = 0 := by
    intro h; rcases had with ⟨_, h2⟩ | ⟨x, o2, h2⟩
    · rw [h2]; rfl
    · rw [h] at h2; cases h2
  have hel2 := hR2
  obtain ⟨x, o2, had⟩ | had : (∃ (x : Ent) (o2 : Nat), ad = some ⟨x.b, o2, none⟩) ∨ ad = none := by
    rcases had with ⟨h, _⟩ | h
    · exact .inr h
    · exact .inl h
  all_goals (
    subst had
    refine CallG.start (C := mkC Hvaf.prog) cok (args := [ptr sb 0, ptr fb 0, .int .u8 (86 : Nat)]) Hvaf.func77 rfl Hvaf.ntmps77 (by simp) (by kernel_rfl) ?_
    skip
    refine (har _).mono ?_
    rintro r _ - ⟨rfl, rfl⟩
    repeat (first | refine SeqS.go cok ?_ | refine And.intro (by dsimp only; omega) ?_ | (refine NatS.keep ?_; first | with_reducible refine NatS.nat ?_))
    intro ab
    repeat (first | refine SeqS.go cok ?_)
    refine W.loopE cok (by kernel_rfl) 0 (fun (i : Nat) e' S' => ∃ Z vs, S' = ⟨I, ⟨ab, mulS 1 1, 109, updN Z 0 vs⟩ :: ⟨sb, ssz, Ts, cs⟩ :: ⟨fb, fsz, Tf, cf⟩ :: G⟩ ∧ i ≤ 1 ∧ vs.length = i ∧ (∀ j, j < i → NatI I (vs.getD j undef) (argN s j)) ∧ slots [(0, ptr sb 0), (1, ptr fb 0), (2, .int .u8 (86 : Nat)), (6, .int .i64 (1 : Nat)), (7, .int .i64 (0 : Nat)), (9, sl ab 0 1 1), (23, .int .i64 (1 : Nat)), (24, .int .i64 (i : Nat))] e') (fun i => 1 - i) 0
      ⟨_, [], congrArg (fun c => (⟨I, ⟨ab, mulS 1 1, 109, c⟩ :: ⟨sb, ssz, Ts, cs⟩ :: ⟨fb, fsz, Tf, cf⟩ :: G⟩ : St)) (updN_nil _).symm, Nat.zero_le _, rfl, by intro j hj; omega, rfl, rfl, rfl, rfl, rfl, rfl, rfl, rfl, trivial⟩
      (fun e' S' => ∃ Z r0, S' = ⟨I, ⟨ab, mulS 1 1, 109, updN Z 0 [r0]⟩ :: ⟨sb, ssz, Ts, cs⟩ :: ⟨fb, fsz, Tf, cf⟩ :: G⟩ ∧ NatI I r0 (argN s 0) ∧ slots [(0, ptr sb 0), (1, ptr fb 0), (2, .int .u8 (86 : Nat)), (6, .int .i64 (1 : Nat)), (7, .int .i64 (0 : Nat)), (9, sl ab 0 1 1)] e') ?_ ?_
    · rintro e' S2 - ⟨Z, r0, rfl, hr0, hsl⟩
      refine SeqS.slots cok _ hsl fun e => ?_
      repeat (first | (refine QuG.keep ?_; first | refine QuG.l1 cok 2 rfl rfl rfl rfl rfl (by first | exact Nat.le_of_ble_eq_true rfl | omega | (dsimp only; omega) | (simp only [addS_eq, mulS_eq]; omega)) ?_) | refine W.drawI 7 cok [0, 1, 3, 7, 0, 16, 48, 112, 240, 511, 1023] [0, 1, 2, 3, 4, 5, 6, 7, 8, 9, 10] [3] (by kernel_rfl) (by kernel_rfl) ?_)
      refine (him _).mono ?_
      rintro r _ - ⟨rfl, rfl⟩
      repeat (first | (refine ValS.keep ?_; first | (with_reducible refine ValS.kU64 ?_; first | (with_reducible refine ValS.convU64 ?_ ?_ ; omega) | (with_reducible refine ValS.addU64_M ?_ ?_ ; omega))) | (refine still_in ?_; first | (refine still_keep (by decide) rfl ?_ ?_; first | exact QuV.l1 cok 2 rfl rfl rfl rfl rfl (by first | exact Nat.le_of_ble_eq_true rfl | omega | (dsimp only; omega) | (simp only [addS_eq, mulS_eq]; omega)) rfl)))
      refine callN (hN1 _ _) fun y J1 hs1 hy => ?_
      repeat (first | (refine still_in ?_; first | refine still_nil ?_ | (refine still_keep (by decide) rfl ?_ ?_; first | exact QuV.l1 cok 2 rfl rfl rfl rfl rfl (by first | exact Nat.le_of_ble_eq_true rfl | omega | (dsimp only; omega) | (simp only [addS_eq, mulS_eq]; omega)) rfl)))
      refine callN (nAdd (hpcN.up hs1) hy hnb) fun pv J2 hs2 hpv => ?_
      repeat (first | (refine QuG.keep ?_; first | refine QuG.l1E cok 2 rfl rfl rfl rfl rfl (by first | exact Nat.le_of_ble_eq_true rfl | omega | (dsimp only; omega) | (simp only [addS_eq, mulS_eq]; omega)) (by assumption) ?_) | refine SeqS.go cok ?_ | refine CondS.t rfl ?_ | refine And.intro (Eq.refl true) ?_ | refine And.intro (by omega) ?_ | (refine NatS.keep ?_; first | with_reducible refine NatS.lit ?_ | with_reducible refine NatS.nat ?_) | (refine ValS.keep ?_; first | (with_reducible refine ValS.kI64 ?_; first | (with_reducible refine ValS.subI64 ?_ ?_ ?_ ; omega; omega)) | with_reducible refine ValS.sl0 ?_) | (refine QuG.keep ?_; first | refine QuG.l1 cok 0 rfl rfl rfl rfl rfl (by first | exact Nat.le_of_ble_eq_true rfl | omega | (dsimp only; omega) | (simp only [addS_eq, mulS_eq]; omega)) ?_) | (refine still_in ?_; first | refine still_drop (by decide) ?_) | refine W.drawI 8 cok [0, 1, 3, 7, 0, 16, 48, 112, 240, 0, 1008, 0, 2048, 6144, 14336, 30720, 0, 129024, 262143, 524287] [0, 1, 2, 3, 4, 5, 6, 7, 8, 9, 10, 11, 12, 13, 14, 15, 16, 17, 18, 19] [3, 7, 14] (by kernel_rfl) (by kernel_rfl) ?_)
      refine callN (nNorm ((hr0.up hs1).up hs2)) fun nv J3 hs3 hnv => ?_
      have hnv1 := NatI.isl hnv
      repeat (first | (refine OpG.keep ?_; first | refine OpG.s1 cok 2 rfl rfl rfl rfl rfl (by first | exact Nat.le_of_ble_eq_true rfl | omega | (dsimp only; omega) | (simp only [addS_eq, mulS_eq]; omega)) rfl (by assumption) ?_) | refine SeqS.go cok ?_ | (refine OpG.keep ?_; first | refine OpG.s1 cok 2 rfl rfl rfl rfl rfl (by first | exact Nat.le_of_ble_eq_true rfl | omega | (dsimp only; omega) | (simp only [addS_eq, mulS_eq]; omega)) rfl rfl ?_))
      exact Fin.drop (⟨sb, ssz, Ts, cs⟩ :: ⟨fb, fsz, Tf, upd (upd cf 8 _) 3 nv⟩ :: G) [_] ⟨J3, nv, _, rfl, hnv, stk_keep hR2 hvl (fun i hi => by
        obtain ⟨u, hu, hn⟩ := hel i hi
        exact ⟨u, hu, hn.up ((hs1.trans hs2).trans hs3)⟩) ((hs1.trans hs2).trans hs3) (by first | rfl | exact kept_eq | exact kept_nil (by have := hv0 rfl; omega))⟩
    · rintro i e' S2 - ⟨Z, vs, rfl, hi, hvsl, hvN, hsl⟩
      refine W.slots _ hsl fun e => ?_
      by_cases hit : i < 1
      · repeat (first | refine SeqS.go cok ?_ | (refine CondS.keep ?_; first | refine CondS.d1 rfl (by omega) ?_))
        refine (yArgF3 hfz hF (by omega)).mono ?_
        rintro r _ - ⟨rfl, hr⟩
        have hr1 := NatI.isl hr
        repeat (first | (refine OpG.keep ?_; first | refine OpG.s1 cok 0 rfl rfl rfl rfl rfl (by first | exact Nat.le_of_ble_eq_true rfl | omega | (dsimp only; omega) | (simp only [addS_eq, mulS_eq]; omega)) rfl (by assumption) ?_) | refine SeqS.go cok ?_ | refine And.intro (by omega) ?_ | (refine NatS.keep ?_; first | with_reducible refine NatS.nat ?_) | (refine ValS.keep ?_; first | (with_reducible refine ValS.kI64 ?_; first | (with_reducible refine ValS.addI64_L ?_ ?_ ; omega))))
        refine ⟨i + 1, ⟨Z, vs ++ [r], congrArg (fun c => (⟨I, ⟨ab, mulS 1 1, 109, c⟩ :: ⟨sb, ssz, Ts, cs⟩ :: ⟨fb, fsz, Tf, cf⟩ :: G⟩ : St)) (upd_snoc2 hvsl (by show addS 0 (mulS i 1) = i; rw [addS_eq, mulS_eq]; omega)), hit, by simp [hvsl], ?_, rfl, rfl, rfl, rfl, rfl, rfl, rfl, rfl, trivial⟩, by show 1 - (i + 1) < 1 - i; omega⟩
        intro j hj
        by_cases hj2 : j < i
        · rw [List.getD_eq_getElem?_getD, List.getElem?_append_left (by omega), ← List.getD_eq_getElem?_getD]; exact hvN j hj2
        · obtain rfl : j = i := by omega
          rw [List.getD_eq_getElem?_getD, List.getElem?_append_right (by omega), hvsl, Nat.sub_self]; exact hr
      · obtain rfl : i = 1 := by omega
        repeat (first | refine SeqS.go cok ?_ | refine CondS.f rfl ?_)
        match vs, hvsl, hvN with
        | [r0], _, hvN => exact ⟨Z, r0, rfl, hvN 0 (by decide), rfl, rfl, rfl, rfl, rfl, rfl, trivial⟩)
end Go.Proofs.YgvafwGreat
