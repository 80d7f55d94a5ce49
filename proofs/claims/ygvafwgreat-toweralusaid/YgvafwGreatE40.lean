import Derived.Test.YgvafwGreatE38
set_option exponentiation.threshold 1000
set_option maxRecDepth 100000
set_option maxHeartbeats 4000000
set_option linter.unusedVariables false
set_option linter.unusedSimpArgs false
-- v2
-- v4
-- v5
-- v6
-- v7
namespace Go.Proofs.YgvafwGreat
open Go.HL Go.Proofs
/-- code.Map.IsDest -/
theorem mIsDest {I : Ent → Prop} {G : List Ent} {cb sz at' : Nat} {T : TypeId} {c : Nat → Value} {K : YK} (hsz : 2435 ≤ sz) (hK : MK I cb c K) (hat : at' < 512) :
    CallG Hvaf.prog 383 #[ptr cb 1858, .int .u16 (at' : Nat)] ⟨I, ⟨cb, sz, T, c⟩ :: G⟩ fun r S' => ⟨I, ⟨cb, sz, T, c⟩ :: G⟩ = S' ∧ r = .bool (destN K.code at') := by
  obtain ⟨ds, h1, h2, h3, h4⟩ := hK.fdst
  have hd := h4 at' hat
  have hld : c (addS 1858 (mulS (at' / 64) 1)) = .int .u64 (ds.getD (at' / 64) 0 : Nat) := by
    rw [addS_mulS _ _ _ rfl]
    have := h1.get (at' / 64) (by simp [ivs, h2]; omega)
    rw [this, ivs, List.getD_eq_getElem?_getD, List.getElem?_map, List.getElem?_eq_getElem (by omega), List.getD_eq_getElem?_getD, List.getElem?_eq_getElem (by omega)]; rfl
  have hb : ds.getD (at' / 64) 0 < 18446744073709551616 := by
    rw [List.getD_eq_getElem?_getD, List.getElem?_eq_getElem (by omega)]; exact h3 _ (List.getElem_mem _)
  generalize ds.getD (at' / 64) 0 = d at *
  have hdk : d / 2 ^ (at' % 64) < 18446744073709551616 := Nat.lt_of_le_of_lt (Nat.div_le_self _ _) hb
  have hbv : Value.bool (((d / 2 ^ (at' % 64) &&& 1 : Nat) : Int) == 1) = Value.bool (destN K.code at') := by
    rw [← hd, Nat.testBit_eq_decide_div_mod_eq, Nat.and_one_is_mod]; congr 1; rw [Bool.eq_iff_iff]; simp only [decide_eq_true_eq, beq_iff_eq]; omega
  generalize destN K.code at' = de at *
  refine CallG.start (C := mkC Hvaf.prog) cok (args := [ptr cb 1858, .int .u16 (at' : Nat)]) Hvaf.func383 rfl Hvaf.ntmps383 (by simp) (by kernel_rfl) ?_
  repeat (first | (refine QuG.keep ?_; first | refine QuG.l1E cok 0 rfl rfl rfl rfl rfl (by first | exact Nat.le_of_ble_eq_true rfl | omega | (dsimp only; omega) | (simp only [addS_eq, mulS_eq]; omega)) (by assumption) ?_) | refine SeqS.go cok ?_ | refine GuardS.yes rfl ?_ | refine And.intro (by omega) ?_ | refine And.intro (by dsimp only; omega) ?_ | (refine NatS.keep ?_; first | with_reducible refine NatS.nat ?_) | (refine ValS.keep ?_; first | (with_reducible refine ValS.kU64 ?_; first | (with_reducible refine ValS.and1U64 ?_ ?_; omega) | (with_reducible refine ValS.shrU64 ?_ ?_ ; omega)) | (with_reducible refine ValS.kU16 ?_; first | (with_reducible refine ValS.quoU16_L ?_ ?_ ; omega) | with_reducible refine ValS.remN_L ?_)) | (refine GuardS.keep ?_; first | refine GuardS.T1 rfl (by omega) ?_))
  refine Fin.same ⟨rfl, ?_⟩
  rw [Nat.and_one_is_mod] at hbv
  exact hbv
theorem dest_lt {code : List Nat} {a : Nat} (h : code.length ≤ a) : destN code a = false := by
  unfold destN
  generalize code.length + 1 = f
  generalize 0 = i
  induction f generalizing i with
  | zero => rfl
  | succ f ih =>
    rw [destF]
    by_cases h1 : i < code.length
    · rw [if_pos h1, if_neg (by omega)]; exact ih _
    · rw [if_neg h1]
/-- mach.Frame.good -/
theorem mGood {I : Ent → Prop} {G : List Ent} {cb sz n : Nat} {T : TypeId} {c : Nat → Value} {K : YK} (hsz : 2435 ≤ sz) (hK : MK I cb c K) (hn : n < 115792089237316195423570985008687907853269984665640564039457584007913129639936) (hc : K.code.length ≤ 512) :
    CallG Hvaf.prog 281 #[ptr cb 1803, wordV n] ⟨I, ⟨cb, sz, T, c⟩ :: G⟩ fun r S' => ⟨I, ⟨cb, sz, T, c⟩ :: G⟩ = S' ∧ r = .bool (destN K.code n) := by
  obtain ⟨ad, cap, hv⟩ := bytLen hK.fcode
  by_cases h1 : n < 18446744073709551616
  · have hu := fun S => u64T (S := S) h1
    by_cases h2 : n < K.code.length
    · have hd := mIsDest (I := I) (G := G) (cb := cb) (T := T) hsz hK (show n < 512 by omega)
      generalize destN K.code n = de at *
      generalize K.code.length = L at *
      replace hn : Hid _ := ⟨hn⟩
      refine CallG.start (C := mkC Hvaf.prog) cok (args := [ptr cb 1803, wordV n]) Hvaf.func281 rfl Hvaf.ntmps281 (by simp) (by kernel_rfl) ?_
      intro x1
      repeat (first | refine SeqS.go cok ?_ | (refine QuG.keep ?_; first | refine QuG.lN cok 0 rfl rfl rfl rfl rfl (by first | exact Nat.le_of_ble_eq_true rfl | omega | (dsimp only; omega) | (simp only [addS_eq, mulS_eq]; omega)) ?_))
      refine (hu _).mono ?_
      rintro r _ - ⟨rfl, rfl⟩
      repeat (first | (refine QuG.keep ?_; first | refine QuG.l1E cok 1 rfl rfl rfl rfl rfl (by first | exact Nat.le_of_ble_eq_true rfl | omega | (dsimp only; omega) | (simp only [addS_eq, mulS_eq]; omega)) (by assumption) ?_) | refine SeqS.go cok ?_ | refine GuardS.yes rfl ?_ | (refine ValS.keep ?_; first | (with_reducible refine ValS.kU64 ?_; first | (with_reducible refine ValS.convU64 ?_ ?_ ; omega)) | (with_reducible refine ValS.kU16 ?_; first | (with_reducible refine ValS.convU16 ?_ ?_ ; omega))) | (refine GuardS.keep ?_; first | refine GuardS.T1 rfl (by omega) ?_))
      refine CallG.sameL [_] hd ?_
      repeat (first | refine SeqS.go cok ?_)
      exact Fin.drop (⟨cb, sz, T, c⟩ :: G) [_] ⟨rfl, rfl⟩
    · rw [dest_lt (by omega)]
      generalize K.code.length = L at *
      replace hn : Hid _ := ⟨hn⟩
      refine CallG.start (C := mkC Hvaf.prog) cok (args := [ptr cb 1803, wordV n]) Hvaf.func281 rfl Hvaf.ntmps281 (by simp) (by kernel_rfl) ?_
      intro x1
      repeat (first | refine SeqS.go cok ?_ | (refine QuG.keep ?_; first | refine QuG.lN cok 0 rfl rfl rfl rfl rfl (by first | exact Nat.le_of_ble_eq_true rfl | omega | (dsimp only; omega) | (simp only [addS_eq, mulS_eq]; omega)) ?_))
      refine (hu _).mono ?_
      rintro r _ - ⟨rfl, rfl⟩
      repeat (first | (refine QuG.keep ?_; first | refine QuG.l1E cok 1 rfl rfl rfl rfl rfl (by first | exact Nat.le_of_ble_eq_true rfl | omega | (dsimp only; omega) | (simp only [addS_eq, mulS_eq]; omega)) (by assumption) ?_) | refine SeqS.go cok ?_ | refine GuardS.yes rfl ?_ | refine GuardS.no rfl ?_ | (refine ValS.keep ?_; first | (with_reducible refine ValS.kU64 ?_; first | (with_reducible refine ValS.convU64 ?_ ?_ ; omega))) | (refine GuardS.keep ?_; first | refine GuardS.T0 rfl (by omega) ?_))
      exact Fin.drop (⟨cb, sz, T, c⟩ :: G) [_] ⟨rfl, rfl⟩
  · have hu := fun S => u64F (S := S) hn h1
    rw [dest_lt (by omega)]
    replace hn : Hid _ := ⟨hn⟩
    refine CallG.start (C := mkC Hvaf.prog) cok (args := [ptr cb 1803, wordV n]) Hvaf.func281 rfl Hvaf.ntmps281 (by simp) (by kernel_rfl) ?_
    intro x1
    repeat (first | refine SeqS.go cok ?_ | (refine QuG.keep ?_; first | refine QuG.lN cok 0 rfl rfl rfl rfl rfl (by first | exact Nat.le_of_ble_eq_true rfl | omega | (dsimp only; omega) | (simp only [addS_eq, mulS_eq]; omega)) ?_))
    refine (hu _).mono ?_
    rintro r _ - ⟨rfl, rfl⟩
    repeat (first | refine SeqS.go cok ?_ | refine GuardS.no rfl ?_)
    exact Fin.drop (⟨cb, sz, T, c⟩ :: G) [_] ⟨rfl, rfl⟩
/-- mach.Machine.past -/
theorem mPast {I : Ent → Prop} {G : List Ent} {cb sz a b : Nat} {T : TypeId} {c : Nat → Value} {K : YK} (hsz : 2435 ≤ sz) (hK : MK I cb c K) (ha : a < 115792089237316195423570985008687907853269984665640564039457584007913129639936) (hb : b < 115792089237316195423570985008687907853269984665640564039457584007913129639936) :
    CallG Hvaf.prog 275 #[ptr cb 0, wordV a, wordV b] ⟨I, ⟨cb, sz, T, c⟩ :: G⟩ fun r S' => ⟨I, ⟨cb, sz, T, c⟩ :: G⟩ = S' ∧ r = .bool (decide (a + b ≠ 0)) := by
  have hao := fun S => AddOver_spec (S := S) ha hb
  have hrt := hK.mRet
  have hsm : (a + b) % 115792089237316195423570985008687907853269984665640564039457584007913129639936 < 115792089237316195423570985008687907853269984665640564039457584007913129639936 := Nat.mod_lt _ (by decide)
  by_cases h1 : 115792089237316195423570985008687907853269984665640564039457584007913129639936 ≤ a + b
  · rw [decide_eq_true h1] at hao
    rw [decide_eq_true (by omega : a + b ≠ 0)]
    have hu : ∃ v p, ∀ S, CallG Hvaf.prog 310 #[wordV ((a + b) % 115792089237316195423570985008687907853269984665640564039457584007913129639936)] S fun r S' => S = S' ∧ r = .tuple #[.int .u64 (v : Nat), .bool p] := by
      by_cases h2 : (a + b) % 115792089237316195423570985008687907853269984665640564039457584007913129639936 < 18446744073709551616
      · exact ⟨_, true, fun S => u64T h2⟩
      · exact ⟨0, false, fun S => u64F hsm h2⟩
    obtain ⟨v, p, hu⟩ := hu
    generalize (a + b) % 115792089237316195423570985008687907853269984665640564039457584007913129639936 = sm at *
    replace ha : Hid _ := ⟨ha⟩
    replace hb : Hid _ := ⟨hb⟩
    replace hsm : Hid _ := ⟨hsm⟩
    replace h1 : Hid _ := ⟨h1⟩
    refine CallG.start (C := mkC Hvaf.prog) cok (args := [ptr cb 0, wordV a, wordV b]) Hvaf.func275 rfl Hvaf.ntmps275 (by simp) (by kernel_rfl) ?_
    intro x1 x2
    repeat (first | refine SeqS.go cok ?_ | (refine QuG.keep ?_; first | refine QuG.lN cok 0 rfl rfl rfl rfl rfl (by first | exact Nat.le_of_ble_eq_true rfl | omega | (dsimp only; omega) | (simp only [addS_eq, mulS_eq]; omega)) ?_ | refine QuG.lN cok 1 rfl rfl rfl rfl rfl (by first | exact Nat.le_of_ble_eq_true rfl | omega | (dsimp only; omega) | (simp only [addS_eq, mulS_eq]; omega)) ?_))
    refine (hao _).mono ?_
    rintro r _ - ⟨rfl, rfl⟩
    intro x3
    repeat (first | refine SeqS.go cok ?_ | (refine QuG.keep ?_; first | refine QuG.lN cok 0 rfl rfl rfl rfl rfl (by first | exact Nat.le_of_ble_eq_true rfl | omega | (dsimp only; omega) | (simp only [addS_eq, mulS_eq]; omega)) ?_) | (refine OpG.keep ?_; first | refine OpG.sL cok 0 rfl rfl rfl rfl rfl rfl rfl (by first | exact Nat.le_of_ble_eq_true rfl | omega | (dsimp only; omega) | (simp only [addS_eq, mulS_eq]; omega)) ?_))
    refine (hu _).mono ?_
    rintro r _ - ⟨rfl, rfl⟩
    repeat (first | refine SeqS.go cok ?_ | refine GuardS.no rfl ?_)
    exact Fin.drop (⟨cb, sz, T, c⟩ :: G) [_, _, _] ⟨rfl, rfl⟩
  · rw [decide_eq_false h1] at hao
    rw [Nat.mod_eq_of_lt (by omega)] at hao hsm
    by_cases h2 : a + b < 18446744073709551616
    · have hu := fun S => u64T (S := S) h2
      have hne : Value.bool (decide ((a + b : Nat) > 0)) = Value.bool (decide (a + b ≠ 0)) := by congr 1; rw [decide_eq_decide]; omega
      generalize a + b = sm at *
      replace ha : Hid _ := ⟨ha⟩
      replace hb : Hid _ := ⟨hb⟩
      replace hsm : Hid _ := ⟨hsm⟩
      replace h1 : Hid _ := ⟨h1⟩
      by_cases h0 : sm = 0
      · rw [decide_eq_false (by omega : ¬ sm ≠ 0)]
        refine CallG.start (C := mkC Hvaf.prog) cok (args := [ptr cb 0, wordV a, wordV b]) Hvaf.func275 rfl Hvaf.ntmps275 (by simp) (by kernel_rfl) ?_
        intro x1 x2
        repeat (first | refine SeqS.go cok ?_ | (refine QuG.keep ?_; first | refine QuG.lN cok 0 rfl rfl rfl rfl rfl (by first | exact Nat.le_of_ble_eq_true rfl | omega | (dsimp only; omega) | (simp only [addS_eq, mulS_eq]; omega)) ?_ | refine QuG.lN cok 1 rfl rfl rfl rfl rfl (by first | exact Nat.le_of_ble_eq_true rfl | omega | (dsimp only; omega) | (simp only [addS_eq, mulS_eq]; omega)) ?_))
        refine (hao _).mono ?_
        rintro r _ - ⟨rfl, rfl⟩
        intro x3
        repeat (first | refine SeqS.go cok ?_ | (refine QuG.keep ?_; first | refine QuG.lN cok 0 rfl rfl rfl rfl rfl (by first | exact Nat.le_of_ble_eq_true rfl | omega | (dsimp only; omega) | (simp only [addS_eq, mulS_eq]; omega)) ?_) | (refine OpG.keep ?_; first | refine OpG.sL cok 0 rfl rfl rfl rfl rfl rfl rfl (by first | exact Nat.le_of_ble_eq_true rfl | omega | (dsimp only; omega) | (simp only [addS_eq, mulS_eq]; omega)) ?_))
        refine (hu _).mono ?_
        rintro r _ - ⟨rfl, rfl⟩
        repeat (first | (refine QuG.keep ?_; first | refine QuG.l1E cok 3 rfl rfl rfl rfl rfl (by first | exact Nat.le_of_ble_eq_true rfl | omega | (dsimp only; omega) | (simp only [addS_eq, mulS_eq]; omega)) (by assumption) ?_) | refine SeqS.go cok ?_ | refine GuardS.yes rfl ?_ | (refine ValS.keep ?_; first | (with_reducible refine ValS.kU64 ?_; first | (with_reducible refine ValS.convU64 ?_ ?_ ; omega))))
        exact Fin.drop (⟨cb, sz, T, c⟩ :: G) [_, _, _] ⟨rfl, by show Value.bool (decide ((sm : Int) > ((0 : Nat) : Int))) = _; congr 1; exact decide_eq_false (by omega)⟩
      · rw [decide_eq_true (by omega : sm ≠ 0)]
        refine CallG.start (C := mkC Hvaf.prog) cok (args := [ptr cb 0, wordV a, wordV b]) Hvaf.func275 rfl Hvaf.ntmps275 (by simp) (by kernel_rfl) ?_
        intro x1 x2
        repeat (first | refine SeqS.go cok ?_ | (refine QuG.keep ?_; first | refine QuG.lN cok 0 rfl rfl rfl rfl rfl (by first | exact Nat.le_of_ble_eq_true rfl | omega | (dsimp only; omega) | (simp only [addS_eq, mulS_eq]; omega)) ?_ | refine QuG.lN cok 1 rfl rfl rfl rfl rfl (by first | exact Nat.le_of_ble_eq_true rfl | omega | (dsimp only; omega) | (simp only [addS_eq, mulS_eq]; omega)) ?_))
        refine (hao _).mono ?_
        rintro r _ - ⟨rfl, rfl⟩
        intro x3
        repeat (first | refine SeqS.go cok ?_ | (refine QuG.keep ?_; first | refine QuG.lN cok 0 rfl rfl rfl rfl rfl (by first | exact Nat.le_of_ble_eq_true rfl | omega | (dsimp only; omega) | (simp only [addS_eq, mulS_eq]; omega)) ?_) | (refine OpG.keep ?_; first | refine OpG.sL cok 0 rfl rfl rfl rfl rfl rfl rfl (by first | exact Nat.le_of_ble_eq_true rfl | omega | (dsimp only; omega) | (simp only [addS_eq, mulS_eq]; omega)) ?_))
        refine (hu _).mono ?_
        rintro r _ - ⟨rfl, rfl⟩
        repeat (first | (refine QuG.keep ?_; first | refine QuG.l1E cok 3 rfl rfl rfl rfl rfl (by first | exact Nat.le_of_ble_eq_true rfl | omega | (dsimp only; omega) | (simp only [addS_eq, mulS_eq]; omega)) (by assumption) ?_) | refine SeqS.go cok ?_ | refine GuardS.yes rfl ?_ | (refine ValS.keep ?_; first | (with_reducible refine ValS.kU64 ?_; first | (with_reducible refine ValS.convU64 ?_ ?_ ; omega))))
        exact Fin.drop (⟨cb, sz, T, c⟩ :: G) [_, _, _] ⟨rfl, by show Value.bool (decide ((sm : Int) > ((0 : Nat) : Int))) = _; congr 1; exact decide_eq_true (by omega)⟩
    · have hu := fun S => u64F (S := S) hsm h2
      rw [decide_eq_true (by omega : a + b ≠ 0)]
      generalize a + b = sm at *
      replace ha : Hid _ := ⟨ha⟩
      replace hb : Hid _ := ⟨hb⟩
      replace hsm : Hid _ := ⟨hsm⟩
      replace h1 : Hid _ := ⟨h1⟩
      refine CallG.start (C := mkC Hvaf.prog) cok (args := [ptr cb 0, wordV a, wordV b]) Hvaf.func275 rfl Hvaf.ntmps275 (by simp) (by kernel_rfl) ?_
      intro x1 x2
      repeat (first | refine SeqS.go cok ?_ | (refine QuG.keep ?_; first | refine QuG.lN cok 0 rfl rfl rfl rfl rfl (by first | exact Nat.le_of_ble_eq_true rfl | omega | (dsimp only; omega) | (simp only [addS_eq, mulS_eq]; omega)) ?_ | refine QuG.lN cok 1 rfl rfl rfl rfl rfl (by first | exact Nat.le_of_ble_eq_true rfl | omega | (dsimp only; omega) | (simp only [addS_eq, mulS_eq]; omega)) ?_))
      refine (hao _).mono ?_
      rintro r _ - ⟨rfl, rfl⟩
      intro x3
      repeat (first | refine SeqS.go cok ?_ | (refine QuG.keep ?_; first | refine QuG.lN cok 0 rfl rfl rfl rfl rfl (by first | exact Nat.le_of_ble_eq_true rfl | omega | (dsimp only; omega) | (simp only [addS_eq, mulS_eq]; omega)) ?_) | (refine OpG.keep ?_; first | refine OpG.sL cok 0 rfl rfl rfl rfl rfl rfl rfl (by first | exact Nat.le_of_ble_eq_true rfl | omega | (dsimp only; omega) | (simp only [addS_eq, mulS_eq]; omega)) ?_))
      refine (hu _).mono ?_
      rintro r _ - ⟨rfl, rfl⟩
      repeat (first | refine SeqS.go cok ?_ | refine GuardS.yes rfl ?_ | refine GuardS.no rfl ?_)
      exact Fin.drop (⟨cb, sz, T, c⟩ :: G) [_, _, _] ⟨rfl, rfl⟩
end Go.Proofs.YgvafwGreat
