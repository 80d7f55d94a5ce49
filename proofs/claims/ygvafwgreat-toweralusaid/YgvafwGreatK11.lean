import Derived.Test.YgvafwGreatP3
import Derived.Test.YgvafwGreatK3
set_option maxRecDepth 100000
set_option maxHeartbeats 4000000
set_option linter.unusedVariables false
set_option linter.unusedSimpArgs false
-- v2
-- plus: (refine QuG.keep ?_; fail "none")
-- still: exact QuV.of (QuG.bb cok 0 rfl (by assumption) rfl rfl rfl rfl (by simp only [addS_eq, mulS_eq]; omega) (by omega) rfl)
-- still: exact QuV.of (QuG.bb cok 1 rfl (by assumption) rfl rfl rfl rfl (by simp only [addS_eq, mulS_eq]; omega) (by omega) rfl)
namespace Go.Proofs.YgvafwGreat
open Go.HL Go.Proofs

/-- Where bit k of the state stands in the row of 1600. -/
def linv (k : Nat) : Nat := 64 * (5 * (k % 320 / 64) + k / 320) + k % 64
def lfor (j : Nat) : Nat := j / 64 % 5 * 320 + j / 320 * 64 + j % 64
theorem linv_lt {k : Nat} (h : k < 1600) : linv k < 1600 := by unfold linv; omega
theorem lfor_lt {k : Nat} (h : k < 1600) : lfor k < 1600 := by unfold lfor; omega
theorem linv_lfor' : ∀ k, k < 1600 → linv (lfor k) = k := by decide +kernel
theorem linv_lfor {k : Nat} (h : k < 1600) : linv (lfor k) = k := linv_lfor' k h
theorem lfor_linv' : ∀ k, k < 1600 → lfor (linv k) = k := by decide +kernel
theorem lfor_linv {k : Nat} (h : k < 1600) : lfor (linv k) = k := lfor_linv' k h
/-- The permutation on a row of 1600 bits. -/
def kFB (s : Nat → Bool) (j : Nat) : Bool := perB (fun k => s (linv k)) 24 (lfor j)
theorem bb_of (z : Nat → Value) (A : Nat → Bool) : BB (updN z 0 (cellsFrom (fun i => .bool (A i)) 0 1600)) 1600 A := ⟨fun i hi => by rw [updN_cellsFrom]; dsimp only; rw [if_pos (by omega), Nat.zero_add, Nat.sub_zero]⟩
theorem perm_f {a b x y : Ent} {G : List Ent} : (a :: x :: y :: b :: G).Perm ((a :: b :: G) ++ [x, y]) := by
  refine List.Perm.cons a ?_
  exact List.perm_append_comm (l₁ := [x, y]) (l₂ := b :: G)
/-- kmodel.F -/
theorem kF {I : Ent → Prop} {G : List Ent} {sb sz : Nat} {T : TypeId} {c : Nat → Value} {s : Nat → Bool} (hsz : 1600 ≤ sz) (hS : BB c 1600 s) :
    CallG Hvaf.prog 339 #[ptr sb 0] ⟨I, ⟨sb, sz, T, c⟩ :: G⟩ fun r S' => ∃ c', S' = ⟨I, ⟨sb, sz, T, c'⟩ :: G⟩ ∧ BB c' 1600 (kFB s) := by
  refine CallG.start (C := mkC Hvaf.prog) cok (args := [ptr sb 0]) Hvaf.func339 rfl Hvaf.ntmps339 (by simp) (by kernel_rfl) ?_
  repeat (first | refine SeqS.go cok ?_ | refine CondS.f rfl ?_)
  intro ab
  repeat (first | refine SeqS.go cok ?_)
  refine W.loopE cok (by kernel_rfl) 0 (fun (i : Nat) e' S' => ∃ ca, S' = ⟨I, ⟨ab, 1600, 448, ca⟩ :: ⟨sb, sz, T, c⟩ :: G⟩ ∧ i ≤ 1600 ∧ BB ca 1600 (fun k => if linv k < i then s (linv k) else false) ∧ slots [(0, ptr sb 0), (2, ptr ab 0), (11, ptr sb 0), (12, .int .i64 (i : Nat))] e') (fun i => 1600 - i) 0
    ⟨_, rfl, by decide, ⟨fun k hk => by rw [if_neg (Nat.not_lt_zero _)]; rfl⟩, rfl, rfl, rfl, rfl, trivial⟩
    (fun e' S' => ∃ ca, S' = ⟨I, ⟨ab, 1600, 448, ca⟩ :: ⟨sb, sz, T, c⟩ :: G⟩ ∧ BB ca 1600 (fun k => s (linv k)) ∧ slots [(0, ptr sb 0), (2, ptr ab 0)] e') ?_ ?_
  · rintro e' S2 - ⟨ca, rfl, hA, hsl⟩
    refine SeqS.slots cok _ hsl fun e => ?_
    repeat (first | refine SeqS.go cok ?_)
    refine W.loopF cok (by kernel_rfl) 2 (fun (i : Nat) e' S' => ∃ ca, S' = ⟨I, ⟨ab, 1600, 448, ca⟩ :: ⟨sb, sz, T, c⟩ :: G⟩ ∧ i ≤ 24 ∧ BB ca 1600 (perB (fun k => s (linv k)) i) ∧ slots [(0, ptr sb 0), (2, ptr ab 0), (5, .int .u8 (i : Nat))] e') (fun i => 24 - i) 0
      (.same ⟨ca, rfl, by decide, hA, rfl, rfl, rfl, trivial⟩)
      (fun e' S' => ∃ ca, S' = ⟨I, ⟨ab, 1600, 448, ca⟩ :: ⟨sb, sz, T, c⟩ :: G⟩ ∧ BB ca 1600 (perB (fun k => s (linv k)) 24) ∧ slots [(0, ptr sb 0), (2, ptr ab 0)] e') ?_ ?_
    · rintro e' S2 - ⟨ca, rfl, hA, hsl⟩
      refine SeqS.slots cok _ hsl fun e => ?_
      repeat (first | refine SeqS.go cok ?_)
      refine W.loopE cok (by kernel_rfl) 4 (fun (i : Nat) e' S' => ∃ cs, S' = ⟨I, ⟨ab, 1600, 448, ca⟩ :: ⟨sb, sz, T, cs⟩ :: G⟩ ∧ i ≤ 1600 ∧ BB cs 1600 (fun j => if j < i then kFB s j else s j) ∧ slots [(0, ptr sb 0), (2, ptr ab 0), (40, .int .i64 (i : Nat))] e') (fun i => 1600 - i) 0
        ⟨c, rfl, by decide, hS.ext (fun k hk => by rw [if_neg (Nat.not_lt_zero _)]), rfl, rfl, rfl, trivial⟩
        (fun e' S' => ∃ cs, S' = ⟨I, ⟨ab, 1600, 448, ca⟩ :: ⟨sb, sz, T, cs⟩ :: G⟩ ∧ BB cs 1600 (kFB s)) ?_ ?_
      · rintro e' S2 - ⟨cs, rfl, hC⟩
        skip
        exact Fin.drop (⟨sb, sz, T, cs⟩ :: G) [_] ⟨cs, rfl, hC⟩
      · rintro i e' S2 - ⟨cs, rfl, hi, hC, hsl⟩
        refine W.slots _ hsl fun e => ?_
        clear hS
        by_cases hlt : i < 1600
        · repeat (first | (refine QuG.keep ?_; first | refine QuG.bb cok 0 rfl (by assumption) rfl rfl rfl rfl (by simp only [addS_eq, mulS_eq]; omega) (by omega) ?_) | refine SeqS.go cok ?_ | refine And.intro (by omega) ?_ | refine And.intro (by dsimp only; omega) ?_ | (refine NatS.keep ?_; first | with_reducible refine NatS.nat ?_) | (refine ValS.keep ?_; first | (with_reducible refine ValS.kI64 ?_; first | (with_reducible refine ValS.addI64_L ?_ ?_ ; omega) | (with_reducible refine ValS.quoI64_L ?_ ?_ ; omega) | with_reducible refine ValS.remN_L ?_)) | (refine still_in ?_; first | refine still_drop (by decide) ?_) | (refine OpG.keep ?_; first | refine OpG.s1 cok 1 rfl rfl rfl rfl rfl (by first | exact Nat.le_of_ble_eq_true rfl | omega | (dsimp only; omega) | (simp only [addS_eq, mulS_eq]; omega)) rfl rfl ?_) | refine W.drawI 18 cok [0, 0, 0, 4, 12, 0, 32, 0, 128, 28, 636, 2044, 4092, 1, 16383, 32767] [0, 1, 2, 3, 4, 5, 6, 7, 8, 9, 10, 11, 12, 13, 14, 15] [12] (by kernel_rfl) (by kernel_rfl) ?_ | (refine CondS.keep ?_; first | refine CondS.d1 rfl (by omega) ?_))
          refine ⟨i + 1, ⟨_, rfl, hlt, hC.upd ?_, rfl, rfl, rfl, trivial⟩, by show 1600 - (i + 1) < 1600 - i; omega⟩
          intro k hk
          have hx : addS (addS (addS 0 (mulS (i / 64 % 5) 320)) (mulS (i / 320) 64)) (mulS (i % 64) 1) = lfor i := by unfold lfor; simp only [addS_eq, mulS_eq]; omega
          have hy : addS 0 (mulS i 1) = i := by rw [addS_mulS _ _ _ rfl, Nat.zero_add]
          show (if k < i + 1 then kFB s k else s k) = if k = addS 0 (mulS i 1) then perB (fun k => s (linv k)) 24 (addS (addS (addS 0 (mulS (i / 64 % 5) 320)) (mulS (i / 320) 64)) (mulS (i % 64) 1)) else (if k < i then kFB s k else s k)
          rw [hx, hy]
          by_cases hki : k = i
          · subst hki
            rw [if_pos (by omega), if_pos rfl]; rfl
          · rw [if_neg hki]
            by_cases h2 : k < i
            · rw [if_pos h2, if_pos (by omega)]
            · rw [if_neg h2, if_neg (by omega)]
        · repeat (first | refine SeqS.go cok ?_ | (refine CondS.keep ?_; first | refine CondS.d0 rfl (by omega) ?_))
          exact ⟨cs, rfl, hC.ext (fun k hk => by rw [if_pos (by omega)])⟩
    · rintro i e' S2 - ⟨ca, rfl, hi, hA, hsl⟩
      refine W.slots _ hsl fun e => ?_
      by_cases hlt : i < 24
      · repeat (first | refine SeqS.go cok ?_ | (refine CondS.keep ?_; first | refine CondS.d1 rfl (by omega) ?_))
        refine (kTheta (Nat.le_refl _) hA).mono ?_
        rintro r _ - ⟨c1, rfl, h1⟩
        repeat (first | refine SeqS.go cok ?_)
        refine (kRho (Nat.le_refl _) h1).mono ?_
        rintro r _ - ⟨rfl, rfl⟩
        skip
        intro rb
        repeat (first | refine SeqS.go cok ?_ | (refine OpG.keep ?_; first | refine OpG.sL cok 0 rfl rfl rfl rfl rfl rfl rfl (by first | exact Nat.le_of_ble_eq_true rfl | omega | (dsimp only; omega) | (simp only [addS_eq, mulS_eq]; omega)) ?_))
        refine (kPi (Nat.le_refl _) (bb_of _ _)).mono ?_
        rintro r _ - ⟨rfl, rfl⟩
        skip
        intro qb
        repeat (first | refine SeqS.go cok ?_ | (refine OpG.keep ?_; first | refine OpG.sL cok 0 rfl rfl rfl rfl rfl rfl rfl (by first | exact Nat.le_of_ble_eq_true rfl | omega | (dsimp only; omega) | (simp only [addS_eq, mulS_eq]; omega)) ?_))
        refine (kChi (Nat.le_refl _) (bb_of _ _)).mono ?_
        rintro r _ - ⟨rfl, rfl⟩
        repeat (first | refine SeqS.go cok ?_ | (refine OpG.keep ?_; first | refine OpG.sL cok 2 rfl rfl rfl rfl rfl rfl rfl (by first | exact Nat.le_of_ble_eq_true rfl | omega | (dsimp only; omega) | (simp only [addS_eq, mulS_eq]; omega)) ?_))
        refine CallG.focus 2 rfl ?_
        refine (kIota (Nat.le_refl _) (bb_of _ _) hlt).mono ?_
        rintro r _ - ⟨c4, rfl, h4⟩
        repeat (first | refine SeqS.go cok ?_ | (refine ValS.keep ?_; first | (with_reducible refine ValS.kU8 ?_; first | (with_reducible refine ValS.addU8_L ?_ ?_ ; omega))))
        refine ⟨i + 1, Rel.perm (⟨ab, 1600, 448, c4⟩ :: ⟨sb, sz, T, c⟩ :: G) [_, _] perm_f ⟨c4, rfl, hlt, h4, rfl, rfl, rfl, trivial⟩, by show 24 - (i + 1) < 24 - i; omega⟩
      · obtain rfl : i = 24 := by omega
        repeat (first | refine SeqS.go cok ?_ | refine CondS.f rfl ?_)
        exact ⟨ca, rfl, hA, rfl, rfl, trivial⟩
  · rintro i e' S2 - ⟨ca, rfl, hi, hA, hsl⟩
    refine W.slots _ hsl fun e => ?_
    by_cases hlt : i < 1600
    · repeat (first | (refine QuG.keep ?_; first | refine QuG.bb cok 1 rfl (by assumption) rfl rfl rfl rfl (by simp only [addS_eq, mulS_eq]; omega) (by omega) ?_) | refine SeqS.go cok ?_ | refine And.intro (by omega) ?_ | refine And.intro (by dsimp only; omega) ?_ | (refine NatS.keep ?_; first | with_reducible refine NatS.nat ?_) | (refine ValS.keep ?_; first | (with_reducible refine ValS.kI64 ?_; first | (with_reducible refine ValS.addI64_L ?_ ?_ ; omega) | (with_reducible refine ValS.quoI64_L ?_ ?_ ; omega) | with_reducible refine ValS.remN_L ?_)) | (refine OpG.keep ?_; first | refine OpG.s1 cok 0 rfl rfl rfl rfl rfl (by first | exact Nat.le_of_ble_eq_true rfl | omega | (dsimp only; omega) | (simp only [addS_eq, mulS_eq]; omega)) rfl rfl ?_) | refine W.drawI 4 cok [0, 0, 2, 6, 1, 31] [0, 1, 2, 3, 4, 5] [3] (by kernel_rfl) (by kernel_rfl) ?_ | (refine CondS.keep ?_; first | refine CondS.d1 rfl (by omega) ?_))
      refine ⟨i + 1, ⟨_, rfl, hlt, hA.upd ?_, rfl, rfl, rfl, rfl, trivial⟩, by show 1600 - (i + 1) < 1600 - i; omega⟩
      intro k hk
      have hx : addS (addS (addS 0 (mulS (i / 64 % 5) 320)) (mulS (i / 320) 64)) (mulS (i % 64) 1) = lfor i := by unfold lfor; simp only [addS_eq, mulS_eq]; omega
      have hy : addS 0 (mulS i 1) = i := by rw [addS_mulS _ _ _ rfl, Nat.zero_add]
      show (if linv k < i + 1 then s (linv k) else false) = if k = addS (addS (addS 0 (mulS (i / 64 % 5) 320)) (mulS (i / 320) 64)) (mulS (i % 64) 1) then s (addS 0 (mulS i 1)) else (if linv k < i then s (linv k) else false)
      rw [hx, hy]
      by_cases hki : k = lfor i
      · subst hki
        rw [if_pos rfl, linv_lfor hlt, if_pos (by omega)]
      · rw [if_neg hki]
        have : linv k ≠ i := fun h => hki (by rw [← h, lfor_linv hk])
        by_cases h2 : linv k < i
        · rw [if_pos h2, if_pos (by omega)]
        · rw [if_neg h2, if_neg (by omega)]
    · repeat (first | refine SeqS.go cok ?_ | (refine CondS.keep ?_; first | refine CondS.d0 rfl (by omega) ?_))
      exact ⟨ca, rfl, hA.ext (fun k hk => by rw [if_pos (by have := linv_lt hk; omega)]), rfl, rfl, trivial⟩
end Go.Proofs.YgvafwGreat
