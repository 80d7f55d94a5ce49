import Derived.Test.YgvafwGreatK15
import Derived.Test.YgvafwGreatY25
import Derived.Test.YgvafwGreatOp1
set_option maxRecDepth 100000
set_option maxHeartbeats 4000000
set_option linter.unusedVariables false
set_option linter.unusedSimpArgs false
-- v2
-- v4
-- v5
-- v6
-- v7
namespace Go.Proofs.YgvafwGreat
open Go.HL Go.Proofs
theorem destF_past {code : List Nat} {a : Nat} : ∀ (f i : Nat), a < i → destF code a f i = false
  | 0, i, h => rfl
  | f + 1, i, h => by
    rw [destF]
    by_cases h1 : i < code.length
    · rw [if_pos h1, if_neg (by omega)]; exact destF_past f _ (by omega)
    · rw [if_neg h1]
/-- The map once the walk stands at i. -/
structure ScI (code ds : List Nat) (i : Nat) : Prop where
  len : ds.length = 8
  lt : ∀ d ∈ ds, d < 18446744073709551616
  bit : ∀ j, j < 512 → (ds.getD (j / 64) 0).testBit (j % 64) = (decide (j < i) && destN code j)
  fut : ∃ f, code.length + 1 ≤ f + i ∧ ∀ j, i ≤ j → destN code j = destF code j f i
theorem ScI.init (code : List Nat) : ScI code (List.replicate 8 0) 0 := by
  refine ⟨by simp, by intro d hd; rw [(List.mem_replicate.1 hd).2]; decide, fun j hj => ?_, code.length + 1, by omega, fun j _ => rfl⟩
  rw [List.getD_eq_getElem?_getD, List.getElem?_replicate, if_pos (by omega)]
  simp
theorem ScI.skip {code ds : List Nat} {i : Nat} (h : ScI code ds i) (hi : i < code.length) (h91 : code.getD i 0 ≠ 91) : ScI code ds (i + (1 + immN (code.getD i 0))) := by
  obtain ⟨f, hf, hfut⟩ := h.fut
  obtain ⟨g, rfl⟩ : ∃ g, f = g + 1 := ⟨f - 1, by omega⟩
  refine ⟨h.len, h.lt, fun j hj => ?_, g, by omega, fun j hj => ?_⟩
  · rw [h.bit j hj]
    by_cases h1 : j < i
    · rw [decide_eq_true h1, decide_eq_true (by omega)]
    · rw [decide_eq_false h1, Bool.false_and]
      by_cases h2 : j < i + (1 + immN (code.getD i 0))
      · rw [decide_eq_true h2, Bool.true_and, hfut j (by omega), destF, if_pos hi]
        by_cases h3 : i = j
        · rw [if_pos h3, decide_eq_false h91]
        · rw [if_neg h3, destF_past _ _ h2]
      · rw [decide_eq_false h2, Bool.false_and]
  · rw [hfut j (by omega), destF, if_pos hi, if_neg (by omega)]
theorem ScI.set {code ds : List Nat} {i : Nat} (h : ScI code ds i) (hi : i < code.length) (h512 : i < 512) (h91 : code.getD i 0 = 91) : ScI code (ds.set (i / 64) (ds.getD (i / 64) 0 ||| 2 ^ (i % 64))) (i + (1 + immN (code.getD i 0))) := by
  obtain ⟨f, hf, hfut⟩ := h.fut
  obtain ⟨g, rfl⟩ : ∃ g, f = g + 1 := ⟨f - 1, by omega⟩
  have hl := h.len
  have hdl : ds.getD (i / 64) 0 < 2 ^ 64 := by
    rw [List.getD_eq_getElem?_getD, List.getElem?_eq_getElem (by omega)]; exact h.lt _ (List.getElem_mem _)
  refine ⟨by rw [List.length_set]; exact hl, ?_, fun j hj => ?_, g, by omega, fun j hj => ?_⟩
  · intro d hd
    rcases List.mem_or_eq_of_mem_set hd with hd | rfl
    · exact h.lt d hd
    · exact Nat.or_lt_two_pow (n := 64) hdl (Nat.pow_lt_pow_right (by decide) (by omega))
  · have hg : (ds.set (i / 64) (ds.getD (i / 64) 0 ||| 2 ^ (i % 64))).getD (j / 64) 0 = if i / 64 = j / 64 then ds.getD (i / 64) 0 ||| 2 ^ (i % 64) else ds.getD (j / 64) 0 := by
      rw [List.getD_eq_getElem?_getD, List.getElem?_set]
      by_cases hq : i / 64 = j / 64
      · rw [if_pos hq, if_pos hq, if_pos (by omega)]; rfl
      · rw [if_neg hq, if_neg hq, ← List.getD_eq_getElem?_getD]
    rw [hg]
    have hb := h.bit j hj
    by_cases h3 : j = i
    · subst h3
      rw [if_pos rfl, Nat.testBit_or, hb, Nat.testBit_two_pow_self, Bool.or_true, decide_eq_true (by omega), Bool.true_and, hfut j (Nat.le_refl _), destF, if_pos hi, if_pos rfl, decide_eq_true h91]
    · have hold : (if i / 64 = j / 64 then ds.getD (i / 64) 0 ||| 2 ^ (i % 64) else ds.getD (j / 64) 0).testBit (j % 64) = (ds.getD (j / 64) 0).testBit (j % 64) := by
        by_cases hq : i / 64 = j / 64
        · rw [if_pos hq, Nat.testBit_or, Nat.testBit_two_pow_of_ne (by omega), Bool.or_false, hq]
        · rw [if_neg hq]
      rw [hold, hb]
      by_cases h1 : j < i
      · rw [decide_eq_true h1, decide_eq_true (by omega)]
      · rw [decide_eq_false h1, Bool.false_and]
        by_cases h2 : j < i + (1 + immN (code.getD i 0))
        · rw [decide_eq_true h2, Bool.true_and, hfut j (by omega), destF, if_pos hi, if_neg (by omega), destF_past _ _ h2]
        · rw [decide_eq_false h2, Bool.false_and]
  · rw [hfut j (by omega), destF, if_pos hi, if_neg (by omega)]
theorem ScI.done {code ds : List Nat} {i : Nat} (h : ScI code ds i) (hi : code.length ≤ i) : ∀ j, j < 512 → (ds.getD (j / 64) 0).testBit (j % 64) = destN code j := by
  intro j hj
  rw [h.bit j hj]
  by_cases h1 : j < i
  · rw [decide_eq_true h1, Bool.true_and]
  · rw [decide_eq_false h1, Bool.false_and]
    obtain ⟨f, hf, hfut⟩ := h.fut
    rw [hfut j (by omega)]
    cases f with
    | zero => rfl
    | succ g => rw [destF, if_neg (by omega)]
theorem map_at {ds : List Nat} {z : Nat → Value} {i : Nat} (hl : ds.length = 8) (hi : i < 512) : updN z 0 (ivs .u64 ds) (addS 0 (mulS (i / 64) 1)) = .int .u64 (ds.getD (i / 64) 0 : Nat) := by
  have l1 : (ivs .u64 ds).length = 8 := by rw [ivs, List.length_map, hl]
  rw [addS_mulS _ _ _ rfl, Nat.zero_add]
  unfold updN
  rw [l1, if_pos (by omega), Nat.sub_zero, ivs, List.getD_eq_getElem?_getD, List.getElem?_map, List.getElem?_eq_getElem (by omega), List.getD_eq_getElem?_getD, List.getElem?_eq_getElem (by omega)]; rfl
theorem map_set {ds : List Nat} {z : Nat → Value} {i v : Nat} (hl : ds.length = 8) (hi : i < 512) : upd (updN z 0 (ivs .u64 ds)) (addS 0 (mulS (i / 64) 1)) (.int .u64 (v : Nat)) = updN z 0 (ivs .u64 (ds.set (i / 64) v)) := by
  have l1 : (ivs .u64 ds).length = 8 := by rw [ivs, List.length_map, hl]
  have l2 : (ivs .u64 (ds.set (i / 64) v)).length = 8 := by rw [ivs, List.length_map, List.length_set, hl]
  rw [addS_mulS _ _ _ rfl, Nat.zero_add]
  funext p
  unfold upd updN
  rw [l1, l2]
  by_cases hp : p < 8
  · rw [if_pos (by omega : 0 ≤ p ∧ p < 0 + 8), if_pos (by omega : 0 ≤ p ∧ p < 0 + 8), Nat.sub_zero]
    simp only [ivs, List.getD_eq_getElem?_getD, List.getElem?_map, List.getElem?_set]
    by_cases h : p = i / 64
    · subst h; rw [if_pos rfl, if_pos rfl, if_pos (by omega)]; rfl
    · rw [if_neg h, if_neg (fun e => h e.symm)]
  · rw [if_neg (by omega), if_neg (by omega), if_neg (by omega)]
/-- code.Scan -/
theorem mScan {I : Ent → Prop} {G : List Ent} {v : Value} {code : List Nat} (hv : Byt ⟨I, G⟩ v code) (hc : code.length ≤ 512) :
    CallG Hvaf.prog 187 #[v] ⟨I, G⟩ fun r S' => ⟨I, G⟩ = S' ∧ ∃ ds : List Nat, r = .agg (ivs .u64 ds).toArray ∧ ds.length = 8 ∧ (∀ d ∈ ds, d < 18446744073709551616) ∧ ∀ i, i < 512 → (ds.getD (i / 64) 0).testBit (i % 64) = destN code i := by
  obtain ⟨ad, vcap, rfl⟩ : ∃ ad cap, v = .slice ad code.length cap := by
    rcases hv.cases with ⟨h1, h2⟩ | ⟨x, o, cap, h1, _⟩
    · exact ⟨none, 0, by rw [h1, h2]; rfl⟩
    · exact ⟨_, cap, h1⟩
  refine CallG.start (C := mkC Hvaf.prog) cok (args := [.slice ad code.length vcap]) Hvaf.func187 rfl Hvaf.ntmps187 (by simp) (by kernel_rfl) ?_
  intro rb
  repeat (first | refine SeqS.go cok ?_)
  intro mb
  repeat (first | refine SeqS.go cok ?_ | (refine CondS.keep ?_; first | refine CondS.d0 rfl (by omega) ?_))
  refine W.loopE cok (by kernel_rfl) 0 (fun (p : List Nat × Nat) e' S' => S' = ⟨I, ⟨mb, 8, 83, updN z_int__u64_0 0 (ivs .u64 p.1)⟩ :: ⟨rb, 8, 83, z_int__u64_0⟩ :: G⟩ ∧ ScI code p.1 p.2 ∧ p.2 < 600 ∧ slots [(0, .slice ad code.length vcap), (2, ptr rb 0), (3, ptr mb 0), (4, .int .i64 (p.2 : Nat))] e') (fun p => code.length - p.2) (List.replicate 8 0, 0)
    ⟨?_, ScI.init code, by decide, rfl, rfl, rfl, rfl, trivial⟩
    (fun e' S' => ∃ ds, S' = ⟨I, ⟨mb, 8, 83, updN z_int__u64_0 0 (ivs .u64 ds)⟩ :: ⟨rb, 8, 83, z_int__u64_0⟩ :: G⟩ ∧ ds.length = 8 ∧ (∀ d ∈ ds, d < 18446744073709551616) ∧ (∀ i, i < 512 → (ds.getD (i / 64) 0).testBit (i % 64) = destN code i) ∧ slots [(2, ptr rb 0), (3, ptr mb 0)] e') ?_ ?_
  · refine congrArg (fun c' => (⟨I, ⟨mb, 8, 83, c'⟩ :: ⟨rb, 8, 83, z_int__u64_0⟩ :: G⟩ : St)) (updN_self ⟨fun p hp => ?_⟩).symm
    have hp2 : p < 8 := by simpa [ivs] using hp
    rw [ivs, List.getD_eq_getElem?_getD, List.getElem?_map, List.getElem?_replicate, if_pos hp2]; rfl
  · rintro e' S2 - ⟨ds, rfl, h1, h2, h3, hsl⟩
    have hl : (ivs .u64 ds).length = 8 := by rw [ivs, List.length_map, h1]
    have ho : ∀ u ∈ ivs .u64 ds, one u = true := by intro u hu; obtain ⟨d, _, rfl⟩ := List.mem_map.1 hu; rfl
    refine SeqS.slots cok _ hsl fun e => ?_
    repeat (first | (refine QuG.keep ?_; first | refine QuG.upL cok 0 rfl rfl rfl rfl rfl rfl (by assumption) (by first | exact Nat.le_of_ble_eq_true rfl | omega) ?_) | (refine OpG.keep ?_; first | refine OpG.upS cok 1 rfl rfl rfl rfl rfl (by assumption) (by first | assumption | exact one_bvs _) (by first | exact Nat.le_of_ble_eq_true rfl | omega) ?_) | (refine LdG.keep ?_; first | refine LdG.upL cok 1 rfl rfl rfl rfl rfl rfl (by assumption) (by first | exact Nat.le_of_ble_eq_true rfl | omega) ?_) | refine SeqS.go cok ?_)
    exact Fin.drop G [_, _] ⟨rfl, ds, rfl, h1, h2, h3⟩
  · rintro ⟨ds, i⟩ e' S2 - ⟨rfl, hS, hi, hsl⟩
    dsimp only at hS hi hsl
    refine W.slots _ hsl fun e => ?_
    by_cases hlt : i < code.length
    · obtain ⟨x, o, had, hx, hbs⟩ := hv.some (by omega)
      subst had
      have hd8 : code.getD i 0 < 256 := by
        rw [List.getD_eq_getElem?_getD, List.getElem?_eq_getElem hlt]; exact hv.1 _ (List.getElem_mem hlt)
      have him := fun S => Imm_spec (S := S) hd8
      have hii : immN (code.getD i 0) ≤ 32 := by unfold immN; split <;> omega
      by_cases h91 : code.getD i 0 = 91
      · have hrd : Rd ⟨I, ⟨mb, 8, 83, updN z_int__u64_0 0 (ivs .u64 ds)⟩ :: ⟨rb, 8, 83, z_int__u64_0⟩ :: G⟩ x := hx.mono (fun _ h => h) (fun y h => by simp [h])
        have hat := map_at (z := z_int__u64_0) hS.len (show i < 512 by omega)
        have hdl : ds.getD (i / 64) 0 < 18446744073709551616 := by
          rw [List.getD_eq_getElem?_getD, List.getElem?_eq_getElem (by have := hS.len; omega)]; exact hS.lt _ (List.getElem_mem _)
        have h2p : 2 ^ (i % 64) < 18446744073709551616 := Nat.pow_lt_pow_right (a := 2) (n := 64) (by decide) (by omega)
        have hst : ∀ y, y = 2 ^ (i % 64) → upd (updN z_int__u64_0 0 (ivs .u64 ds)) (addS 0 (mulS (i / 64) 1)) (.int .u64 ((ds.getD (i / 64) 0 ||| y : Nat) : Int)) = updN z_int__u64_0 0 (ivs .u64 (ds.set (i / 64) (ds.getD (i / 64) 0 ||| 2 ^ (i % 64)))) := by
          rintro y rfl; exact map_set hS.len (by omega)
        have hnx := hS.set hlt (by omega) h91
        have hrd2 : Rd ⟨I, ⟨mb, 8, 83, upd (updN z_int__u64_0 0 (ivs .u64 ds)) (addS 0 (mulS (i / 64) 1)) (.int .u64 ((ds.getD (i / 64) 0 ||| 1 * 2 ^ (i % 64) : Nat) : Int))⟩ :: ⟨rb, 8, 83, z_int__u64_0⟩ :: G⟩ x := hx.mono (fun _ h => h) (fun y h => by simp [h])
        repeat (first | (refine QuG.keep ?_; first | refine QuG.l1E cok 0 rfl rfl rfl rfl rfl (by first | exact Nat.le_of_ble_eq_true rfl | omega | (dsimp only; omega) | (simp only [addS_eq, mulS_eq]; omega)) (by assumption) ?_) | refine SeqS.go cok ?_ | refine And.intro (by omega) ?_ | refine And.intro (by dsimp only; omega) ?_ | (refine NatS.keep ?_; first | with_reducible refine NatS.nat ?_) | (refine ValS.keep ?_; first | (with_reducible refine ValS.kI64 ?_; first | (with_reducible refine ValS.quoI64_L ?_ ?_ ; omega) | with_reducible refine ValS.remN_L ?_) | (with_reducible refine ValS.kU64 ?_; first | (with_reducible refine ValS.orFU64 ?_ ?_ (fun _ => ?_); omega; omega) | (with_reducible refine ValS.shlU64_M ?_ ?_ ?_ ; omega; omega))) | (refine QuG.keep ?_; first | refine QuG.bs cok (by assumption) (by assumption) rfl rfl rfl rfl (by omega) ?_) | (refine still_in ?_; first | refine still_drop (by decide) ?_) | (refine OpG.keep ?_; first | refine OpG.s1 cok 0 rfl rfl rfl rfl rfl (by first | exact Nat.le_of_ble_eq_true rfl | omega | (dsimp only; omega) | (simp only [addS_eq, mulS_eq]; omega)) rfl rfl ?_) | refine W.drawI 8 cok [0, 1, 3, 7, 0, 16, 48, 127, 255, 511] [0, 1, 2, 3, 4, 5, 6, 7, 8, 9] [3] (by kernel_rfl) (by kernel_rfl) ?_ | (refine CondS.keep ?_; first | refine CondS.d1 rfl (by omega) ?_))
        refine (him _).mono ?_
        rintro r _ - ⟨rfl, rfl⟩
        repeat (first | (refine ValS.keep ?_; first | (with_reducible refine ValS.kI64 ?_; first | (with_reducible refine ValS.convI64 ?_ ?_ ; omega) | (with_reducible refine ValS.addI64 ?_ ?_ ; omega) | (with_reducible refine ValS.addI64_M ?_ ?_ ; omega))))
        exact ⟨(ds.set (i / 64) (ds.getD (i / 64) 0 ||| 2 ^ (i % 64)), i + (1 + immN (code.getD i 0))), ⟨congrArg (fun c' => (⟨I, ⟨mb, 8, 83, c'⟩ :: ⟨rb, 8, 83, z_int__u64_0⟩ :: G⟩ : St)) (hst _ (Nat.one_mul _)), hnx, by show i + (1 + immN (code.getD i 0)) < 600; omega, rfl, rfl, rfl, rfl, trivial⟩, by show code.length - (i + (1 + immN (code.getD i 0))) < code.length - i; omega⟩
      · have hrd : Rd ⟨I, ⟨mb, 8, 83, updN z_int__u64_0 0 (ivs .u64 ds)⟩ :: ⟨rb, 8, 83, z_int__u64_0⟩ :: G⟩ x := hx.mono (fun _ h => h) (fun y h => by simp [h])
        have hnx := hS.skip hlt h91
        repeat (first | refine SeqS.go cok ?_ | refine And.intro (by omega) ?_ | (refine NatS.keep ?_; first | with_reducible refine NatS.nat ?_) | (refine QuG.keep ?_; first | refine QuG.bs cok (by assumption) (by assumption) rfl rfl rfl rfl (by omega) ?_) | (refine CondS.keep ?_; first | refine CondS.d1 rfl (by omega) ?_ | refine CondS.d0 rfl (by omega) ?_))
        refine (him _).mono ?_
        rintro r _ - ⟨rfl, rfl⟩
        repeat (first | (refine ValS.keep ?_; first | (with_reducible refine ValS.kI64 ?_; first | (with_reducible refine ValS.convI64 ?_ ?_ ; omega) | (with_reducible refine ValS.addI64 ?_ ?_ ; omega) | (with_reducible refine ValS.addI64_M ?_ ?_ ; omega))))
        exact ⟨(ds, i + (1 + immN (code.getD i 0))), ⟨rfl, hnx, by show i + (1 + immN (code.getD i 0)) < 600; omega, rfl, rfl, rfl, rfl, trivial⟩, by show code.length - (i + (1 + immN (code.getD i 0))) < code.length - i; omega⟩
    · repeat (first | refine SeqS.go cok ?_ | (refine CondS.keep ?_; first | refine CondS.d0 rfl (by omega) ?_))
      exact ⟨ds, rfl, hS.len, hS.lt, hS.done (by omega), rfl, rfl, trivial⟩
end Go.Proofs.YgvafwGreat
