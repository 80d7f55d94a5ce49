import Derived.Test.YgvafwGreatD6
set_option maxRecDepth 100000
set_option maxHeartbeats 4000000
set_option linter.unusedVariables false
set_option linter.unusedSimpArgs false
-- v2
-- v3
namespace Go.Proofs.YgvafwGreat
open Go.HL Go.Proofs

theorem lv_take_succ (L : List Nat) (i : Nat) (h : i < L.length) : lv (L.take (i + 1)) = lv (L.take i) + 18446744073709551616 ^ i * L.getD i 0 := by
  have e : L.take (i + 1) = L.take i ++ [L.getD i 0] := by
    rw [List.take_add_one, List.getD_eq_getElem?_getD, List.getElem?_eq_getElem h]; rfl
  rw [e, lv_snoc, List.length_take, Nat.min_eq_left (by omega)]
theorem cmp_step {A V : List Nat} {i : Nat} (hA : Lim A) (hV : Lim V) (h1 : i < A.length) (h2 : i < V.length) (h : lv (A.take (i + 1)) < lv (V.take (i + 1))) :
    A.getD i 0 < V.getD i 0 ∨ (A.getD i 0 = V.getD i 0 ∧ lv (A.take i) < lv (V.take i)) := by
  rw [lv_take_succ A i h1, lv_take_succ V i h2] at h
  rcases Nat.lt_trichotomy (A.getD i 0) (V.getD i 0) with hc | hc | hc
  · exact .inl hc
  · rw [hc] at h; exact .inr ⟨hc, by omega⟩
  · exfalso
    have hv := lv_take_lt hV (k := i) (by omega)
    have := Nat.mul_le_mul_left (18446744073709551616 ^ i) hc
    rw [Nat.succ_eq_add_one, Nat.mul_add, Nat.mul_one] at this
    omega

theorem _root_.Go.HL.ValS.subK8 {a n : Nat} {q : Value → Prop} (k : Nat) (h : a - (OfNat.ofNat n : Nat) = k) (h1 : (OfNat.ofNat n : Nat) ≤ a ∧ a < 256) (hq : q (.int .u8 (k : Nat))) : ValS (.int .u8 (IntKind.wrap .u8 ((a : Int) - (OfNat.ofNat n : Int)))) q := ValS.subU8_L h1.1 h1.2 (by rw [h]; exact hq)
/-- u256.midHolds -/
theorem midHolds_spec {I : Ent → Prop} {G : List Ent} {bu su ou pu bv sv ov pv n j : Nat} {Tu Tv : TypeId} {cu cv : Nat → Value} {U V : List Nat} (hU : Lim U) (hV : Lim V) (hl : U.length < 64) (hn : 1 ≤ n) (hnv : n ≤ V.length) (hvl : V.length < 64) (hj : j + n < U.length) (h1 : ou + U.length ≤ su) (h2 : ov + V.length ≤ sv)
    (ht : 9223372036854775808 ≤ V.getD (n - 1) 0) (hz : ∀ i, j + n < i → U.getD i 0 = 0) (hlt : lv ((U.drop (j + 1)).take n) < lv (V.take n)) :
    CallG Hvaf.prog 434 #[sl bu ou U.length pu, sl bv ov V.length pv, .int .u8 (n : Nat), .int .u8 (j : Nat)] ⟨I, ⟨bu, su, Tu, updN cu ou (ivs .u64 U)⟩ :: ⟨bv, sv, Tv, updN cv ov (ivs .u64 V)⟩ :: G⟩ fun r S' =>
      ⟨I, ⟨bu, su, Tu, updN cu ou (ivs .u64 U)⟩ :: ⟨bv, sv, Tv, updN cv ov (ivs .u64 V)⟩ :: G⟩ = S' ∧ r = .bool true := by
  have hvt := getD_lim hV (n - 1)
  obtain ⟨S, hS⟩ : ∃ S : St, S = ⟨I, ⟨bu, su, Tu, updN cu ou (ivs .u64 U)⟩ :: ⟨bv, sv, Tv, updN cv ov (ivs .u64 V)⟩ :: G⟩ := ⟨_, rfl⟩
  refine CallG.start (C := mkC Hvaf.prog) cok (args := [sl bu ou U.length pu, sl bv ov V.length pv, .int .u8 (n : Nat), .int .u8 (j : Nat)]) Hvaf.func434 rfl Hvaf.ntmps434 (by simp) (by kernel_rfl) ?_
  repeat (first | refine SeqS.go cok ?_ | refine And.intro (by omega) ?_ | (refine NatS.keep ?_; first | with_reducible refine NatS.nat ?_) | (refine ValS.keep ?_; first | (with_reducible refine ValS.kI64 ?_; first | (with_reducible refine ValS.convI64 ?_ ?_ ; omega) | (with_reducible refine ValS.addI64_L ?_ ?_ ; omega) | (with_reducible refine ValS.addI64 ?_ ?_ ; omega)) | (with_reducible refine ValS.kU64 ?_; first | (with_reducible refine ValS.shrU64_L ?_ ?_ ; omega)) | (with_reducible refine ValS.kU8 ?_; first | (with_reducible refine ValS.subU8_L ?_ ?_ ?_ ; omega; omega))) | (refine QuG.keep ?_; first | refine QuG.ar cok 1 rfl rfl rfl rfl rfl rfl (by first | omega | (simp; done) | (simp; omega)) (by first | omega | (simp; done) | (simp; omega)) ?_) | (refine CondS.keep ?_; first | refine CondS.d0 rfl (by omega) ?_))
  refine W.loopE cok (by kernel_rfl) 0 (fun (i : Nat) e' S' => S' = ⟨I, ⟨bu, su, Tu, updN cu ou (ivs .u64 U)⟩ :: ⟨bv, sv, Tv, updN cv ov (ivs .u64 V)⟩ :: G⟩ ∧ j + n < i ∧ i ≤ U.length ∧
      slots [(0, sl bu ou U.length pu), (1, sl bv ov V.length pv), (2, .int .u8 (n : Nat)), (3, .int .u8 (j : Nat)), (9, .int .i64 (i : Nat))] e') (fun i => U.length - i) (j + n + 1)
      ⟨rfl, by omega, by omega, rfl, rfl, rfl, rfl, rfl, trivial⟩
      (fun e' S' => S' = ⟨I, ⟨bu, su, Tu, updN cu ou (ivs .u64 U)⟩ :: ⟨bv, sv, Tv, updN cv ov (ivs .u64 V)⟩ :: G⟩ ∧ slots [(0, sl bu ou U.length pu), (1, sl bv ov V.length pv), (2, .int .u8 (n : Nat)), (3, .int .u8 (j : Nat))] e') ?_ ?_
  · rintro e' S2 - ⟨hS2, hsl⟩
    subst hS2
    refine SeqS.slots cok _ hsl fun e => ?_
    repeat (first | refine SeqS.go cok ?_)
    refine W.loopE cok (by kernel_rfl) 2 (fun (i : Nat) e' S' => S' = ⟨I, ⟨bu, su, Tu, updN cu ou (ivs .u64 U)⟩ :: ⟨bv, sv, Tv, updN cv ov (ivs .u64 V)⟩ :: G⟩ ∧ i ≤ n ∧ Hid (lv ((U.drop (j + 1)).take i) < lv (V.take i)) ∧
        slots [(0, sl bu ou U.length pu), (1, sl bv ov V.length pv), (3, .int .u8 (j : Nat)), (10, .int .u8 (i : Nat))] e') (fun i => i) n
        ⟨rfl, by omega, ⟨hlt⟩, rfl, rfl, rfl, rfl, trivial⟩ (fun e' S' => False) ?_ ?_
    · intro e' S' h1 h2
      exact h2.elim
    · rintro i e' S2 - ⟨hS2, hi, hc, hsl⟩
      subst hS2
      refine W.slots _ hsl fun e => ?_
      cases i with
      | zero => exact absurd hc.out (by simp [lv])
      | succ i =>
        have hgu := getD_lim hU (j + (i + 1))
        have hgv := getD_lim hV i
        have hcs := cmp_step (A := U.drop (j + 1)) (fun d hd => hU d (List.mem_of_mem_drop hd)) hV (by rw [List.length_drop]; omega) (by omega) hc.out
        rw [getD_drop, show j + 1 + i = j + (i + 1) by omega] at hcs
        replace hc : True := trivial
        rcases hcs with hcs | hcs
        · repeat (first | (refine ValS.keep ?_; with_reducible refine ValS.subK8 i ?_ ?_ ?_; omega; omega) | refine SeqS.go cok ?_ | refine And.intro (by omega) ?_ | (refine NatS.keep ?_; first | with_reducible refine NatS.nat ?_) | (refine ValS.keep ?_; first | (with_reducible refine ValS.kU8 ?_; first | (with_reducible refine ValS.addU8 ?_ ?_ ; omega))) | (refine QuG.keep ?_; first | refine QuG.ar cok 0 rfl rfl rfl rfl rfl rfl (by first | omega | (simp; done) | (simp; omega)) (by first | omega | (simp; done) | (simp; omega)) ?_ | refine QuG.ar cok 1 rfl rfl rfl rfl rfl rfl (by first | omega | (simp; done) | (simp; omega)) (by first | omega | (simp; done) | (simp; omega)) ?_) | refine W.drawI 11 cok [0, 0, 0, 6, 15, 31, 0, 0, 128, 448, 960, 2047] [0, 1, 2, 3, 4, 5, 6, 7, 8, 9, 10, 11] [5, 10] (by kernel_rfl) (by kernel_rfl) ?_ | refine W.drawI 12 cok [0, 0, 0, 6, 15, 31, 0, 0, 128, 448, 960, 2047, 4095] [0, 1, 2, 3, 4, 5, 6, 7, 8, 9, 10, 11, 12] [5, 10] (by kernel_rfl) (by kernel_rfl) ?_ | (refine CondS.keep ?_; first | refine CondS.d1 rfl (by omega) ?_ | refine CondS.nd1 rfl (by omega) ?_))
          exact Fin.same ⟨rfl, vB rfl (by simpa using hcs)⟩
        · have hcs1 := hcs.1
          have hcs2 : Hid _ := ⟨hcs.2⟩
          clear hcs
          repeat (first | (refine ValS.keep ?_; with_reducible refine ValS.subK8 i ?_ ?_ ?_; omega; omega) | refine SeqS.go cok ?_ | refine And.intro (by omega) ?_ | (refine NatS.keep ?_; first | with_reducible refine NatS.nat ?_) | (refine ValS.keep ?_; first | (with_reducible refine ValS.kU8 ?_; first | (with_reducible refine ValS.addU8 ?_ ?_ ; omega))) | (refine QuG.keep ?_; first | refine QuG.ar cok 0 rfl rfl rfl rfl rfl rfl (by first | omega | (simp; done) | (simp; omega)) (by first | omega | (simp; done) | (simp; omega)) ?_ | refine QuG.ar cok 1 rfl rfl rfl rfl rfl rfl (by first | omega | (simp; done) | (simp; omega)) (by first | omega | (simp; done) | (simp; omega)) ?_) | refine W.drawI 11 cok [0, 0, 0, 6, 15, 31, 0, 0, 128, 448, 960, 2047] [0, 1, 2, 3, 4, 5, 6, 7, 8, 9, 10, 11] [5, 10] (by kernel_rfl) (by kernel_rfl) ?_ | (refine CondS.keep ?_; first | refine CondS.d1 rfl (by omega) ?_ | refine CondS.nd0 rfl (by omega) ?_))
          exact ⟨i, ⟨rfl, by omega, hcs2, rfl, rfl, rfl, rfl, trivial⟩, by show i < i + 1; omega⟩
  · rintro i e' S2 - ⟨hS2, hi, hi2, hsl⟩
    subst hS2
    refine W.slots _ hsl fun e => ?_
    have hz := hz i hi
    rcases Nat.lt_or_ge i U.length with hc | hc
    · repeat (first | refine SeqS.go cok ?_ | refine And.intro (by omega) ?_ | (refine NatS.keep ?_; first | with_reducible refine NatS.nat ?_) | (refine ValS.keep ?_; first | (with_reducible refine ValS.kI64 ?_; first | (with_reducible refine ValS.addI64_L ?_ ?_ ; omega))) | (refine QuG.keep ?_; first | refine QuG.ar cok 0 rfl rfl rfl rfl rfl rfl (by first | omega | (simp; done) | (simp; omega)) (by first | omega | (simp; done) | (simp; omega)) ?_) | (refine CondS.keep ?_; first | refine CondS.d1 rfl (by omega) ?_ | refine CondS.nd0 rfl (by omega) ?_))
      exact ⟨i + 1, ⟨rfl, by omega, by omega, rfl, rfl, rfl, rfl, rfl, trivial⟩, by show U.length - (i + 1) < U.length - i; omega⟩
    · repeat (first | refine SeqS.go cok ?_ | (refine CondS.keep ?_; first | refine CondS.d0 rfl (by omega) ?_))
      exact ⟨rfl, rfl, rfl, rfl, rfl, trivial⟩
end Go.Proofs.YgvafwGreat
