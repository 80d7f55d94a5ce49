import Derived.Test.YgvafwGreatD8
set_option maxRecDepth 100000
set_option maxHeartbeats 4000000
set_option linter.unusedVariables false
set_option linter.unusedSimpArgs false
-- v2
-- v3
namespace Go.Proofs.YgvafwGreat
open Go.HL Go.Proofs

theorem updN_seg0 {c : Nat → Value} {L W : List Value} {j : Nat} (hj : j + W.length ≤ L.length) : updN (updN c 0 L) j W = updN c 0 (L.take j ++ W ++ L.drop (j + W.length)) := by
  have hlen : (L.take j ++ W ++ L.drop (j + W.length)).length = L.length := by simp; omega
  funext k
  simp only [updN, hlen, Nat.zero_add, Nat.sub_zero, Nat.zero_le, true_and]
  by_cases h1 : j ≤ k ∧ k < j + W.length
  · rw [if_pos h1, if_pos (by omega)]
    simp only [List.getD_eq_getElem?_getD, List.getElem?_append, List.length_append, List.length_take]
    rw [if_pos (by omega), if_neg (by omega), Nat.min_eq_left (by omega)]
  · rw [if_neg h1]
    by_cases h2 : k < L.length
    · rw [if_pos h2, if_pos h2]
      simp only [List.getD_eq_getElem?_getD, List.getElem?_append, List.length_append, List.length_take, List.getElem?_take, List.getElem?_drop]
      by_cases h3 : k < j
      · rw [if_pos (by omega), if_pos (by omega), if_pos h3]
      · rw [if_neg (by omega), Nat.min_eq_left (by omega), show j + W.length + (k - (j + W.length)) = k by omega]
    · rw [if_neg h2, if_neg h2]
theorem ivs_take (k : IntKind) (ds : List Nat) (j : Nat) : (ivs k ds).take j = ivs k (ds.take j) := by simp [ivs, List.map_take]
theorem ivs_drop (k : IntKind) (ds : List Nat) (j : Nat) : (ivs k ds).drop j = ivs k (ds.drop j) := by simp [ivs, List.map_drop]
theorem ivs_append (k : IntKind) (a b : List Nat) : ivs k a ++ ivs k b = ivs k (a ++ b) := by simp [ivs]
theorem seg_set {c : Nat → Value} {U W : List Nat} {j : Nat} (hj : j + W.length ≤ U.length) : updN (updN c 0 (ivs .u64 U)) j (ivs .u64 W) = updN c 0 (ivs .u64 (U.take j ++ W ++ U.drop (j + W.length))) := by
  rw [updN_seg0 (by simpa using hj), ivs_length, ivs_take, ivs_drop, ivs_append, ivs_append]
theorem seg_self {c : Nat → Value} {U : List Nat} {j m : Nat} (hj : j + m ≤ U.length) : updN (updN c 0 (ivs .u64 U)) j (ivs .u64 ((U.drop j).take m)) = updN c 0 (ivs .u64 U) := by
  have hl : ((U.drop j).take m).length = m := by simp; omega
  rw [seg_set (by rw [hl]; exact hj), hl]
  congr 2
  rw [← List.drop_drop, List.append_assoc, List.take_append_drop, List.take_append_drop]

theorem KD.mk' {U V : List Nat} {n j : Nat} (hU : Lim U) (hV : Lim V) (hl : U.length = 9) (hvl : V.length = 4) (hn : 2 ≤ n) (hn4 : n ≤ 4) (hj : j + n ≤ 8) (ht : 9223372036854775808 ≤ V.getD (n - 1) 0) (hlt : lv ((U.drop (j + 1)).take n) < lv (V.take n)) : KD ((U.drop j).take (n + 1)) (V.take n) n := by
  refine ⟨lim_take (fun d hd => hU d (List.mem_of_mem_drop hd)) _, lim_take hV _, by simp; omega, by simp; omega, hn, ?_, ?_⟩
  · rw [List.getD_eq_getElem?_getD, List.getElem?_take, if_pos (by omega), ← List.getD_eq_getElem?_getD]; exact ht
  · have e : (U.drop j).take (n + 1) = U.getD j 0 :: (U.drop (j + 1)).take n := by
      rw [List.drop_eq_getElem_cons (by omega), List.take_succ_cons, List.getD_eq_getElem?_getD, List.getElem?_eq_getElem (by omega)]; rfl
    have := getD_lim hU j
    rw [e]; simp only [lv]; omega

theorem _root_.Go.HL.ValS.slE {b o h m z l : Nat} {q : Value → Prop} (x y : Nat) (hl : l < m) (h1 : h - l = x) (h2 : m - l = y) (hq : q (.slice (some ⟨b, addS o (mulS l z), none⟩) x y)) : ValS (.slice (some ⟨b, if m = l then o else addS o (mulS l z), none⟩) (h - l) (m - l)) q := ValS.slN hl (by rw [h1, h2]; exact hq)
/-- u256.Round -/
theorem Round_spec {I : Ent → Prop} {G : List Ent} {bu bv n j v0 v1 v2 v3 : Nat} {Tu Tv : TypeId} {cu cv : Nat → Value} {U : List Nat} (hU : Lim U) (hV : Lim [v0, v1, v2, v3]) (hl : U.length = 9) (hn : 2 ≤ n) (hn4 : n ≤ 4) (hj : j + n ≤ 8) (hnl : nlimbs v0 v1 v2 v3 = n)
    (ht : 9223372036854775808 ≤ [v0, v1, v2, v3].getD (n - 1) 0) (hz : ∀ i, j + n < i → U.getD i 0 = 0) (hlt : lv ((U.drop (j + 1)).take n) < lv ([v0, v1, v2, v3].take n)) :
    CallG Hvaf.prog 431 #[ptr bu 0, ptr bv 0, .int .u8 (n : Nat), .int .u8 (j : Nat)] ⟨I, ⟨bu, 9, Tu, updN cu 0 (ivs .u64 U)⟩ :: ⟨bv, 4, Tv, updN cv 0 (ivs .u64 [v0, v1, v2, v3])⟩ :: G⟩ fun r S' =>
      ∃ R f b, S' = ⟨I, ⟨bu, 9, Tu, updN cu 0 (ivs .u64 (U.take j ++ R ++ U.drop (j + (n + 1))))⟩ :: ⟨bv, 4, Tv, updN cv 0 (ivs .u64 [v0, v1, v2, v3])⟩ :: G⟩ ∧ R.length = n + 1 ∧ Lim R ∧ lv R = lv ((U.drop j).take (n + 1)) % lv ([v0, v1, v2, v3].take n) ∧ f < 256 ∧
        r = .tuple #[.int .u64 (lv ((U.drop j).take (n + 1)) / lv ([v0, v1, v2, v3].take n) : Nat), .int .u8 (f : Nat), .bool b] := by
  have hdm := DivMid_spec (I := I) (G := G) (bu := bu) (bv := bv) (Tu := Tu) (Tv := Tv) (cu := cu) (cv := cv) hU hV hl hn hn4 hj hnl ht hz hlt
  have hkd := KD.mk' hU hV hl rfl hn hn4 hj ht hlt
  have hlU : ((U.drop j).take (n + 1)).length = n + 1 := hkd.len
  have hlV : ([v0, v1, v2, v3].take n).length = n := hkd.lenv
  have hrd := round_spec (I := I) (G := G) (bu := bu) (su := 9) (ou := j) (pu := n + 1) (bv := bv) (sv := 4) (ov := 0) (pv := n) (Tu := Tu) (Tv := Tv) (cu := updN cu 0 (ivs .u64 U)) (cv := updN cv 0 (ivs .u64 [v0, v1, v2, v3])) hkd (by omega) (by rw [hlU]; omega) (by rw [hlV]; omega)
  have hsv : updN (updN cv 0 (ivs .u64 [v0, v1, v2, v3])) 0 (ivs .u64 ([v0, v1, v2, v3].take n)) = updN cv 0 (ivs .u64 [v0, v1, v2, v3]) := seg_self (U := [v0, v1, v2, v3]) (j := 0) (m := n) (by show 0 + n ≤ 4; omega)
  rw [hlU, hlV, seg_self (by omega), hsv] at hrd
  replace ht : Hid _ := ⟨ht⟩
  replace hlt : Hid _ := ⟨hlt⟩
  refine CallG.start (C := mkC Hvaf.prog) cok (args := [ptr bu 0, ptr bv 0, .int .u8 (n : Nat), .int .u8 (j : Nat)]) Hvaf.func431 rfl Hvaf.ntmps431 (by simp) (by kernel_rfl) ?_
  repeat (first | refine SeqS.go cok ?_)
  refine hdm.mono ?_
  rintro r _ - ⟨rfl, rfl⟩
  repeat (first | (refine ValS.keep ?_; with_reducible refine ValS.slE (n + 1) (n + 1) ?_ ?_ ?_ ?_; omega; omega; omega) | refine SeqS.go cok ?_ | refine CondS.f rfl ?_ | refine And.intro (Eq.refl true) ?_ | refine And.intro (by omega) ?_ | refine And.intro (by dsimp only; omega) ?_ | (refine NatS.keep ?_; first | with_reducible refine NatS.nat ?_) | (refine ValS.keep ?_; first | (with_reducible refine ValS.kU8 ?_; first | (with_reducible refine ValS.addU8_L ?_ ?_ ; omega) | (with_reducible refine ValS.addU8 ?_ ?_ ; omega)) | with_reducible refine ValS.sl0 ?_) | refine W.drawI 3 cok [0, 1, 0, 0, 0, 24, 56, 0, 0, 384, 896, 2047, 0, 4096, 0, 0, 61440, 131071, 262143, 262143, 262143, 2097151, 4194303, 8388607] [0, 1, 2, 3, 4, 5, 6, 7, 8, 9, 10, 11, 12, 13, 14, 15, 16, 17, 18, 19, 20, 21, 22, 23] [] (by kernel_rfl) (by kernel_rfl) ?_)
  refine hrd.mono ?_
  rintro r _ - ⟨R, f, b, rfl, l1, m1, e1, hf, rfl⟩
  repeat (first | refine SeqS.go cok ?_)
  have hst := seg_set (c := cu) (U := U) (W := R) (j := j) (by rw [l1]; omega)
  rw [l1] at hst
  exact Fin.same ⟨R, f, b, by rw [← hst], l1, m1, e1, hf, rfl⟩
end Go.Proofs.YgvafwGreat
