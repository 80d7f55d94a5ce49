import Derived.Test.YgvafwGreatE1
import Derived.Test.YgvafwGreatHV
import Derived.Test.YgvafwGreatU2
import Derived.Test.YgvafwGreatP2
set_option exponentiation.threshold 1000
set_option maxRecDepth 100000
set_option maxHeartbeats 4000000
set_option linter.unusedVariables false
set_option linter.unusedSimpArgs false
-- v2
-- v4
-- v5
-- v6
-- v7
-- still: exact QuV.of (QuG.cell cok h1 hx rfl rfl rfl rfl rfl (Nat.le_of_ble_eq_true rfl) (by omega) rfl)
-- still: exact QuV.of (QuG.cell cok h2 hx rfl rfl rfl rfl rfl (Nat.le_of_ble_eq_true rfl) (by omega) rfl)
-- still: exact QuV.of (QuG.rowE cok w1 hx rfl rfl rfl rfl rfl rfl (by show _ + 4 ≤ _; omega) rfl)
-- still: exact QuV.of (QuG.rowE cok w2 hx rfl rfl rfl rfl rfl rfl (by show _ + 4 ≤ _; omega) rfl)
-- plus: (refine QuG.keep ?_; fail "none")
namespace Go.Proofs.YgvafwGreat
open Go.HL Go.Proofs

/-- A key to sort by. -/
structure SK where
  rk : Nat
  w : Nat
  at_ : Nat
def SK.enc (x : SK) : List Value := .int .i32 (x.rk : Nat) :: (wcs x.w ++ [.int .i32 (x.at_ : Nat)])
def leK (a b : SK) : Bool := decide (a.w ≤ b.w)
theorem SK.len (x : SK) : x.enc.length = 6 := rfl
theorem vBefore0 {I : Ent → Prop} {G : List Ent} {x : Ent} {o1 o2 aw bw aa ba : Nat} (hx : Rd ⟨I, G⟩ x) (h1 : Row x.c o1 (SK.enc ⟨0, aw, aa⟩)) (h2 : Row x.c o2 (SK.enc ⟨0, bw, ba⟩)) (f1 : o1 + 6 ≤ x.sz) (f2 : o2 + 6 ≤ x.sz) (ha : aw < 115792089237316195423570985008687907853269984665640564039457584007913129639936) (hb : bw < 115792089237316195423570985008687907853269984665640564039457584007913129639936) :
    CallG Hvaf.prog 248 #[ptr x.b o1, ptr x.b o2] ⟨I, G⟩ fun r S' => ⟨I, G⟩ = S' ∧ r = .bool (decide (aw < bw)) := by
  have w1 : Row x.c (o1 + 1) (wcs aw) := ⟨fun i hi => by
    have hi : i < 4 := hi
    have := h1.get (1 + i) (by show 1 + i < 6; omega)
    rw [← Nat.add_assoc] at this
    rw [this]
    have : i = 0 ∨ i = 1 ∨ i = 2 ∨ i = 3 := by omega
    rcases this with rfl | rfl | rfl | rfl <;> rfl⟩
  have w2 : Row x.c (o2 + 1) (wcs bw) := ⟨fun i hi => by
    have hi : i < 4 := hi
    have := h2.get (1 + i) (by show 1 + i < 6; omega)
    rw [← Nat.add_assoc] at this
    rw [this]
    have : i = 0 ∨ i = 1 ∨ i = 2 ∨ i = 3 := by omega
    rcases this with rfl | rfl | rfl | rfl <;> rfl⟩
  have hlt := fun S => ULt_spec (S := S) ha hb
  refine CallG.start (C := mkC Hvaf.prog) cok (args := [ptr x.b o1, ptr x.b o2]) Hvaf.func248 rfl Hvaf.ntmps248 (by simp) (by kernel_rfl) ?_
  repeat (first | (refine QuG.keep ?_; first | refine QuG.cell cok h1 hx rfl rfl rfl rfl rfl (Nat.le_of_ble_eq_true rfl) (by omega) ?_ | refine QuG.cell cok h2 hx rfl rfl rfl rfl rfl (Nat.le_of_ble_eq_true rfl) (by omega) ?_ | refine QuG.rowE cok w1 hx rfl rfl rfl rfl rfl rfl (by show _ + 4 ≤ _; omega) ?_ | refine QuG.rowE cok w2 hx rfl rfl rfl rfl rfl rfl (by show _ + 4 ≤ _; omega) ?_) | refine SeqS.go cok ?_ | refine GuardS.yes rfl ?_ | refine W.drawI 1 cok [0, 1, 3, 7, 0, 16, 48, 112, 255, 511, 1023, 2047, 4095, 8191, 1023, 17407, 50175, 115711, 262143, 524287, 1048575, 2097151, 4194303, 8388607, 1048575, 17825791, 51380223, 118489087, 268435455, 536870911, 1073741823, 2147483647] [0, 1, 2, 3, 4, 5, 6, 7, 8, 9, 10, 11, 12, 13, 14, 15, 16, 17, 18, 19, 20, 21, 22, 23, 24, 25, 26, 27, 28, 29, 30, 31] [3, 7, 13, 17, 23, 27] (by kernel_rfl) (by kernel_rfl) ?_)
  refine (hlt _).mono ?_
  rintro r _ - ⟨rfl, rfl⟩
  repeat (first | refine SeqS.go cok ?_ | refine GuardS.yes rfl ?_ | (refine still_in ?_; first | refine still_drop (by decide) ?_))
  exact Fin.same ⟨rfl, rfl⟩
theorem vBefore1 {I : Ent → Prop} {G : List Ent} {x : Ent} {o1 o2 aw bw aa ba : Nat} (hx : Rd ⟨I, G⟩ x) (h1 : Row x.c o1 (SK.enc ⟨1, aw, aa⟩)) (h2 : Row x.c o2 (SK.enc ⟨1, bw, ba⟩)) (f1 : o1 + 6 ≤ x.sz) (f2 : o2 + 6 ≤ x.sz) (ha : aw < 115792089237316195423570985008687907853269984665640564039457584007913129639936) (hb : bw < 115792089237316195423570985008687907853269984665640564039457584007913129639936) :
    CallG Hvaf.prog 248 #[ptr x.b o1, ptr x.b o2] ⟨I, G⟩ fun r S' => ⟨I, G⟩ = S' ∧ r = .bool (decide (aw < bw)) := by
  have w1 : Row x.c (o1 + 1) (wcs aw) := ⟨fun i hi => by
    have hi : i < 4 := hi
    have := h1.get (1 + i) (by show 1 + i < 6; omega)
    rw [← Nat.add_assoc] at this
    rw [this]
    have : i = 0 ∨ i = 1 ∨ i = 2 ∨ i = 3 := by omega
    rcases this with rfl | rfl | rfl | rfl <;> rfl⟩
  have w2 : Row x.c (o2 + 1) (wcs bw) := ⟨fun i hi => by
    have hi : i < 4 := hi
    have := h2.get (1 + i) (by show 1 + i < 6; omega)
    rw [← Nat.add_assoc] at this
    rw [this]
    have : i = 0 ∨ i = 1 ∨ i = 2 ∨ i = 3 := by omega
    rcases this with rfl | rfl | rfl | rfl <;> rfl⟩
  have hlt := fun S => ULt_spec (S := S) ha hb
  refine CallG.start (C := mkC Hvaf.prog) cok (args := [ptr x.b o1, ptr x.b o2]) Hvaf.func248 rfl Hvaf.ntmps248 (by simp) (by kernel_rfl) ?_
  repeat (first | (refine QuG.keep ?_; first | refine QuG.cell cok h1 hx rfl rfl rfl rfl rfl (Nat.le_of_ble_eq_true rfl) (by omega) ?_ | refine QuG.cell cok h2 hx rfl rfl rfl rfl rfl (Nat.le_of_ble_eq_true rfl) (by omega) ?_ | refine QuG.rowE cok w1 hx rfl rfl rfl rfl rfl rfl (by show _ + 4 ≤ _; omega) ?_ | refine QuG.rowE cok w2 hx rfl rfl rfl rfl rfl rfl (by show _ + 4 ≤ _; omega) ?_) | refine SeqS.go cok ?_ | refine GuardS.yes rfl ?_ | refine W.drawI 1 cok [0, 1, 3, 7, 0, 16, 48, 112, 255, 511, 1023, 2047, 4095, 8191, 1023, 17407, 50175, 115711, 262143, 524287, 1048575, 2097151, 4194303, 8388607, 1048575, 17825791, 51380223, 118489087, 268435455, 536870911, 1073741823, 2147483647] [0, 1, 2, 3, 4, 5, 6, 7, 8, 9, 10, 11, 12, 13, 14, 15, 16, 17, 18, 19, 20, 21, 22, 23, 24, 25, 26, 27, 28, 29, 30, 31] [3, 7, 13, 17, 23, 27] (by kernel_rfl) (by kernel_rfl) ?_)
  refine (hlt _).mono ?_
  rintro r _ - ⟨rfl, rfl⟩
  repeat (first | refine SeqS.go cok ?_ | refine GuardS.yes rfl ?_ | (refine still_in ?_; first | refine still_drop (by decide) ?_))
  exact Fin.same ⟨rfl, rfl⟩
/-- vault.sortKey.before, the ranks equal -/
theorem vBefore {I : Ent → Prop} {G : List Ent} {x : Ent} {o1 o2 rk : Nat} {a b : SK} (hx : Rd ⟨I, G⟩ x) (h1 : Row x.c o1 a.enc) (h2 : Row x.c o2 b.enc) (f1 : o1 + 6 ≤ x.sz) (f2 : o2 + 6 ≤ x.sz) (hr : a.rk = rk) (hr2 : b.rk = rk) (hrk : rk = 0 ∨ rk = 1) (ha : a.w < 115792089237316195423570985008687907853269984665640564039457584007913129639936) (hb : b.w < 115792089237316195423570985008687907853269984665640564039457584007913129639936) :
    CallG Hvaf.prog 248 #[ptr x.b o1, ptr x.b o2] ⟨I, G⟩ fun r S' => ⟨I, G⟩ = S' ∧ r = .bool (decide (a.w < b.w)) := by
  obtain ⟨ar, aw, aa⟩ := a
  obtain ⟨br, bw, ba⟩ := b
  dsimp only at hr hr2
  subst hr
  subst hr2
  rcases hrk with rfl | rfl
  · exact vBefore0 hx h1 h2 f1 f2 ha hb
  · exact vBefore1 hx h1 h2 f1 f2 ha hb
abbrev dK : SK := ⟨0, 0, 0⟩
theorem dropK {l : List SK} {i : Nat} (h : i < l.length) : l.drop i = l.getD i dK :: l.drop (i + 1) := by
  rw [List.drop_eq_getElem_cons h, List.getD_eq_getElem?_getD, List.getElem?_eq_getElem h]; rfl
theorem mergeA {A B : List SK} {i j : Nat} (hi : i < A.length) (h : B.length ≤ j ∨ (j < B.length ∧ ¬ (B.getD j dK).w < (A.getD i dK).w)) : List.merge (A.drop i) (B.drop j) leK = A.getD i dK :: List.merge (A.drop (i + 1)) (B.drop j) leK := by
  rcases h with h | ⟨h, hn⟩
  · rw [List.drop_eq_nil_of_le h, List.merge_right, List.merge_right, dropK hi]
  · rw [dropK hi, dropK h, List.cons_merge_cons, if_pos (by unfold leK; exact decide_eq_true (by omega))]
theorem mergeB {A B : List SK} {i j : Nat} (hj : j < B.length) (h : A.length ≤ i ∨ (i < A.length ∧ (B.getD j dK).w < (A.getD i dK).w)) : List.merge (A.drop i) (B.drop j) leK = B.getD j dK :: List.merge (A.drop i) (B.drop (j + 1)) leK := by
  rcases h with h | ⟨h, hn⟩
  · rw [List.drop_eq_nil_of_le h, List.nil_merge, List.nil_merge, dropK hj]
  · rw [dropK hj, dropK h, List.cons_merge_cons, if_neg (by unfold leK; rw [decide_eq_true_eq]; omega)]
theorem row_snocO {c : Nat → Value} {k i o : Nat} {ms : List (List Value)} {m : List Value} (hr : Row c o ms.flatten) (hl : ∀ l ∈ ms, l.length = k) (hi : ms.length = i) : Row (HL.updN c (o + i * k) m) o (ms ++ [m]).flatten := by
  have hf : ms.flatten.length = i * k := by rw [flat_len hl, hi]
  have he : (ms ++ [m]).flatten = ms.flatten ++ m := by simp
  rw [he]
  refine ⟨fun p hp => ?_⟩
  rw [List.length_append, hf] at hp
  simp only [HL.updN]
  by_cases h : p < i * k
  · rw [if_neg (by omega), List.getD_eq_getElem?_getD, List.getElem?_append_left (by omega), ← List.getD_eq_getElem?_getD]
    exact hr.get p (by omega)
  · rw [if_pos (by omega), List.getD_eq_getElem?_getD, List.getD_eq_getElem?_getD, List.getElem?_append_right (by omega), hf, show o + p - (o + i * k) = p - i * k by omega]
theorem SK.one (x : SK) : ∀ u ∈ x.enc, HL.one u = true := by
  intro u hu
  simp only [SK.enc, wcs, List.mem_append, List.mem_cons, List.not_mem_nil, or_false] at hu
  rcases hu with rfl | (rfl | rfl | rfl | rfl) | rfl <;> rfl
theorem elO0 {o i k : Nat} : addS o (mulS i k) = o + i * k + 0 := by simp only [addS_eq, mulS_eq, Nat.add_zero]
theorem mapK_get {A : List SK} {i : Nat} (h : i < A.length) : (((A.map SK.enc).getD i []).drop 0).take 6 = (A.getD i dK).enc := by
  rw [List.getD_eq_getElem?_getD, List.getElem?_map, List.getElem?_eq_getElem h, List.getD_eq_getElem?_getD, List.getElem?_eq_getElem h]; rfl
theorem els_row {x : Ent} {o i : Nat} {A : List SK} (hE : Els x o 6 (A.map SK.enc)) (h : i < A.length) : Row x.c (addS o (mulS i 6)) (A.getD i dK).enc ∧ addS o (mulS i 6) + 6 ≤ x.sz := by
  obtain ⟨r1, r2, r3⟩ := hE.at (i := i) (by rw [List.length_map]; exact h)
  rw [addS_eq, mulS_eq]
  have e : (A.map SK.enc).getD i [] = (A.getD i dK).enc := by
    rw [List.getD_eq_getElem?_getD, List.getElem?_map, List.getElem?_eq_getElem h, List.getD_eq_getElem?_getD, List.getElem?_eq_getElem h]; rfl
  rw [e] at r1
  exact ⟨r1, r3⟩
end Go.Proofs.YgvafwGreat
