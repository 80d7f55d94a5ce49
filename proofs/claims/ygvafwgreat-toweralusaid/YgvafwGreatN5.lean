import Derived.Test.YgvafwGreatN4
import Derived.Test.YgvafwGreatV28
import Derived.Test.YgvafwGreatY92
import Derived.Test.YgvafwGreatR2
set_option exponentiation.threshold 1000
set_option maxRecDepth 100000
set_option maxHeartbeats 4000000
set_option linter.unusedVariables false
set_option linter.unusedSimpArgs false
-- v2
namespace Go.Proofs.YgvafwGreat
open Go.HL Go.Proofs

/-- The accounts at a transaction's end. -/
theorem put_240 (code : List Nat) (ss : List (Nat × Nat)) : putA { getA (alN code ss) (adNo 240) with bal := 2 ^ 128 } (alN code ss) = alN code ss := rfl
theorem put_192 (code : List Nat) (ss : List (Nat × Nat)) : putA { getA (alN code ss) (adNo 192) with bal := 0 } (alN code ss) = alN code ss := rfl
/-- The world that both sides give. -/
def wlE (code : List Nat) (ss : List (Nat × Nat)) : List OA := [⟨adNo 1, 1, be32 0, code, ss.map fun p => (be32 p.1, be32 p.2)⟩, ⟨adNo 240, 1, be32 (2 ^ 128), [], []⟩]
theorem exY_E (code : List Nat) (ss : List (Nat × Nat)) : exY (alN code ss) = wlE code ss := rfl
theorem pw_mono {L : List SK} (h : L.Pairwise fun a b => leK a b = true) : (L.map SK.w).Pairwise (· ≤ ·) := by
  rw [List.pairwise_map]
  exact h.imp fun h => of_decide_eq_true h
theorem skN_nodup {sl : List VSl} (hn : (sl.map VSl.key).Nodup) : ∀ i, i ≤ sl.length → ((skN sl i).map SK.at_).Nodup
  | 0, _ => by simp [skN]
  | i + 1, h => by
    have ih := skN_nodup hn i (by omega)
    rw [skN, List.map_append, List.nodup_append]
    refine ⟨ih, ?_, ?_⟩
    · split <;> simp
    · intro a ha b hb
      obtain ⟨x, hx, rfl⟩ := List.mem_map.1 ha
      have := (skN_mem hx).2.1
      split at hb
      · cases hb
      · simp at hb; omega
theorem skN_has {sl : List VSl} {j : Nat} : ∀ i, j < i → (sl.getD j dVS).val ≠ 0 → (⟨1, (sl.getD j dVS).key, j⟩ : SK) ∈ skN sl i
  | 0, h, _ => absurd h (Nat.not_lt_zero _)
  | i + 1, h, hv => by
    rw [skN]
    by_cases hj : j = i
    · subst hj
      rw [if_neg hv]
      exact List.mem_append_right _ (List.mem_singleton_self _)
    · exact List.mem_append_left _ (skN_has i (by omega) hv)
/-- Two lists in strict order with the same entries are equal. -/
theorem srt_ext {A B : List (Nat × Nat)} (hA : A.Pairwise fun a b => a.1 < b.1) (hB : B.Pairwise fun a b => a.1 < b.1) (h : ∀ x, x ∈ A ↔ x ∈ B) : A = B := by
  have nA : A.Nodup := hA.imp fun h e => by rw [e] at h; exact absurd h (Nat.lt_irrefl _)
  have nB : B.Nodup := hB.imp fun h e => by rw [e] at h; exact absurd h (Nat.lt_irrefl _)
  refine List.Perm.eq_of_pairwise (le := fun a b => a.1 < b.1) (fun a b _ _ h1 h2 => absurd (Nat.lt_trans h1 h2) (Nat.lt_irrefl _)) hA hB ((List.perm_ext_iff_of_nodup nA nB).2 h)
theorem loadS_mem {ss : List (Nat × Nat)} (h : ss.Pairwise fun a b => a.1 < b.1) : ∀ {k v : Nat}, (k, v) ∈ ss → loadS ss k = v := by
  induction ss with
  | nil => intro k v hm; cases hm
  | cons s l ih =>
    obtain ⟨h1, h2⟩ := List.pairwise_cons.1 h
    intro k v hm
    rcases List.mem_cons.1 hm with rfl | hm
    · simp [loadS]
    · have hlt := h1 _ hm
      have hne : (s.1 == k) = false := beq_eq_false_iff_ne.2 (by have : s.1 < k := hlt; omega)
      have := ih h2 hm
      unfold loadS at this ⊢
      rw [List.find?_cons, hne]; exact this
theorem loadS_in {ss : List (Nat × Nat)} {k : Nat} (h : loadS ss k ≠ 0) : (k, loadS ss k) ∈ ss := by
  unfold loadS at h ⊢
  cases hf : ss.find? fun s => s.1 == k with
  | none => rw [hf] at h; exact absurd rfl h
  | some s =>
    have h1 := List.find?_some hf
    have h2 := List.mem_of_find?_eq_some hf
    have e : s.1 = k := by simpa using h1
    show (k, s.2) ∈ ss
    rw [← e]; exact h2
/-- The slots in the order of the keys are those of the specification. -/
theorem kv_eq {sl : List VSl} {ss : List (Nat × Nat)} {L : List SK} (hS : SsOk ss) (hn : (sl.map VSl.key).Nodup) (hld : ∀ j, j < sl.length → loadS ss (sl.getD j dVS).key = (sl.getD j dVS).val) (hal : ∀ k, loadS ss k ≠ 0 → ∃ j, j < sl.length ∧ (sl.getD j dVS).key = k) (hp : L.Perm (skN sl sl.length)) (hw : L.Pairwise fun a b => leK a b = true) : kvL sl L = ss := by
  have hmem : ∀ x ∈ L, x.at_ < sl.length ∧ x.w = (sl.getD x.at_ dVS).key ∧ (sl.getD x.at_ dVS).val ≠ 0 := fun x hx => (skN_mem (hp.mem_iff.1 hx)).2
  have hat : (L.map SK.at_).Nodup := (hp.map SK.at_).nodup_iff.2 (skN_nodup hn _ (Nat.le_refl _))
  refine srt_ext ?_ hS.srt ?_
  · unfold kvL
    rw [List.pairwise_map]
    have hat2 : L.Pairwise fun a b => a.at_ ≠ b.at_ := List.pairwise_map.1 hat
    have h3 := hw.and hat2
    refine h3.imp_of_mem fun {a b} ha hb h => ?_
    have h1 : a.w ≤ b.w := of_decide_eq_true h.1
    obtain ⟨a1, a2, _⟩ := hmem a ha
    obtain ⟨b1, b2, _⟩ := hmem b hb
    have : a.w ≠ b.w := fun e => by
      apply h.2
      rw [a2, b2] at e
      have e2 : (sl.map VSl.key)[a.at_]? = (sl.map VSl.key)[b.at_]? := by
        rw [List.getElem?_map, List.getElem?_map, List.getElem?_eq_getElem a1, List.getElem?_eq_getElem b1]
        rw [List.getD_eq_getElem?_getD, List.getD_eq_getElem?_getD, List.getElem?_eq_getElem a1, List.getElem?_eq_getElem b1] at e
        exact congrArg some e
      exact (List.getElem?_inj (by rw [List.length_map]; exact a1) hn).1 e2
    show a.w < b.w
    omega
  · intro x
    unfold kvL
    constructor
    · intro hx
      obtain ⟨k, hk, rfl⟩ := List.mem_map.1 hx
      obtain ⟨h1, h2, h3⟩ := hmem k hk
      have h4 := hld k.at_ h1
      rw [← h2] at h4
      rw [← h4] at h3 ⊢
      exact loadS_in h3
    · intro hx
      have h1 := loadS_mem hS.srt (k := x.1) (v := x.2) hx
      have h2 := hS.nz x hx
      obtain ⟨j, hj, hk⟩ := hal x.1 (by rw [h1]; exact h2)
      have h3 := hld j hj
      rw [hk, h1] at h3
      refine List.mem_map.2 ⟨⟨1, (sl.getD j dVS).key, j⟩, hp.mem_iff.2 (skN_has _ hj (by rw [← h3]; exact h2)), ?_⟩
      show ((sl.getD j dVS).key, (sl.getD j dVS).val) = x
      rw [hk, ← h3]
end Go.Proofs.YgvafwGreat
