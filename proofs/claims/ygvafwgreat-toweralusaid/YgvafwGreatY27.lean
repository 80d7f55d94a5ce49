import Derived.Test.YgvafwGreatY25
import Derived.Test.YgvafwGreatU16
set_option maxRecDepth 100000
set_option maxHeartbeats 4000000
set_option linter.unusedVariables false
set_option linter.unusedSimpArgs false
-- v2
-- v4
-- v5
-- v6
namespace Go.Proofs.YgvafwGreat
open Go.HL Go.Proofs

theorem norm_len {ds : List Nat} (h8 : ∀ d ∈ ds, d < 256) (hn : Norm ds) : ds.length = (blen (val ds) + 7) / 8 := by
  have hlt := val_lt ds h8
  rw [show (256 : Nat) ^ ds.length = 2 ^ (8 * ds.length) by rw [Nat.pow_mul]] at hlt
  have h1 := blen_le hlt
  rcases hn with rfl | h0
  · have : blen (val []) = 0 := by simp [val, blen]
    rw [this]; rfl
  · have hpos : 0 < ds.length := by
      rcases Nat.eq_zero_or_pos ds.length with h | h
      · rw [List.length_eq_zero_iff.1 h] at h0; simp at h0
      · exact h
    have h2 := getD_le_val ds (ds.length - 1)
    have h3 : 256 ^ (ds.length - 1) * 1 ≤ 256 ^ (ds.length - 1) * ds.getD (ds.length - 1) 0 := Nat.mul_le_mul_left _ (Nat.pos_of_ne_zero h0)
    have h4 : 2 ^ (8 * (ds.length - 1)) ≤ val ds := by
      rw [Nat.pow_mul, show (2 : Nat) ^ 8 = 256 from rfl]; omega
    have h5 := blen_lt (val ds)
    have h6 : 8 * (ds.length - 1) < blen (val ds) := by
      rcases Nat.lt_or_ge (8 * (ds.length - 1)) (blen (val ds)) with h | h
      · exact h
      · have := Nat.pow_le_pow_right (n := 2) (by decide) h
        omega
    omega
/-- yp.ExpCost -/
theorem yExpCost {I : Ent → Prop} {G : List Ent} {v : Value} {n : Nat} (hN : NatI I v n) :
    CallG Hvaf.prog 341 #[v] ⟨I, G⟩ fun r S' => S'.G = G ∧ NatI S'.I r (10 + 50 * ((blen n + 7) / 8)) := by
  have hb80 : (blen n + 7) / 8 ≤ 80 := by
    obtain ⟨ds, a, b, rfl, d⟩ := hN
    rw [← norm_len a.1 b]; exact d
  refine CallG.start (C := mkC Hvaf.prog) cok (args := [v]) Hvaf.func341 rfl Hvaf.ntmps341 (by simp) (by kernel_rfl) ?_
  repeat (first | refine SeqS.go cok ?_)
  refine callN (yNum (n := 10) (by decide)) ?_
  intro rhN1 I hshN1 hN1
  try replace hN := hN.up hshN1
  skip
  refine callN (yNum (n := 50) (by decide)) ?_
  intro rhN2 I hshN2 hN2
  try replace hN := hN.up hshN2
  try replace hN1 := hN1.up hshN2
  skip
  refine callN (nNorm hN) ?_
  intro r3 I hs3 hN3
  replace hN1 := hN1.up hs3
  replace hN2 := hN2.up hs3
  obtain ⟨ds, p1, p2, p3, p4⟩ := hN3
  obtain ⟨ad, cap, rfl, q1, q2, q3⟩ := p1.form
  have hdl := norm_len p1.1 p2
  rw [p3] at hdl
  have hd2 : ds.length ≤ 80 := p4
  repeat (first | (refine ValS.keep ?_; first | (with_reducible refine ValS.kU64 ?_; first | (with_reducible refine ValS.convU64 ?_ ?_ ; omega))))
  refine callN (yNum (n := ds.length) (by omega)) ?_
  intro rhN4 I hshN4 hN4
  try replace hN := hN.up hshN4
  try replace hN1 := hN1.up hshN4
  try replace hN2 := hN2.up hshN4
  skip
  refine callN (nMul hN2 hN4 (Nat.lt_of_lt_of_le (show 50 * ds.length < 2 ^ 20 by omega) (by decide +kernel))) ?_
  intro rhN5 I hshN5 hN5
  try replace hN := hN.up hshN5
  try replace hN1 := hN1.up hshN5
  try replace hN2 := hN2.up hshN5
  try replace hN4 := hN4.up hshN5
  skip
  refine callN (nAdd hN1 hN5 (Nat.lt_of_lt_of_le (show 10 + 50 * ds.length < 2 ^ 20 by omega) (by decide +kernel))) ?_
  intro rhN6 I hshN6 hN6
  try replace hN := hN.up hshN6
  try replace hN1 := hN1.up hshN6
  try replace hN2 := hN2.up hshN6
  try replace hN4 := hN4.up hshN6
  try replace hN5 := hN5.up hshN6
  repeat (first | refine SeqS.go cok ?_)
  exact Fin.same ⟨rfl, by rw [← hdl]; exact hN6⟩
end Go.Proofs.YgvafwGreat
