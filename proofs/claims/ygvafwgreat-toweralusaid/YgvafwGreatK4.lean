import Derived.Test.YgvafwGreatK2
set_option maxRecDepth 100000
set_option maxHeartbeats 8000000
set_option linter.unusedVariables false
set_option linter.unusedSimpArgs false
-- v2
namespace Go.HL
theorem cells_one2 {c : Nat → Value} : ∀ {n o : Nat}, (∀ k, o ≤ k → k < o + n → one (c k) = true) → (cellsFrom c o n).all one = true
  | 0, _, _ => rfl
  | n + 1, o, h => by
    rw [cellsFrom, List.all_cons, h o (Nat.le_refl _) (by omega), cells_one2 (fun k hk hk2 => h k (by omega) (by omega))]; rfl
section
variable {n m o o' : Nat} {c c' : Nat → Value} {A A' B : Nat → Bool}
theorem BB.all (h : BB c n A) (ho : o + m ≤ n) : (cellsFrom c o m).all one = true := cells_one2 fun k h1 h2 => by rw [h.get k (by omega)]; rfl
theorem BB.updN (h' : BB c' n A') (h : BB c m A) {k : Nat} (ho : o + k ≤ m) (hB : ∀ i, i < n → B i = if o' ≤ i ∧ i < o' + k then A (o + (i - o')) else A' i) : BB (HL.updN c' o' (cellsFrom c o k)) n B := by
  refine ⟨fun i hi => ?_⟩
  rw [updN_cellsFrom, hB i hi]
  dsimp only
  split
  · exact h.get _ (by omega)
  · exact h'.get i hi
def aggB (n : Nat) (A : Nat → Bool) : Value := .agg (cellsFrom (fun i => .bool (A i)) 0 n).toArray
theorem BB.agg (h : BB c n A) : Value.agg (cellsFrom c 0 n).toArray = aggB n A := by
  rw [aggB, cellsFrom_congr]
  intro i _ hi
  exact h.get i (by omega)
theorem BB.self (h : BB c n A) : BB (HL.updN c 0 (cellsFrom c 0 n)) n A := ⟨fun i hi => by rw [updN_cellsFrom]; dsimp only; rw [if_pos (by omega)]; rw [h.get _ (by omega)]; congr 2; omega⟩
end
end Go.HL
namespace Go.Proofs.YgvafwGreat
open Go.HL Go.Proofs
def offG (x y : Nat) : Nat → Nat → Nat → Nat → Nat
  | 0, _, _, _ => 0
  | k + 1, t, u, v => if u = x ∧ v = y then (t + 1) * (t + 2) / 2 % 64 else offG x y k (t + 1) v ((2 * u + 3 * v) % 5)
def offN (x y : Nat) : Nat := offG x y 24 0 1 0
theorem offN_lt : ∀ x, x < 5 → ∀ y, y < 5 → offN x y < 64 := by decide +kernel
/-- kmodel.Offset -/
theorem kOffset {S : St} {x y : Nat} (hx : x < 5) (hy : y < 5) : CallG Hvaf.prog 423 #[.int .u8 (x : Nat), .int .u8 (y : Nat)] S fun r S' => S = S' ∧ r = .int .u8 (offN x y : Nat) := by
  have hlt := offN_lt x hx y hy
  refine CallG.start (C := mkC Hvaf.prog) cok (args := [.int .u8 (x : Nat), .int .u8 (y : Nat)]) Hvaf.func423 rfl Hvaf.ntmps423 (by simp) (by kernel_rfl) ?_
  repeat (first | refine SeqS.go cok ?_ | refine GuardS.yes rfl ?_ | (refine GuardS.keep ?_; first | refine GuardS.F0 rfl (by omega) ?_) | (refine CondS.keep ?_; first | refine CondS.d0 rfl (by omega) ?_))
  refine W.loopE cok (by kernel_rfl) 0 (fun (t : Nat) e' S' => ∃ u v, S' = S ∧ t ≤ 24 ∧ u < 5 ∧ v < 5 ∧ offG x y (24 - t) t u v = offN x y ∧ slots [(0, .int .u8 (x : Nat)), (1, .int .u8 (y : Nat)), (5, .int .i64 (u : Nat)), (6, .int .i64 (v : Nat)), (7, .int .i64 (t : Nat))] e') (fun t => 24 - t) 0
    ⟨1, 0, rfl, by decide, by decide, by decide, rfl, rfl, rfl, rfl, rfl, rfl, trivial⟩
    (fun e' S' => S' = S ∧ offN x y = 0) ?_ ?_
  · rintro e' S2 - ⟨rfl, h0⟩
    repeat (first | refine SeqS.go cok ?_)
    exact Fin.same ⟨rfl, by rw [h0]; rfl⟩
  · rintro t e' S2 - ⟨u, v, rfl, ht, hu, hv, hoff, hsl⟩
    refine W.slots _ hsl fun e => ?_
    by_cases ht24 : t < 24
    · rw [show 24 - t = (24 - (t + 1)) + 1 by omega, offG] at hoff
      by_cases hux : u = x
      · subst hux
        by_cases hvy : v = y
        · subst hvy
          rw [if_pos ⟨rfl, rfl⟩] at hoff
          have hm : (t + 1) * (t + 2) ≤ 25 * 26 := Nat.mul_le_mul (by omega) (by omega)
          repeat (first | refine SeqS.go cok ?_ | refine GuardS.yes rfl ?_ | refine And.intro (by omega) ?_ | (refine ValS.keep ?_; first | (with_reducible refine ValS.kI64 ?_; first | (with_reducible refine ValS.convI64 ?_ ?_ ; omega) | (with_reducible refine ValS.addI64_L ?_ ?_ ; omega) | (with_reducible refine ValS.mulI64 ?_ ?_ ; omega) | (with_reducible refine ValS.quoI64_L ?_ ?_ ; omega) | with_reducible refine ValS.remN_L ?_) | (with_reducible refine ValS.kU8 ?_; first | (with_reducible refine ValS.convU8 ?_ ?_ ; omega))) | (refine GuardS.keep ?_; first | refine GuardS.T1 rfl (by omega) ?_) | (refine CondS.keep ?_; first | refine CondS.d1 rfl (by omega) ?_))
          exact Fin.same ⟨rfl, by rw [← hoff]; rfl⟩
        · rw [if_neg (by omega)] at hoff
          repeat (first | refine SeqS.go cok ?_ | refine GuardS.yes rfl ?_ | refine And.intro (by omega) ?_ | (refine ValS.keep ?_; first | (with_reducible refine ValS.kI64 ?_; first | (with_reducible refine ValS.convI64 ?_ ?_ ; omega) | (with_reducible refine ValS.addI64_L ?_ ?_ ; omega) | (with_reducible refine ValS.addI64 ?_ ?_ ; omega) | (with_reducible refine ValS.mulI64_M ?_ ?_ ; omega) | with_reducible refine ValS.remN_L ?_)) | (refine GuardS.keep ?_; first | refine GuardS.T1 rfl (by omega) ?_) | (refine CondS.keep ?_; first | refine CondS.d1 rfl (by omega) ?_ | refine CondS.d0 rfl (by omega) ?_))
          exact ⟨t + 1, ⟨v, _, rfl, ht24, hv, Nat.mod_lt _ (by decide), hoff, rfl, rfl, rfl, rfl, rfl, trivial⟩, by show 24 - (t + 1) < 24 - t; omega⟩
      · rw [if_neg (by omega)] at hoff
        repeat (first | refine SeqS.go cok ?_ | refine GuardS.no rfl ?_ | refine CondS.f rfl ?_ | refine And.intro (by omega) ?_ | (refine ValS.keep ?_; first | (with_reducible refine ValS.kI64 ?_; first | (with_reducible refine ValS.convI64 ?_ ?_ ; omega) | (with_reducible refine ValS.addI64_L ?_ ?_ ; omega) | (with_reducible refine ValS.addI64 ?_ ?_ ; omega) | (with_reducible refine ValS.mulI64_M ?_ ?_ ; omega) | with_reducible refine ValS.remN_L ?_)) | (refine GuardS.keep ?_; first | refine GuardS.T0 rfl (by omega) ?_) | (refine CondS.keep ?_; first | refine CondS.d1 rfl (by omega) ?_))
        exact ⟨t + 1, ⟨v, _, rfl, ht24, hv, Nat.mod_lt _ (by decide), hoff, rfl, rfl, rfl, rfl, rfl, trivial⟩, by show 24 - (t + 1) < 24 - t; omega⟩
    · obtain rfl : t = 24 := by omega
      repeat (first | refine SeqS.go cok ?_ | refine CondS.f rfl ?_)
      exact ⟨rfl, by rw [← hoff]; rfl⟩
def bitN (b : Bool) : Nat := if b then 1 else 0
/-- kmodel.bit -/
theorem kBit {S : St} {b : Bool} : CallG Hvaf.prog 424 #[.bool b] S fun r S' => S = S' ∧ r = .int .u8 (bitN b : Nat) := by
  cases b
  all_goals (
    refine CallG.start (C := mkC Hvaf.prog) cok (args := [.bool _]) Hvaf.func424 rfl Hvaf.ntmps424 (by simp) (by kernel_rfl) ?_
    repeat (first | refine SeqS.go cok ?_ | refine CondS.t rfl ?_ | refine CondS.f rfl ?_)
    exact Fin.same ⟨rfl, rfl⟩)
end Go.Proofs.YgvafwGreat
