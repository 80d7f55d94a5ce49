import Derived.Test.YgvafwGreatE13
import Derived.Test.YgvafwGreatE4
set_option exponentiation.threshold 1000
set_option maxRecDepth 100000
set_option maxHeartbeats 4000000
set_option linter.unusedVariables false
set_option linter.unusedSimpArgs false
-- v2
-- v4
-- v5
-- v6
-- v7
namespace Go.Proofs.YgvafwGreat
open Go.HL Go.Proofs
theorem bev_zeros (k : Nat) (a : List Nat) : bev (List.replicate k 0 ++ a) = bev a := by
  rw [bev_append]
  have : bev (List.replicate k 0) = 0 := by
    induction k with
    | zero => rfl
    | succ k ih => rw [List.replicate_succ', bev_append, ih]; rfl
  rw [this, Nat.mul_zero, Nat.add_zero]
theorem vcb_get {a : List Nat} {p : Nat} (h : p < a.length) : vc (bytesV a) p = .int .u8 (a.getD p 0 : Nat) := by
  have hb : (bvs a).length = a.length := bvs_len a
  have := (Row.box (bvs a)).get p (by omega)
  rw [Nat.zero_add] at this
  exact this.trans (bvs_getD' h)
theorem one_vcb {a : List Nat} {p : Nat} (h : p < a.length) : one (vc (bytesV a) (0 + p)) = true := by
  rw [Nat.zero_add, vcb_get h]; rfl
theorem aw_len {a : List Nat} (hl : a.length = 20) : (bvs (List.replicate 12 0 ++ a)).length = 32 := by rw [bvs_len, List.length_append, List.length_replicate, hl]
theorem getD_app_right {l m : List Nat} {i : Nat} (h : l.length ≤ i) : (l ++ m).getD i 0 = m.getD (i - l.length) 0 := by
  rw [List.getD_eq_getElem?_getD, List.getElem?_append_right h, ← List.getD_eq_getElem?_getD]
theorem aw_row {a : List Nat} {c : Nat → Value} (hl : a.length = 20) (hc : ∀ i, i < 12 → c i = .int .u8 ((0 : Nat) : Int)) : Row (HL.updN c 12 (cellsFrom (vc (bytesV a)) 0 (mulS 20 1))) 0 (bvs (List.replicate 12 0 ++ a)) := by
  refine ⟨fun i hi => ?_⟩
  rw [aw_len hl] at hi
  rw [bvs_getD' (by rw [List.length_append, List.length_replicate, hl]; exact hi), updN_cellsFrom, Nat.zero_add, mulS_eq]
  dsimp only
  by_cases h : i < 12
  · rw [if_neg (by omega), hc i h, List.getD_eq_getElem?_getD, List.getElem?_append_left (by rw [List.length_replicate]; exact h), List.getElem?_replicate, if_pos h]; rfl
  · rw [if_pos (by omega), Nat.zero_add, vcb_get (by omega), getD_app_right (by rw [List.length_replicate]; omega), List.length_replicate]
/-- mach.addrWord -/
theorem mAddrWord {S : St} {a : List Nat} (hA : AdOk a) : CallG Hvaf.prog 267 #[bytesV a] S fun r S' => S = S' ∧ r = wordV (bev a) := by
  have hl := hA.len
  have hu := fun S => FromBytes_spec (S := S) (ds := List.replicate 12 0 ++ a) (by rw [List.length_append, List.length_replicate, hl]) (fun d hd => by
    rcases List.mem_append.1 hd with h | h
    · rw [(List.mem_replicate.1 h).2]; decide
    · exact hA.b8 d h)
  rw [bev_zeros] at hu
  have h32 : 0 + 32 ≤ 32 := by decide
  have hz : ∀ i, i < 12 → z_int__u8_0 i = .int .u8 ((0 : Nat) : Int) := fun _ _ => rfl
  have hsz : (bytesV a).cells.size = 20 := by show (bvs a).toArray.size = 20; simp [hl]
  refine CallG.start (C := mkC Hvaf.prog) cok (args := [bytesV a]) Hvaf.func267 rfl Hvaf.ntmps267 (by simp) (by kernel_rfl) ?_
  intro x1 x2
  repeat (first | refine SeqS.go cok ?_)
  intro x3
  repeat (first | refine SeqS.go cok ?_ | refine And.intro (Eq.refl true) ?_ | refine And.intro (by dsimp only; omega) ?_ | (refine NatS.keep ?_; first | with_reducible refine NatS.lit ?_) | refine W.drawI 2 cok [0, 0, 3] [0, 1, 2] [] (by kernel_rfl) (by kernel_rfl) ?_)
  refine ValS.any ?_
  repeat (first | refine And.intro (Eq.refl true) ?_ | (refine ValS.keep ?_; first | with_reducible refine ValS.sl0 ?_))
  refine OpG.keep ?_
  refine OpG.copyQ cok 0 (q := 20) (by rfl) rfl (y := ⟨x1, (bytesV a).cells.size, 31, vc (bytesV a)⟩) (.inr (List.mem_of_getElem? (i := 2) rfl)) rfl rfl rfl rfl rfl rfl rfl ?_ ?_ ?_ ?_
  · show 12 + 20 ≤ 32; decide
  · show 0 + mulS 20 1 ≤ (bytesV a).cells.size; rw [hsz]; decide
  · intro p hp
    have hp : p < 20 := hp
    exact one_vcb (by omega)
  repeat (first | (refine QuG.keep ?_; refine QuG.rowE cok (x := ⟨x3, 32, 22, _⟩) (aw_row (c := z_int__u8_0) hl hz) (.inr List.mem_cons_self) rfl rfl rfl rfl rfl (aw_len hl) h32 ?_) | refine SeqS.go cok ?_)
  refine (hu _).mono ?_
  rintro r _ - ⟨rfl, rfl⟩
  repeat (first | refine SeqS.go cok ?_ | (refine LdG.keep ?_; first | refine LdG.lN cok 1 rfl rfl rfl rfl rfl (by first | exact Nat.le_of_ble_eq_true rfl | omega | (dsimp only; omega) | (simp only [addS_eq, mulS_eq]; omega)) ?_) | (refine OpG.keep ?_; first | refine OpG.sL cok 1 rfl rfl rfl rfl rfl rfl rfl (by first | exact Nat.le_of_ble_eq_true rfl | omega | (dsimp only; omega) | (simp only [addS_eq, mulS_eq]; omega)) ?_))
  exact Fin.drop S.G [_, _, _] ⟨rfl, rfl⟩
end Go.Proofs.YgvafwGreat
