import Derived.Test.YgvafwGreatP3
set_option maxRecDepth 100000
set_option maxHeartbeats 16000000
set_option linter.unusedVariables false
set_option linter.unusedSimpArgs false
-- v2
namespace Go.Proofs.YgvafwGreat
open Go.HL Go.Proofs

theorem xorV {a b : Nat} {q : Value → Prop} (ha : a < 18446744073709551616) (hb : b < 18446744073709551616) (h : ∀ x, x = a ^^^ b → x < 18446744073709551616 → q (.int .u64 (x : Nat))) : ValS (.int .u64 (ixor .u64 (a : Int) (b : Int))) q := ValS.xorFU64 ha hb fun hl => h _ rfl hl
theorem andV {a b : Nat} {q : Value → Prop} (ha : a < 18446744073709551616) (hb : b < 18446744073709551616) (h : ∀ x, x = a &&& b → x < 18446744073709551616 → q (.int .u64 (x : Nat))) : ValS (.int .u64 (iand .u64 (a : Int) (b : Int))) q := ValS.andFU64 ha hb fun hl => h _ rfl hl
theorem notV {a : Nat} {q : Value → Prop} (ha : a < 18446744073709551616) (h : ∀ x, x = 18446744073709551615 - a → x < 18446744073709551616 → q (.int .u64 (x : Nat))) : ValS (.int .u64 (ixor .u64 (if IntKind.signed .u64 then -1 else IntKind.max .u64) (a : Int))) q := ValS.notU64 ha (h _ rfl (by omega))
theorem callRotV {S : St} {x k : Nat} {K : Post} (hx : x < 18446744073709551616) (hk : k < 64) (h : ∀ y, y = rotN x k → y < 18446744073709551616 → K (.int .u64 ((y : Nat) : Int)) S) : CallG Hvaf.prog 426 #[.int .u64 (x : Nat), .int .i64 (k : Nat)] S K := by
  refine (NRot_spec (S := S) hx hk).mono ?_
  rintro r _ - ⟨rfl, rfl⟩
  exact h _ rfl (rotN_lt hx hk)
theorem _root_.Go.HL.SeqS.to {C : Cfg} {n : Nat} {c : Code} {e : Env} {Q : HPost} {S S' : St} (h : S' = S) (k : SeqS C n c Q e S') : SeqS C n c Q e S := h ▸ k
/-- keccak.round -/
theorem kRoundS {I : Ent → Prop} {G : List Ent} {ab sz : Nat} {T : TypeId} {c : Nat → Value} {a : Nat → Nat} (hsz : 25 ≤ sz) (hc : ∀ i, i < 25 → c i = .int .u64 (a i : Nat)) (ha : ∀ i, a i < 18446744073709551616) :
    CallG Hvaf.prog 407 #[ptr ab 0] ⟨I, ⟨ab, sz, T, c⟩ :: G⟩ fun r S' => ∃ c', S' = ⟨I, ⟨ab, sz, T, c'⟩ :: G⟩ ∧ (∀ i, i < 25 → c' i = .int .u64 ((kRound a).getD i 0 : Nat)) ∧ ∀ i, 25 ≤ i → c' i = c i := by
  have h0 : c 0 = .int .u64 (a 0 : Nat) := hc 0 (by decide)
  have b0 : a 0 < 18446744073709551616 := ha 0
  have h1 : c 1 = .int .u64 (a 1 : Nat) := hc 1 (by decide)
  have b1 : a 1 < 18446744073709551616 := ha 1
  have h2 : c 2 = .int .u64 (a 2 : Nat) := hc 2 (by decide)
  have b2 : a 2 < 18446744073709551616 := ha 2
  have h3 : c 3 = .int .u64 (a 3 : Nat) := hc 3 (by decide)
  have b3 : a 3 < 18446744073709551616 := ha 3
  have h4 : c 4 = .int .u64 (a 4 : Nat) := hc 4 (by decide)
  have b4 : a 4 < 18446744073709551616 := ha 4
  have h5 : c 5 = .int .u64 (a 5 : Nat) := hc 5 (by decide)
  have b5 : a 5 < 18446744073709551616 := ha 5
  have h6 : c 6 = .int .u64 (a 6 : Nat) := hc 6 (by decide)
  have b6 : a 6 < 18446744073709551616 := ha 6
  have h7 : c 7 = .int .u64 (a 7 : Nat) := hc 7 (by decide)
  have b7 : a 7 < 18446744073709551616 := ha 7
  have h8 : c 8 = .int .u64 (a 8 : Nat) := hc 8 (by decide)
  have b8 : a 8 < 18446744073709551616 := ha 8
  have h9 : c 9 = .int .u64 (a 9 : Nat) := hc 9 (by decide)
  have b9 : a 9 < 18446744073709551616 := ha 9
  have h10 : c 10 = .int .u64 (a 10 : Nat) := hc 10 (by decide)
  have b10 : a 10 < 18446744073709551616 := ha 10
  have h11 : c 11 = .int .u64 (a 11 : Nat) := hc 11 (by decide)
  have b11 : a 11 < 18446744073709551616 := ha 11
  have h12 : c 12 = .int .u64 (a 12 : Nat) := hc 12 (by decide)
  have b12 : a 12 < 18446744073709551616 := ha 12
  have h13 : c 13 = .int .u64 (a 13 : Nat) := hc 13 (by decide)
  have b13 : a 13 < 18446744073709551616 := ha 13
  have h14 : c 14 = .int .u64 (a 14 : Nat) := hc 14 (by decide)
  have b14 : a 14 < 18446744073709551616 := ha 14
  have h15 : c 15 = .int .u64 (a 15 : Nat) := hc 15 (by decide)
  have b15 : a 15 < 18446744073709551616 := ha 15
  have h16 : c 16 = .int .u64 (a 16 : Nat) := hc 16 (by decide)
  have b16 : a 16 < 18446744073709551616 := ha 16
  have h17 : c 17 = .int .u64 (a 17 : Nat) := hc 17 (by decide)
  have b17 : a 17 < 18446744073709551616 := ha 17
  have h18 : c 18 = .int .u64 (a 18 : Nat) := hc 18 (by decide)
  have b18 : a 18 < 18446744073709551616 := ha 18
  have h19 : c 19 = .int .u64 (a 19 : Nat) := hc 19 (by decide)
  have b19 : a 19 < 18446744073709551616 := ha 19
  have h20 : c 20 = .int .u64 (a 20 : Nat) := hc 20 (by decide)
  have b20 : a 20 < 18446744073709551616 := ha 20
  have h21 : c 21 = .int .u64 (a 21 : Nat) := hc 21 (by decide)
  have b21 : a 21 < 18446744073709551616 := ha 21
  have h22 : c 22 = .int .u64 (a 22 : Nat) := hc 22 (by decide)
  have b22 : a 22 < 18446744073709551616 := ha 22
  have h23 : c 23 = .int .u64 (a 23 : Nat) := hc 23 (by decide)
  have b23 : a 23 < 18446744073709551616 := ha 23
  have h24 : c 24 = .int .u64 (a 24 : Nat) := hc 24 (by decide)
  have b24 : a 24 < 18446744073709551616 := ha 24
  clear hc ha
  refine CallG.start (C := mkC Hvaf.prog) cok (args := [ptr ab 0]) Hvaf.func407 rfl Hvaf.ntmps407 (by simp) (by kernel_rfl) ?_
  -- region 0
  refine W.drawI 0 cok [0, 1, 3, 7, 0, 16, 48, 112, 255, 0, 512, 1536, 3584, 8191, 0, 16384, 49152, 114688, 262143, 0, 524288, 1572864, 3670016, 8388607, 16777215] [0, 1, 2, 3, 4, 5, 6, 7, 8, 9, 10, 11, 12, 13, 14, 15, 16, 17, 18, 19, 20, 21, 22, 23, 24] [3, 7, 12, 17, 22] (by kernel_rfl) (by kernel_rfl) ?_
  repeat (first | (refine QuG.keep ?_; refine QuG.l1E cok 0 rfl rfl rfl rfl rfl (by first | exact Nat.le_of_ble_eq_true rfl | omega | (simp only [addS_eq, mulS_eq]; omega)) (by assumption) ?_) | (refine ValS.keep ?_; with_reducible refine ValS.kU64 ?_; first | (with_reducible refine xorV (by assumption) (by assumption) ?_; intro _ _ _)) | (refine NatS.keep ?_; first | with_reducible refine NatS.lit ?_) | refine And.intro (Nat.le_of_ble_eq_true rfl) ?_)
  rename_i x1 e1 l1 x2 e2 l2 x3 e3 l3 v2 e4 l4
  have E2 : v2 = kC a 0 := by rw [e4, e3, e2, e1]; rfl
  clear e1 l1 e2 l2 e3 l3 e4
  refine SeqS.slots cok [(0, _), (2, _)] ⟨rfl, rfl, trivial⟩ fun e => ?_
  -- region 1
  refine W.drawI 1 cok [0, 1, 3, 7, 0, 16, 48, 112, 255, 0, 512, 1536, 3584, 8191, 0, 16384, 49152, 114688, 262143, 0, 524288, 1572864, 3670016, 8388607, 16777215] [0, 1, 2, 3, 4, 5, 6, 7, 8, 9, 10, 11, 12, 13, 14, 15, 16, 17, 18, 19, 20, 21, 22, 23, 24] [3, 7, 12, 17, 22] (by kernel_rfl) (by kernel_rfl) ?_
  repeat (first | (refine QuG.keep ?_; refine QuG.l1E cok 0 rfl rfl rfl rfl rfl (by first | exact Nat.le_of_ble_eq_true rfl | omega | (simp only [addS_eq, mulS_eq]; omega)) (by assumption) ?_) | (refine ValS.keep ?_; with_reducible refine ValS.kU64 ?_; first | (with_reducible refine xorV (by assumption) (by assumption) ?_; intro _ _ _)) | (refine NatS.keep ?_; first | with_reducible refine NatS.lit ?_) | refine And.intro (Nat.le_of_ble_eq_true rfl) ?_)
  rename_i x1 e1 l1 x2 e2 l2 x3 e3 l3 v3 e4 l4
  have E3 : v3 = kC a 1 := by rw [e4, e3, e2, e1]; rfl
  clear e1 l1 e2 l2 e3 l3 e4
  refine SeqS.slots cok [(0, _), (2, _), (3, _)] ⟨rfl, rfl, rfl, trivial⟩ fun e => ?_
  -- region 2
  refine W.drawI 2 cok [0, 1, 3, 7, 0, 16, 48, 112, 255, 0, 512, 1536, 3584, 8191, 0, 16384, 49152, 114688, 262143, 0, 524288, 1572864, 3670016, 8388607, 16777215] [0, 1, 2, 3, 4, 5, 6, 7, 8, 9, 10, 11, 12, 13, 14, 15, 16, 17, 18, 19, 20, 21, 22, 23, 24] [3, 7, 12, 17, 22] (by kernel_rfl) (by kernel_rfl) ?_
  repeat (first | (refine QuG.keep ?_; refine QuG.l1E cok 0 rfl rfl rfl rfl rfl (by first | exact Nat.le_of_ble_eq_true rfl | omega | (simp only [addS_eq, mulS_eq]; omega)) (by assumption) ?_) | (refine ValS.keep ?_; with_reducible refine ValS.kU64 ?_; first | (with_reducible refine xorV (by assumption) (by assumption) ?_; intro _ _ _)) | (refine NatS.keep ?_; first | with_reducible refine NatS.lit ?_) | refine And.intro (Nat.le_of_ble_eq_true rfl) ?_)
  rename_i x1 e1 l1 x2 e2 l2 x3 e3 l3 v4 e4 l4
  have E4 : v4 = kC a 2 := by rw [e4, e3, e2, e1]; rfl
  clear e1 l1 e2 l2 e3 l3 e4
  refine SeqS.slots cok [(0, _), (2, _), (3, _), (4, _)] ⟨rfl, rfl, rfl, rfl, trivial⟩ fun e => ?_
  -- region 3
  refine W.drawI 3 cok [0, 1, 3, 7, 0, 16, 48, 112, 255, 0, 512, 1536, 3584, 8191, 0, 16384, 49152, 114688, 262143, 0, 524288, 1572864, 3670016, 8388607, 16777215] [0, 1, 2, 3, 4, 5, 6, 7, 8, 9, 10, 11, 12, 13, 14, 15, 16, 17, 18, 19, 20, 21, 22, 23, 24] [3, 7, 12, 17, 22] (by kernel_rfl) (by kernel_rfl) ?_
  repeat (first | (refine QuG.keep ?_; refine QuG.l1E cok 0 rfl rfl rfl rfl rfl (by first | exact Nat.le_of_ble_eq_true rfl | omega | (simp only [addS_eq, mulS_eq]; omega)) (by assumption) ?_) | (refine ValS.keep ?_; with_reducible refine ValS.kU64 ?_; first | (with_reducible refine xorV (by assumption) (by assumption) ?_; intro _ _ _)) | (refine NatS.keep ?_; first | with_reducible refine NatS.lit ?_) | refine And.intro (Nat.le_of_ble_eq_true rfl) ?_)
  rename_i x1 e1 l1 x2 e2 l2 x3 e3 l3 v5 e4 l4
  have E5 : v5 = kC a 3 := by rw [e4, e3, e2, e1]; rfl
  clear e1 l1 e2 l2 e3 l3 e4
  refine SeqS.slots cok [(0, _), (2, _), (3, _), (4, _), (5, _)] ⟨rfl, rfl, rfl, rfl, rfl, trivial⟩ fun e => ?_
  -- region 4
  refine W.drawI 4 cok [0, 1, 3, 7, 0, 16, 48, 112, 255, 0, 512, 1536, 3584, 8191, 0, 16384, 49152, 114688, 262143, 0, 524288, 1572864, 3670016, 8388607, 16777215] [0, 1, 2, 3, 4, 5, 6, 7, 8, 9, 10, 11, 12, 13, 14, 15, 16, 17, 18, 19, 20, 21, 22, 23, 24] [3, 7, 12, 17, 22] (by kernel_rfl) (by kernel_rfl) ?_
  repeat (first | (refine QuG.keep ?_; refine QuG.l1E cok 0 rfl rfl rfl rfl rfl (by first | exact Nat.le_of_ble_eq_true rfl | omega | (simp only [addS_eq, mulS_eq]; omega)) (by assumption) ?_) | (refine ValS.keep ?_; with_reducible refine ValS.kU64 ?_; first | (with_reducible refine xorV (by assumption) (by assumption) ?_; intro _ _ _)) | (refine NatS.keep ?_; first | with_reducible refine NatS.lit ?_) | refine And.intro (Nat.le_of_ble_eq_true rfl) ?_)
  rename_i x1 e1 l1 x2 e2 l2 x3 e3 l3 v6 e4 l4
  have E6 : v6 = kC a 4 := by rw [e4, e3, e2, e1]; rfl
  clear e1 l1 e2 l2 e3 l3 e4
  refine SeqS.slots cok [(0, _), (2, _), (3, _), (4, _), (5, _), (6, _)] ⟨rfl, rfl, rfl, rfl, rfl, rfl, trivial⟩ fun e => ?_
  -- region 5
  repeat (first | (refine callRotV (by assumption) (by decide) ?_; intro _ _ _) | (refine ValS.keep ?_; with_reducible refine ValS.kU64 ?_; first | (with_reducible refine xorV (by assumption) (by assumption) ?_; intro _ _ _)))
  rename_i x1 e1 l1 v7 e2 l2
  have E7 : v7 = kD a 0 := by rw [e2, e1, E6, E3]; rfl
  clear e1 l1 e2
  refine SeqS.slots cok [(0, _), (2, _), (3, _), (4, _), (5, _), (6, _), (7, _)] ⟨rfl, rfl, rfl, rfl, rfl, rfl, rfl, trivial⟩ fun e => ?_
  -- region 6
  repeat (first | (refine callRotV (by assumption) (by decide) ?_; intro _ _ _) | (refine ValS.keep ?_; with_reducible refine ValS.kU64 ?_; first | (with_reducible refine xorV (by assumption) (by assumption) ?_; intro _ _ _)))
  rename_i x1 e1 l1 v8 e2 l2
  have E8 : v8 = kD a 1 := by rw [e2, e1, E2, E4]; rfl
  clear e1 l1 e2
  refine SeqS.slots cok [(0, _), (2, _), (3, _), (4, _), (5, _), (6, _), (7, _), (8, _)] ⟨rfl, rfl, rfl, rfl, rfl, rfl, rfl, rfl, trivial⟩ fun e => ?_
  -- region 7
  repeat (first | (refine callRotV (by assumption) (by decide) ?_; intro _ _ _) | (refine ValS.keep ?_; with_reducible refine ValS.kU64 ?_; first | (with_reducible refine xorV (by assumption) (by assumption) ?_; intro _ _ _)))
  rename_i x1 e1 l1 v9 e2 l2
  have E9 : v9 = kD a 2 := by rw [e2, e1, E3, E5]; rfl
  clear e1 l1 e2
  refine SeqS.slots cok [(0, _), (2, _), (3, _), (4, _), (5, _), (6, _), (7, _), (8, _), (9, _)] ⟨rfl, rfl, rfl, rfl, rfl, rfl, rfl, rfl, rfl, trivial⟩ fun e => ?_
  -- region 8
  repeat (first | (refine callRotV (by assumption) (by decide) ?_; intro _ _ _) | (refine ValS.keep ?_; with_reducible refine ValS.kU64 ?_; first | (with_reducible refine xorV (by assumption) (by assumption) ?_; intro _ _ _)))
  rename_i x1 e1 l1 v10 e2 l2
  have E10 : v10 = kD a 3 := by rw [e2, e1, E4, E6]; rfl
  clear e1 l1 e2
  refine SeqS.slots cok [(0, _), (2, _), (3, _), (4, _), (5, _), (6, _), (7, _), (8, _), (9, _), (10, _)] ⟨rfl, rfl, rfl, rfl, rfl, rfl, rfl, rfl, rfl, rfl, trivial⟩ fun e => ?_
  -- region 9
  repeat (first | (refine callRotV (by assumption) (by decide) ?_; intro _ _ _) | (refine ValS.keep ?_; with_reducible refine ValS.kU64 ?_; first | (with_reducible refine xorV (by assumption) (by assumption) ?_; intro _ _ _)))
  rename_i x1 e1 l1 v11 e2 l2
  have E11 : v11 = kD a 4 := by rw [e2, e1, E5, E2]; rfl
  clear e1 l1 e2
  refine SeqS.slots cok [(0, _), (7, _), (8, _), (9, _), (10, _), (11, _)] ⟨rfl, rfl, rfl, rfl, rfl, rfl, trivial⟩ fun e => ?_
  -- region 10
  repeat (first | (refine QuG.keep ?_; refine QuG.l1E cok 0 rfl rfl rfl rfl rfl (by first | exact Nat.le_of_ble_eq_true rfl | omega | (simp only [addS_eq, mulS_eq]; omega)) (by assumption) ?_) | (refine ValS.keep ?_; with_reducible refine ValS.kU64 ?_; first | (with_reducible refine xorV (by assumption) (by assumption) ?_; intro _ _ _)) | (refine NatS.keep ?_; first | with_reducible refine NatS.lit ?_) | refine And.intro (Nat.le_of_ble_eq_true rfl) ?_)
  rename_i v12 e1 l1
  have E12 : v12 = a 0 ^^^ kD a 0 := by rw [e1, E7]
  clear e1
  refine SeqS.slots cok [(0, _), (7, _), (8, _), (9, _), (10, _), (11, _), (12, _)] ⟨rfl, rfl, rfl, rfl, rfl, rfl, rfl, trivial⟩ fun e => ?_
  -- region 11
  repeat (first | (refine QuG.keep ?_; refine QuG.l1E cok 0 rfl rfl rfl rfl rfl (by first | exact Nat.le_of_ble_eq_true rfl | omega | (simp only [addS_eq, mulS_eq]; omega)) (by assumption) ?_) | (refine callRotV (by assumption) (by decide) ?_; intro _ _ _) | (refine ValS.keep ?_; with_reducible refine ValS.kU64 ?_; first | (with_reducible refine xorV (by assumption) (by assumption) ?_; intro _ _ _)) | (refine NatS.keep ?_; first | with_reducible refine NatS.lit ?_) | refine And.intro (Nat.le_of_ble_eq_true rfl) ?_)
  rename_i x1 e1 l1 v13 e2 l2
  have E13 : v13 = kT a 6 1 44 := by rw [e2, e1, E8]; rfl
  clear e1 l1 e2
  refine SeqS.slots cok [(0, _), (7, _), (8, _), (9, _), (10, _), (11, _), (12, _), (13, _)] ⟨rfl, rfl, rfl, rfl, rfl, rfl, rfl, rfl, trivial⟩ fun e => ?_
  -- region 12
  repeat (first | (refine QuG.keep ?_; refine QuG.l1E cok 0 rfl rfl rfl rfl rfl (by first | exact Nat.le_of_ble_eq_true rfl | omega | (simp only [addS_eq, mulS_eq]; omega)) (by assumption) ?_) | (refine callRotV (by assumption) (by decide) ?_; intro _ _ _) | (refine ValS.keep ?_; with_reducible refine ValS.kU64 ?_; first | (with_reducible refine xorV (by assumption) (by assumption) ?_; intro _ _ _)) | (refine NatS.keep ?_; first | with_reducible refine NatS.lit ?_) | refine And.intro (Nat.le_of_ble_eq_true rfl) ?_)
  rename_i x1 e1 l1 v14 e2 l2
  have E14 : v14 = kT a 12 2 43 := by rw [e2, e1, E9]; rfl
  clear e1 l1 e2
  refine SeqS.slots cok [(0, _), (7, _), (8, _), (9, _), (10, _), (11, _), (12, _), (13, _), (14, _)] ⟨rfl, rfl, rfl, rfl, rfl, rfl, rfl, rfl, rfl, trivial⟩ fun e => ?_
  -- region 13
  repeat (first | (refine QuG.keep ?_; refine QuG.l1E cok 0 rfl rfl rfl rfl rfl (by first | exact Nat.le_of_ble_eq_true rfl | omega | (simp only [addS_eq, mulS_eq]; omega)) (by assumption) ?_) | (refine callRotV (by assumption) (by decide) ?_; intro _ _ _) | (refine ValS.keep ?_; with_reducible refine ValS.kU64 ?_; first | (with_reducible refine xorV (by assumption) (by assumption) ?_; intro _ _ _)) | (refine NatS.keep ?_; first | with_reducible refine NatS.lit ?_) | refine And.intro (Nat.le_of_ble_eq_true rfl) ?_)
  rename_i x1 e1 l1 v15 e2 l2
  have E15 : v15 = kT a 18 3 21 := by rw [e2, e1, E10]; rfl
  clear e1 l1 e2
  refine SeqS.slots cok [(0, _), (7, _), (8, _), (9, _), (10, _), (11, _), (12, _), (13, _), (14, _), (15, _)] ⟨rfl, rfl, rfl, rfl, rfl, rfl, rfl, rfl, rfl, rfl, trivial⟩ fun e => ?_
  -- region 14
  repeat (first | (refine QuG.keep ?_; refine QuG.l1E cok 0 rfl rfl rfl rfl rfl (by first | exact Nat.le_of_ble_eq_true rfl | omega | (simp only [addS_eq, mulS_eq]; omega)) (by assumption) ?_) | (refine callRotV (by assumption) (by decide) ?_; intro _ _ _) | (refine ValS.keep ?_; with_reducible refine ValS.kU64 ?_; first | (with_reducible refine xorV (by assumption) (by assumption) ?_; intro _ _ _)) | (refine NatS.keep ?_; first | with_reducible refine NatS.lit ?_) | refine And.intro (Nat.le_of_ble_eq_true rfl) ?_)
  rename_i x1 e1 l1 v16 e2 l2
  have E16 : v16 = kT a 24 4 14 := by rw [e2, e1, E11]; rfl
  clear e1 l1 e2
  refine SeqS.slots cok [(0, _), (7, _), (8, _), (9, _), (10, _), (11, _), (12, _), (13, _), (14, _), (15, _), (16, _)] ⟨rfl, rfl, rfl, rfl, rfl, rfl, rfl, rfl, rfl, rfl, rfl, trivial⟩ fun e => ?_
  -- region 15
  repeat (first | (refine QuG.keep ?_; refine QuG.l1E cok 0 rfl rfl rfl rfl rfl (by first | exact Nat.le_of_ble_eq_true rfl | omega | (simp only [addS_eq, mulS_eq]; omega)) (by assumption) ?_) | (refine callRotV (by assumption) (by decide) ?_; intro _ _ _) | (refine ValS.keep ?_; with_reducible refine ValS.kU64 ?_; first | (with_reducible refine xorV (by assumption) (by assumption) ?_; intro _ _ _)) | (refine NatS.keep ?_; first | with_reducible refine NatS.lit ?_) | refine And.intro (Nat.le_of_ble_eq_true rfl) ?_)
  rename_i x1 e1 l1 v17 e2 l2
  have E17 : v17 = kT a 3 3 28 := by rw [e2, e1, E10]; rfl
  clear e1 l1 e2
  refine SeqS.slots cok [(0, _), (7, _), (8, _), (9, _), (10, _), (11, _), (12, _), (13, _), (14, _), (15, _), (16, _), (17, _)] ⟨rfl, rfl, rfl, rfl, rfl, rfl, rfl, rfl, rfl, rfl, rfl, rfl, trivial⟩ fun e => ?_
  -- region 16
  repeat (first | (refine QuG.keep ?_; refine QuG.l1E cok 0 rfl rfl rfl rfl rfl (by first | exact Nat.le_of_ble_eq_true rfl | omega | (simp only [addS_eq, mulS_eq]; omega)) (by assumption) ?_) | (refine callRotV (by assumption) (by decide) ?_; intro _ _ _) | (refine ValS.keep ?_; with_reducible refine ValS.kU64 ?_; first | (with_reducible refine xorV (by assumption) (by assumption) ?_; intro _ _ _)) | (refine NatS.keep ?_; first | with_reducible refine NatS.lit ?_) | refine And.intro (Nat.le_of_ble_eq_true rfl) ?_)
  rename_i x1 e1 l1 v18 e2 l2
  have E18 : v18 = kT a 9 4 20 := by rw [e2, e1, E11]; rfl
  clear e1 l1 e2
  refine SeqS.slots cok [(0, _), (7, _), (8, _), (9, _), (10, _), (11, _), (12, _), (13, _), (14, _), (15, _), (16, _), (17, _), (18, _)] ⟨rfl, rfl, rfl, rfl, rfl, rfl, rfl, rfl, rfl, rfl, rfl, rfl, rfl, trivial⟩ fun e => ?_
  -- region 17
  repeat (first | (refine QuG.keep ?_; refine QuG.l1E cok 0 rfl rfl rfl rfl rfl (by first | exact Nat.le_of_ble_eq_true rfl | omega | (simp only [addS_eq, mulS_eq]; omega)) (by assumption) ?_) | (refine callRotV (by assumption) (by decide) ?_; intro _ _ _) | (refine ValS.keep ?_; with_reducible refine ValS.kU64 ?_; first | (with_reducible refine xorV (by assumption) (by assumption) ?_; intro _ _ _)) | (refine NatS.keep ?_; first | with_reducible refine NatS.lit ?_) | refine And.intro (Nat.le_of_ble_eq_true rfl) ?_)
  rename_i x1 e1 l1 v19 e2 l2
  have E19 : v19 = kT a 10 0 3 := by rw [e2, e1, E7]; rfl
  clear e1 l1 e2
  refine SeqS.slots cok [(0, _), (7, _), (8, _), (9, _), (10, _), (11, _), (12, _), (13, _), (14, _), (15, _), (16, _), (17, _), (18, _), (19, _)] ⟨rfl, rfl, rfl, rfl, rfl, rfl, rfl, rfl, rfl, rfl, rfl, rfl, rfl, rfl, trivial⟩ fun e => ?_
  -- region 18
  repeat (first | (refine QuG.keep ?_; refine QuG.l1E cok 0 rfl rfl rfl rfl rfl (by first | exact Nat.le_of_ble_eq_true rfl | omega | (simp only [addS_eq, mulS_eq]; omega)) (by assumption) ?_) | (refine callRotV (by assumption) (by decide) ?_; intro _ _ _) | (refine ValS.keep ?_; with_reducible refine ValS.kU64 ?_; first | (with_reducible refine xorV (by assumption) (by assumption) ?_; intro _ _ _)) | (refine NatS.keep ?_; first | with_reducible refine NatS.lit ?_) | refine And.intro (Nat.le_of_ble_eq_true rfl) ?_)
  rename_i x1 e1 l1 v20 e2 l2
  have E20 : v20 = kT a 16 1 45 := by rw [e2, e1, E8]; rfl
  clear e1 l1 e2
  refine SeqS.slots cok [(0, _), (7, _), (8, _), (9, _), (10, _), (11, _), (12, _), (13, _), (14, _), (15, _), (16, _), (17, _), (18, _), (19, _), (20, _)] ⟨rfl, rfl, rfl, rfl, rfl, rfl, rfl, rfl, rfl, rfl, rfl, rfl, rfl, rfl, rfl, trivial⟩ fun e => ?_
  -- region 19
  repeat (first | (refine QuG.keep ?_; refine QuG.l1E cok 0 rfl rfl rfl rfl rfl (by first | exact Nat.le_of_ble_eq_true rfl | omega | (simp only [addS_eq, mulS_eq]; omega)) (by assumption) ?_) | (refine callRotV (by assumption) (by decide) ?_; intro _ _ _) | (refine ValS.keep ?_; with_reducible refine ValS.kU64 ?_; first | (with_reducible refine xorV (by assumption) (by assumption) ?_; intro _ _ _)) | (refine NatS.keep ?_; first | with_reducible refine NatS.lit ?_) | refine And.intro (Nat.le_of_ble_eq_true rfl) ?_)
  rename_i x1 e1 l1 v21 e2 l2
  have E21 : v21 = kT a 22 2 61 := by rw [e2, e1, E9]; rfl
  clear e1 l1 e2
  refine SeqS.slots cok [(0, _), (7, _), (8, _), (9, _), (10, _), (11, _), (12, _), (13, _), (14, _), (15, _), (16, _), (17, _), (18, _), (19, _), (20, _), (21, _)] ⟨rfl, rfl, rfl, rfl, rfl, rfl, rfl, rfl, rfl, rfl, rfl, rfl, rfl, rfl, rfl, rfl, trivial⟩ fun e => ?_
  -- region 20
  repeat (first | (refine QuG.keep ?_; refine QuG.l1E cok 0 rfl rfl rfl rfl rfl (by first | exact Nat.le_of_ble_eq_true rfl | omega | (simp only [addS_eq, mulS_eq]; omega)) (by assumption) ?_) | (refine callRotV (by assumption) (by decide) ?_; intro _ _ _) | (refine ValS.keep ?_; with_reducible refine ValS.kU64 ?_; first | (with_reducible refine xorV (by assumption) (by assumption) ?_; intro _ _ _)) | (refine NatS.keep ?_; first | with_reducible refine NatS.lit ?_) | refine And.intro (Nat.le_of_ble_eq_true rfl) ?_)
  rename_i x1 e1 l1 v22 e2 l2
  have E22 : v22 = kT a 1 1 1 := by rw [e2, e1, E8]; rfl
  clear e1 l1 e2
  refine SeqS.slots cok [(0, _), (7, _), (8, _), (9, _), (10, _), (11, _), (12, _), (13, _), (14, _), (15, _), (16, _), (17, _), (18, _), (19, _), (20, _), (21, _), (22, _)] ⟨rfl, rfl, rfl, rfl, rfl, rfl, rfl, rfl, rfl, rfl, rfl, rfl, rfl, rfl, rfl, rfl, rfl, trivial⟩ fun e => ?_
  -- region 21
  repeat (first | (refine QuG.keep ?_; refine QuG.l1E cok 0 rfl rfl rfl rfl rfl (by first | exact Nat.le_of_ble_eq_true rfl | omega | (simp only [addS_eq, mulS_eq]; omega)) (by assumption) ?_) | (refine callRotV (by assumption) (by decide) ?_; intro _ _ _) | (refine ValS.keep ?_; with_reducible refine ValS.kU64 ?_; first | (with_reducible refine xorV (by assumption) (by assumption) ?_; intro _ _ _)) | (refine NatS.keep ?_; first | with_reducible refine NatS.lit ?_) | refine And.intro (Nat.le_of_ble_eq_true rfl) ?_)
  rename_i x1 e1 l1 v23 e2 l2
  have E23 : v23 = kT a 7 2 6 := by rw [e2, e1, E9]; rfl
  clear e1 l1 e2
  refine SeqS.slots cok [(0, _), (7, _), (8, _), (9, _), (10, _), (11, _), (12, _), (13, _), (14, _), (15, _), (16, _), (17, _), (18, _), (19, _), (20, _), (21, _), (22, _), (23, _)] ⟨rfl, rfl, rfl, rfl, rfl, rfl, rfl, rfl, rfl, rfl, rfl, rfl, rfl, rfl, rfl, rfl, rfl, rfl, trivial⟩ fun e => ?_
  -- region 22
  repeat (first | (refine QuG.keep ?_; refine QuG.l1E cok 0 rfl rfl rfl rfl rfl (by first | exact Nat.le_of_ble_eq_true rfl | omega | (simp only [addS_eq, mulS_eq]; omega)) (by assumption) ?_) | (refine callRotV (by assumption) (by decide) ?_; intro _ _ _) | (refine ValS.keep ?_; with_reducible refine ValS.kU64 ?_; first | (with_reducible refine xorV (by assumption) (by assumption) ?_; intro _ _ _)) | (refine NatS.keep ?_; first | with_reducible refine NatS.lit ?_) | refine And.intro (Nat.le_of_ble_eq_true rfl) ?_)
  rename_i x1 e1 l1 v24 e2 l2
  have E24 : v24 = kT a 13 3 25 := by rw [e2, e1, E10]; rfl
  clear e1 l1 e2
  refine SeqS.slots cok [(0, _), (7, _), (8, _), (9, _), (10, _), (11, _), (12, _), (13, _), (14, _), (15, _), (16, _), (17, _), (18, _), (19, _), (20, _), (21, _), (22, _), (23, _), (24, _)] ⟨rfl, rfl, rfl, rfl, rfl, rfl, rfl, rfl, rfl, rfl, rfl, rfl, rfl, rfl, rfl, rfl, rfl, rfl, rfl, trivial⟩ fun e => ?_
  -- region 23
  repeat (first | (refine QuG.keep ?_; refine QuG.l1E cok 0 rfl rfl rfl rfl rfl (by first | exact Nat.le_of_ble_eq_true rfl | omega | (simp only [addS_eq, mulS_eq]; omega)) (by assumption) ?_) | (refine callRotV (by assumption) (by decide) ?_; intro _ _ _) | (refine ValS.keep ?_; with_reducible refine ValS.kU64 ?_; first | (with_reducible refine xorV (by assumption) (by assumption) ?_; intro _ _ _)) | (refine NatS.keep ?_; first | with_reducible refine NatS.lit ?_) | refine And.intro (Nat.le_of_ble_eq_true rfl) ?_)
  rename_i x1 e1 l1 v25 e2 l2
  have E25 : v25 = kT a 19 4 8 := by rw [e2, e1, E11]; rfl
  clear e1 l1 e2
  refine SeqS.slots cok [(0, _), (7, _), (8, _), (9, _), (10, _), (11, _), (12, _), (13, _), (14, _), (15, _), (16, _), (17, _), (18, _), (19, _), (20, _), (21, _), (22, _), (23, _), (24, _), (25, _)] ⟨rfl, rfl, rfl, rfl, rfl, rfl, rfl, rfl, rfl, rfl, rfl, rfl, rfl, rfl, rfl, rfl, rfl, rfl, rfl, rfl, trivial⟩ fun e => ?_
  -- region 24
  repeat (first | (refine QuG.keep ?_; refine QuG.l1E cok 0 rfl rfl rfl rfl rfl (by first | exact Nat.le_of_ble_eq_true rfl | omega | (simp only [addS_eq, mulS_eq]; omega)) (by assumption) ?_) | (refine callRotV (by assumption) (by decide) ?_; intro _ _ _) | (refine ValS.keep ?_; with_reducible refine ValS.kU64 ?_; first | (with_reducible refine xorV (by assumption) (by assumption) ?_; intro _ _ _)) | (refine NatS.keep ?_; first | with_reducible refine NatS.lit ?_) | refine And.intro (Nat.le_of_ble_eq_true rfl) ?_)
  rename_i x1 e1 l1 v26 e2 l2
  have E26 : v26 = kT a 20 0 18 := by rw [e2, e1, E7]; rfl
  clear e1 l1 e2
  refine SeqS.slots cok [(0, _), (7, _), (8, _), (9, _), (10, _), (11, _), (12, _), (13, _), (14, _), (15, _), (16, _), (17, _), (18, _), (19, _), (20, _), (21, _), (22, _), (23, _), (24, _), (25, _), (26, _)] ⟨rfl, rfl, rfl, rfl, rfl, rfl, rfl, rfl, rfl, rfl, rfl, rfl, rfl, rfl, rfl, rfl, rfl, rfl, rfl, rfl, rfl, trivial⟩ fun e => ?_
  -- region 25
  repeat (first | (refine QuG.keep ?_; refine QuG.l1E cok 0 rfl rfl rfl rfl rfl (by first | exact Nat.le_of_ble_eq_true rfl | omega | (simp only [addS_eq, mulS_eq]; omega)) (by assumption) ?_) | (refine callRotV (by assumption) (by decide) ?_; intro _ _ _) | (refine ValS.keep ?_; with_reducible refine ValS.kU64 ?_; first | (with_reducible refine xorV (by assumption) (by assumption) ?_; intro _ _ _)) | (refine NatS.keep ?_; first | with_reducible refine NatS.lit ?_) | refine And.intro (Nat.le_of_ble_eq_true rfl) ?_)
  rename_i x1 e1 l1 v27 e2 l2
  have E27 : v27 = kT a 4 4 27 := by rw [e2, e1, E11]; rfl
  clear e1 l1 e2
  refine SeqS.slots cok [(0, _), (7, _), (8, _), (9, _), (10, _), (11, _), (12, _), (13, _), (14, _), (15, _), (16, _), (17, _), (18, _), (19, _), (20, _), (21, _), (22, _), (23, _), (24, _), (25, _), (26, _), (27, _)] ⟨rfl, rfl, rfl, rfl, rfl, rfl, rfl, rfl, rfl, rfl, rfl, rfl, rfl, rfl, rfl, rfl, rfl, rfl, rfl, rfl, rfl, rfl, trivial⟩ fun e => ?_
  -- region 26
  repeat (first | (refine QuG.keep ?_; refine QuG.l1E cok 0 rfl rfl rfl rfl rfl (by first | exact Nat.le_of_ble_eq_true rfl | omega | (simp only [addS_eq, mulS_eq]; omega)) (by assumption) ?_) | (refine callRotV (by assumption) (by decide) ?_; intro _ _ _) | (refine ValS.keep ?_; with_reducible refine ValS.kU64 ?_; first | (with_reducible refine xorV (by assumption) (by assumption) ?_; intro _ _ _)) | (refine NatS.keep ?_; first | with_reducible refine NatS.lit ?_) | refine And.intro (Nat.le_of_ble_eq_true rfl) ?_)
  rename_i x1 e1 l1 v28 e2 l2
  have E28 : v28 = kT a 5 0 36 := by rw [e2, e1, E7]; rfl
  clear e1 l1 e2
  refine SeqS.slots cok [(0, _), (7, _), (8, _), (9, _), (10, _), (11, _), (12, _), (13, _), (14, _), (15, _), (16, _), (17, _), (18, _), (19, _), (20, _), (21, _), (22, _), (23, _), (24, _), (25, _), (26, _), (27, _), (28, _)] ⟨rfl, rfl, rfl, rfl, rfl, rfl, rfl, rfl, rfl, rfl, rfl, rfl, rfl, rfl, rfl, rfl, rfl, rfl, rfl, rfl, rfl, rfl, rfl, trivial⟩ fun e => ?_
  -- region 27
  repeat (first | (refine QuG.keep ?_; refine QuG.l1E cok 0 rfl rfl rfl rfl rfl (by first | exact Nat.le_of_ble_eq_true rfl | omega | (simp only [addS_eq, mulS_eq]; omega)) (by assumption) ?_) | (refine callRotV (by assumption) (by decide) ?_; intro _ _ _) | (refine ValS.keep ?_; with_reducible refine ValS.kU64 ?_; first | (with_reducible refine xorV (by assumption) (by assumption) ?_; intro _ _ _)) | (refine NatS.keep ?_; first | with_reducible refine NatS.lit ?_) | refine And.intro (Nat.le_of_ble_eq_true rfl) ?_)
  rename_i x1 e1 l1 v29 e2 l2
  have E29 : v29 = kT a 11 1 10 := by rw [e2, e1, E8]; rfl
  clear e1 l1 e2
  refine SeqS.slots cok [(0, _), (7, _), (8, _), (9, _), (10, _), (11, _), (12, _), (13, _), (14, _), (15, _), (16, _), (17, _), (18, _), (19, _), (20, _), (21, _), (22, _), (23, _), (24, _), (25, _), (26, _), (27, _), (28, _), (29, _)] ⟨rfl, rfl, rfl, rfl, rfl, rfl, rfl, rfl, rfl, rfl, rfl, rfl, rfl, rfl, rfl, rfl, rfl, rfl, rfl, rfl, rfl, rfl, rfl, rfl, trivial⟩ fun e => ?_
  -- region 28
  repeat (first | (refine QuG.keep ?_; refine QuG.l1E cok 0 rfl rfl rfl rfl rfl (by first | exact Nat.le_of_ble_eq_true rfl | omega | (simp only [addS_eq, mulS_eq]; omega)) (by assumption) ?_) | (refine callRotV (by assumption) (by decide) ?_; intro _ _ _) | (refine ValS.keep ?_; with_reducible refine ValS.kU64 ?_; first | (with_reducible refine xorV (by assumption) (by assumption) ?_; intro _ _ _)) | (refine NatS.keep ?_; first | with_reducible refine NatS.lit ?_) | refine And.intro (Nat.le_of_ble_eq_true rfl) ?_)
  rename_i x1 e1 l1 v30 e2 l2
  have E30 : v30 = kT a 17 2 15 := by rw [e2, e1, E9]; rfl
  clear e1 l1 e2
  refine SeqS.slots cok [(0, _), (7, _), (8, _), (9, _), (10, _), (11, _), (12, _), (13, _), (14, _), (15, _), (16, _), (17, _), (18, _), (19, _), (20, _), (21, _), (22, _), (23, _), (24, _), (25, _), (26, _), (27, _), (28, _), (29, _), (30, _)] ⟨rfl, rfl, rfl, rfl, rfl, rfl, rfl, rfl, rfl, rfl, rfl, rfl, rfl, rfl, rfl, rfl, rfl, rfl, rfl, rfl, rfl, rfl, rfl, rfl, rfl, trivial⟩ fun e => ?_
  -- region 29
  repeat (first | (refine QuG.keep ?_; refine QuG.l1E cok 0 rfl rfl rfl rfl rfl (by first | exact Nat.le_of_ble_eq_true rfl | omega | (simp only [addS_eq, mulS_eq]; omega)) (by assumption) ?_) | (refine callRotV (by assumption) (by decide) ?_; intro _ _ _) | (refine ValS.keep ?_; with_reducible refine ValS.kU64 ?_; first | (with_reducible refine xorV (by assumption) (by assumption) ?_; intro _ _ _)) | (refine NatS.keep ?_; first | with_reducible refine NatS.lit ?_) | refine And.intro (Nat.le_of_ble_eq_true rfl) ?_)
  rename_i x1 e1 l1 v31 e2 l2
  have E31 : v31 = kT a 23 3 56 := by rw [e2, e1, E10]; rfl
  clear e1 l1 e2
  refine SeqS.slots cok [(0, _), (7, _), (8, _), (9, _), (10, _), (11, _), (12, _), (13, _), (14, _), (15, _), (16, _), (17, _), (18, _), (19, _), (20, _), (21, _), (22, _), (23, _), (24, _), (25, _), (26, _), (27, _), (28, _), (29, _), (30, _), (31, _)] ⟨rfl, rfl, rfl, rfl, rfl, rfl, rfl, rfl, rfl, rfl, rfl, rfl, rfl, rfl, rfl, rfl, rfl, rfl, rfl, rfl, rfl, rfl, rfl, rfl, rfl, rfl, trivial⟩ fun e => ?_
  -- region 30
  repeat (first | (refine QuG.keep ?_; refine QuG.l1E cok 0 rfl rfl rfl rfl rfl (by first | exact Nat.le_of_ble_eq_true rfl | omega | (simp only [addS_eq, mulS_eq]; omega)) (by assumption) ?_) | (refine callRotV (by assumption) (by decide) ?_; intro _ _ _) | (refine ValS.keep ?_; with_reducible refine ValS.kU64 ?_; first | (with_reducible refine xorV (by assumption) (by assumption) ?_; intro _ _ _)) | (refine NatS.keep ?_; first | with_reducible refine NatS.lit ?_) | refine And.intro (Nat.le_of_ble_eq_true rfl) ?_)
  rename_i x1 e1 l1 v32 e2 l2
  have E32 : v32 = kT a 2 2 62 := by rw [e2, e1, E9]; rfl
  clear e1 l1 e2
  refine SeqS.slots cok [(0, _), (7, _), (8, _), (9, _), (10, _), (11, _), (12, _), (13, _), (14, _), (15, _), (16, _), (17, _), (18, _), (19, _), (20, _), (21, _), (22, _), (23, _), (24, _), (25, _), (26, _), (27, _), (28, _), (29, _), (30, _), (31, _), (32, _)] ⟨rfl, rfl, rfl, rfl, rfl, rfl, rfl, rfl, rfl, rfl, rfl, rfl, rfl, rfl, rfl, rfl, rfl, rfl, rfl, rfl, rfl, rfl, rfl, rfl, rfl, rfl, rfl, trivial⟩ fun e => ?_
  -- region 31
  repeat (first | (refine QuG.keep ?_; refine QuG.l1E cok 0 rfl rfl rfl rfl rfl (by first | exact Nat.le_of_ble_eq_true rfl | omega | (simp only [addS_eq, mulS_eq]; omega)) (by assumption) ?_) | (refine callRotV (by assumption) (by decide) ?_; intro _ _ _) | (refine ValS.keep ?_; with_reducible refine ValS.kU64 ?_; first | (with_reducible refine xorV (by assumption) (by assumption) ?_; intro _ _ _)) | (refine NatS.keep ?_; first | with_reducible refine NatS.lit ?_) | refine And.intro (Nat.le_of_ble_eq_true rfl) ?_)
  rename_i x1 e1 l1 v33 e2 l2
  have E33 : v33 = kT a 8 3 55 := by rw [e2, e1, E10]; rfl
  clear e1 l1 e2
  refine SeqS.slots cok [(0, _), (7, _), (8, _), (9, _), (10, _), (11, _), (12, _), (13, _), (14, _), (15, _), (16, _), (17, _), (18, _), (19, _), (20, _), (21, _), (22, _), (23, _), (24, _), (25, _), (26, _), (27, _), (28, _), (29, _), (30, _), (31, _), (32, _), (33, _)] ⟨rfl, rfl, rfl, rfl, rfl, rfl, rfl, rfl, rfl, rfl, rfl, rfl, rfl, rfl, rfl, rfl, rfl, rfl, rfl, rfl, rfl, rfl, rfl, rfl, rfl, rfl, rfl, rfl, trivial⟩ fun e => ?_
  -- region 32
  repeat (first | (refine QuG.keep ?_; refine QuG.l1E cok 0 rfl rfl rfl rfl rfl (by first | exact Nat.le_of_ble_eq_true rfl | omega | (simp only [addS_eq, mulS_eq]; omega)) (by assumption) ?_) | (refine callRotV (by assumption) (by decide) ?_; intro _ _ _) | (refine ValS.keep ?_; with_reducible refine ValS.kU64 ?_; first | (with_reducible refine xorV (by assumption) (by assumption) ?_; intro _ _ _)) | (refine NatS.keep ?_; first | with_reducible refine NatS.lit ?_) | refine And.intro (Nat.le_of_ble_eq_true rfl) ?_)
  rename_i x1 e1 l1 v34 e2 l2
  have E34 : v34 = kT a 14 4 39 := by rw [e2, e1, E11]; rfl
  clear e1 l1 e2
  refine SeqS.slots cok [(0, _), (7, _), (8, _), (9, _), (10, _), (11, _), (12, _), (13, _), (14, _), (15, _), (16, _), (17, _), (18, _), (19, _), (20, _), (21, _), (22, _), (23, _), (24, _), (25, _), (26, _), (27, _), (28, _), (29, _), (30, _), (31, _), (32, _), (33, _), (34, _)] ⟨rfl, rfl, rfl, rfl, rfl, rfl, rfl, rfl, rfl, rfl, rfl, rfl, rfl, rfl, rfl, rfl, rfl, rfl, rfl, rfl, rfl, rfl, rfl, rfl, rfl, rfl, rfl, rfl, rfl, trivial⟩ fun e => ?_
  -- region 33
  repeat (first | (refine QuG.keep ?_; refine QuG.l1E cok 0 rfl rfl rfl rfl rfl (by first | exact Nat.le_of_ble_eq_true rfl | omega | (simp only [addS_eq, mulS_eq]; omega)) (by assumption) ?_) | (refine callRotV (by assumption) (by decide) ?_; intro _ _ _) | (refine ValS.keep ?_; with_reducible refine ValS.kU64 ?_; first | (with_reducible refine xorV (by assumption) (by assumption) ?_; intro _ _ _)) | (refine NatS.keep ?_; first | with_reducible refine NatS.lit ?_) | refine And.intro (Nat.le_of_ble_eq_true rfl) ?_)
  rename_i x1 e1 l1 v35 e2 l2
  have E35 : v35 = kT a 15 0 41 := by rw [e2, e1, E7]; rfl
  clear e1 l1 e2
  refine SeqS.slots cok [(0, _), (7, _), (8, _), (9, _), (10, _), (11, _), (12, _), (13, _), (14, _), (15, _), (16, _), (17, _), (18, _), (19, _), (20, _), (21, _), (22, _), (23, _), (24, _), (25, _), (26, _), (27, _), (28, _), (29, _), (30, _), (31, _), (32, _), (33, _), (34, _), (35, _)] ⟨rfl, rfl, rfl, rfl, rfl, rfl, rfl, rfl, rfl, rfl, rfl, rfl, rfl, rfl, rfl, rfl, rfl, rfl, rfl, rfl, rfl, rfl, rfl, rfl, rfl, rfl, rfl, rfl, rfl, rfl, trivial⟩ fun e => ?_
  -- region 34
  repeat (first | (refine QuG.keep ?_; refine QuG.l1E cok 0 rfl rfl rfl rfl rfl (by first | exact Nat.le_of_ble_eq_true rfl | omega | (simp only [addS_eq, mulS_eq]; omega)) (by assumption) ?_) | (refine callRotV (by assumption) (by decide) ?_; intro _ _ _) | (refine ValS.keep ?_; with_reducible refine ValS.kU64 ?_; first | (with_reducible refine xorV (by assumption) (by assumption) ?_; intro _ _ _)) | (refine NatS.keep ?_; first | with_reducible refine NatS.lit ?_) | refine And.intro (Nat.le_of_ble_eq_true rfl) ?_)
  rename_i x1 e1 l1 v36 e2 l2
  have E36 : v36 = kT a 21 1 2 := by rw [e2, e1, E8]; rfl
  clear e1 l1 e2
  refine SeqS.slots cok [(0, _), (12, _), (13, _), (14, _), (15, _), (16, _), (17, _), (18, _), (19, _), (20, _), (21, _), (22, _), (23, _), (24, _), (25, _), (26, _), (27, _), (28, _), (29, _), (30, _), (31, _), (32, _), (33, _), (34, _), (35, _), (36, _)] ⟨rfl, rfl, rfl, rfl, rfl, rfl, rfl, rfl, rfl, rfl, rfl, rfl, rfl, rfl, rfl, rfl, rfl, rfl, rfl, rfl, rfl, rfl, rfl, rfl, rfl, rfl, trivial⟩ fun e => ?_
  -- region 35
  repeat (first | (refine ValS.keep ?_; with_reducible refine ValS.kU64 ?_; first | (with_reducible refine xorV (by assumption) (by assumption) ?_; intro _ _ _) | (with_reducible refine andV (by assumption) (by assumption) ?_; intro _ _ _) | (with_reducible refine notV (by assumption) ?_; intro _ _ _)) | (refine NatS.keep ?_; first | with_reducible refine NatS.lit ?_) | refine And.intro (Nat.le_of_ble_eq_true rfl) ?_)
  rename_i x1 e1 l1 x2 e2 l2 w0 e3 l3
  have W0 : w0 = kX v12 v13 v14 := by rw [e3, e2, e1]; rfl
  clear e1 l1 e2 l2 e3 l3
  refine OpG.keep ?_
  refine OpG.s1 cok 0 (o := 0) (u := .int .u64 (w0 : Nat)) rfl rfl rfl rfl rfl (by omega) rfl rfl ?_
  refine SeqS.to (S' := ⟨I, ⟨ab, sz, T, (upd c 0 (.int .u64 (w0 : Nat)))⟩ :: G⟩) rfl ?_
  refine SeqS.slots cok [(0, _), (12, _), (13, _), (14, _), (15, _), (16, _), (17, _), (18, _), (19, _), (20, _), (21, _), (22, _), (23, _), (24, _), (25, _), (26, _), (27, _), (28, _), (29, _), (30, _), (31, _), (32, _), (33, _), (34, _), (35, _), (36, _)] ⟨rfl, rfl, rfl, rfl, rfl, rfl, rfl, rfl, rfl, rfl, rfl, rfl, rfl, rfl, rfl, rfl, rfl, rfl, rfl, rfl, rfl, rfl, rfl, rfl, rfl, rfl, trivial⟩ fun e => ?_
  -- region 36
  repeat (first | (refine ValS.keep ?_; with_reducible refine ValS.kU64 ?_; first | (with_reducible refine xorV (by assumption) (by assumption) ?_; intro _ _ _) | (with_reducible refine andV (by assumption) (by assumption) ?_; intro _ _ _) | (with_reducible refine notV (by assumption) ?_; intro _ _ _)) | (refine NatS.keep ?_; first | with_reducible refine NatS.lit ?_) | refine And.intro (Nat.le_of_ble_eq_true rfl) ?_)
  rename_i x1 e1 l1 x2 e2 l2 w1 e3 l3
  have W1 : w1 = kX v13 v14 v15 := by rw [e3, e2, e1]; rfl
  clear e1 l1 e2 l2 e3 l3
  refine OpG.keep ?_
  refine OpG.s1 cok 0 (o := 1) (u := .int .u64 (w1 : Nat)) rfl rfl rfl rfl rfl (by omega) rfl rfl ?_
  refine SeqS.to (S' := ⟨I, ⟨ab, sz, T, (upd (upd c 0 (.int .u64 (w0 : Nat))) 1 (.int .u64 (w1 : Nat)))⟩ :: G⟩) rfl ?_
  refine SeqS.slots cok [(0, _), (12, _), (13, _), (14, _), (15, _), (16, _), (17, _), (18, _), (19, _), (20, _), (21, _), (22, _), (23, _), (24, _), (25, _), (26, _), (27, _), (28, _), (29, _), (30, _), (31, _), (32, _), (33, _), (34, _), (35, _), (36, _)] ⟨rfl, rfl, rfl, rfl, rfl, rfl, rfl, rfl, rfl, rfl, rfl, rfl, rfl, rfl, rfl, rfl, rfl, rfl, rfl, rfl, rfl, rfl, rfl, rfl, rfl, rfl, trivial⟩ fun e => ?_
  -- region 37
  repeat (first | (refine ValS.keep ?_; with_reducible refine ValS.kU64 ?_; first | (with_reducible refine xorV (by assumption) (by assumption) ?_; intro _ _ _) | (with_reducible refine andV (by assumption) (by assumption) ?_; intro _ _ _) | (with_reducible refine notV (by assumption) ?_; intro _ _ _)) | (refine NatS.keep ?_; first | with_reducible refine NatS.lit ?_) | refine And.intro (Nat.le_of_ble_eq_true rfl) ?_)
  rename_i x1 e1 l1 x2 e2 l2 w2 e3 l3
  have W2 : w2 = kX v14 v15 v16 := by rw [e3, e2, e1]; rfl
  clear e1 l1 e2 l2 e3 l3
  refine OpG.keep ?_
  refine OpG.s1 cok 0 (o := 2) (u := .int .u64 (w2 : Nat)) rfl rfl rfl rfl rfl (by omega) rfl rfl ?_
  refine SeqS.to (S' := ⟨I, ⟨ab, sz, T, (upd (upd (upd c 0 (.int .u64 (w0 : Nat))) 1 (.int .u64 (w1 : Nat))) 2 (.int .u64 (w2 : Nat)))⟩ :: G⟩) rfl ?_
  refine SeqS.slots cok [(0, _), (12, _), (13, _), (14, _), (15, _), (16, _), (17, _), (18, _), (19, _), (20, _), (21, _), (22, _), (23, _), (24, _), (25, _), (26, _), (27, _), (28, _), (29, _), (30, _), (31, _), (32, _), (33, _), (34, _), (35, _), (36, _)] ⟨rfl, rfl, rfl, rfl, rfl, rfl, rfl, rfl, rfl, rfl, rfl, rfl, rfl, rfl, rfl, rfl, rfl, rfl, rfl, rfl, rfl, rfl, rfl, rfl, rfl, rfl, trivial⟩ fun e => ?_
  -- region 38
  repeat (first | (refine ValS.keep ?_; with_reducible refine ValS.kU64 ?_; first | (with_reducible refine xorV (by assumption) (by assumption) ?_; intro _ _ _) | (with_reducible refine andV (by assumption) (by assumption) ?_; intro _ _ _) | (with_reducible refine notV (by assumption) ?_; intro _ _ _)) | (refine NatS.keep ?_; first | with_reducible refine NatS.lit ?_) | refine And.intro (Nat.le_of_ble_eq_true rfl) ?_)
  rename_i x1 e1 l1 x2 e2 l2 w3 e3 l3
  have W3 : w3 = kX v15 v16 v12 := by rw [e3, e2, e1]; rfl
  clear e1 l1 e2 l2 e3 l3
  refine OpG.keep ?_
  refine OpG.s1 cok 0 (o := 3) (u := .int .u64 (w3 : Nat)) rfl rfl rfl rfl rfl (by omega) rfl rfl ?_
  refine SeqS.to (S' := ⟨I, ⟨ab, sz, T, (upd (upd (upd (upd c 0 (.int .u64 (w0 : Nat))) 1 (.int .u64 (w1 : Nat))) 2 (.int .u64 (w2 : Nat))) 3 (.int .u64 (w3 : Nat)))⟩ :: G⟩) rfl ?_
  refine SeqS.slots cok [(0, _), (12, _), (13, _), (14, _), (15, _), (16, _), (17, _), (18, _), (19, _), (20, _), (21, _), (22, _), (23, _), (24, _), (25, _), (26, _), (27, _), (28, _), (29, _), (30, _), (31, _), (32, _), (33, _), (34, _), (35, _), (36, _)] ⟨rfl, rfl, rfl, rfl, rfl, rfl, rfl, rfl, rfl, rfl, rfl, rfl, rfl, rfl, rfl, rfl, rfl, rfl, rfl, rfl, rfl, rfl, rfl, rfl, rfl, rfl, trivial⟩ fun e => ?_
  -- region 39
  repeat (first | (refine ValS.keep ?_; with_reducible refine ValS.kU64 ?_; first | (with_reducible refine xorV (by assumption) (by assumption) ?_; intro _ _ _) | (with_reducible refine andV (by assumption) (by assumption) ?_; intro _ _ _) | (with_reducible refine notV (by assumption) ?_; intro _ _ _)) | (refine NatS.keep ?_; first | with_reducible refine NatS.lit ?_) | refine And.intro (Nat.le_of_ble_eq_true rfl) ?_)
  rename_i x1 e1 l1 x2 e2 l2 w4 e3 l3
  have W4 : w4 = kX v16 v12 v13 := by rw [e3, e2, e1]; rfl
  clear e1 l1 e2 l2 e3 l3
  refine OpG.keep ?_
  refine OpG.s1 cok 0 (o := 4) (u := .int .u64 (w4 : Nat)) rfl rfl rfl rfl rfl (by omega) rfl rfl ?_
  refine SeqS.to (S' := ⟨I, ⟨ab, sz, T, (upd (upd (upd (upd (upd c 0 (.int .u64 (w0 : Nat))) 1 (.int .u64 (w1 : Nat))) 2 (.int .u64 (w2 : Nat))) 3 (.int .u64 (w3 : Nat))) 4 (.int .u64 (w4 : Nat)))⟩ :: G⟩) rfl ?_
  refine SeqS.slots cok [(0, _), (12, _), (13, _), (14, _), (15, _), (16, _), (17, _), (18, _), (19, _), (20, _), (21, _), (22, _), (23, _), (24, _), (25, _), (26, _), (27, _), (28, _), (29, _), (30, _), (31, _), (32, _), (33, _), (34, _), (35, _), (36, _)] ⟨rfl, rfl, rfl, rfl, rfl, rfl, rfl, rfl, rfl, rfl, rfl, rfl, rfl, rfl, rfl, rfl, rfl, rfl, rfl, rfl, rfl, rfl, rfl, rfl, rfl, rfl, trivial⟩ fun e => ?_
  -- region 40
  repeat (first | (refine ValS.keep ?_; with_reducible refine ValS.kU64 ?_; first | (with_reducible refine xorV (by assumption) (by assumption) ?_; intro _ _ _) | (with_reducible refine andV (by assumption) (by assumption) ?_; intro _ _ _) | (with_reducible refine notV (by assumption) ?_; intro _ _ _)) | (refine NatS.keep ?_; first | with_reducible refine NatS.lit ?_) | refine And.intro (Nat.le_of_ble_eq_true rfl) ?_)
  rename_i x1 e1 l1 x2 e2 l2 w5 e3 l3
  have W5 : w5 = kX v17 v18 v19 := by rw [e3, e2, e1]; rfl
  clear e1 l1 e2 l2 e3 l3
  refine OpG.keep ?_
  refine OpG.s1 cok 0 (o := 5) (u := .int .u64 (w5 : Nat)) rfl rfl rfl rfl rfl (by omega) rfl rfl ?_
  refine SeqS.to (S' := ⟨I, ⟨ab, sz, T, (upd (upd (upd (upd (upd (upd c 0 (.int .u64 (w0 : Nat))) 1 (.int .u64 (w1 : Nat))) 2 (.int .u64 (w2 : Nat))) 3 (.int .u64 (w3 : Nat))) 4 (.int .u64 (w4 : Nat))) 5 (.int .u64 (w5 : Nat)))⟩ :: G⟩) rfl ?_
  refine SeqS.slots cok [(0, _), (12, _), (13, _), (14, _), (15, _), (16, _), (17, _), (18, _), (19, _), (20, _), (21, _), (22, _), (23, _), (24, _), (25, _), (26, _), (27, _), (28, _), (29, _), (30, _), (31, _), (32, _), (33, _), (34, _), (35, _), (36, _)] ⟨rfl, rfl, rfl, rfl, rfl, rfl, rfl, rfl, rfl, rfl, rfl, rfl, rfl, rfl, rfl, rfl, rfl, rfl, rfl, rfl, rfl, rfl, rfl, rfl, rfl, rfl, trivial⟩ fun e => ?_
  -- region 41
  repeat (first | (refine ValS.keep ?_; with_reducible refine ValS.kU64 ?_; first | (with_reducible refine xorV (by assumption) (by assumption) ?_; intro _ _ _) | (with_reducible refine andV (by assumption) (by assumption) ?_; intro _ _ _) | (with_reducible refine notV (by assumption) ?_; intro _ _ _)) | (refine NatS.keep ?_; first | with_reducible refine NatS.lit ?_) | refine And.intro (Nat.le_of_ble_eq_true rfl) ?_)
  rename_i x1 e1 l1 x2 e2 l2 w6 e3 l3
  have W6 : w6 = kX v18 v19 v20 := by rw [e3, e2, e1]; rfl
  clear e1 l1 e2 l2 e3 l3
  refine OpG.keep ?_
  refine OpG.s1 cok 0 (o := 6) (u := .int .u64 (w6 : Nat)) rfl rfl rfl rfl rfl (by omega) rfl rfl ?_
  refine SeqS.to (S' := ⟨I, ⟨ab, sz, T, (upd (upd (upd (upd (upd (upd (upd c 0 (.int .u64 (w0 : Nat))) 1 (.int .u64 (w1 : Nat))) 2 (.int .u64 (w2 : Nat))) 3 (.int .u64 (w3 : Nat))) 4 (.int .u64 (w4 : Nat))) 5 (.int .u64 (w5 : Nat))) 6 (.int .u64 (w6 : Nat)))⟩ :: G⟩) rfl ?_
  refine SeqS.slots cok [(0, _), (12, _), (13, _), (14, _), (15, _), (16, _), (17, _), (18, _), (19, _), (20, _), (21, _), (22, _), (23, _), (24, _), (25, _), (26, _), (27, _), (28, _), (29, _), (30, _), (31, _), (32, _), (33, _), (34, _), (35, _), (36, _)] ⟨rfl, rfl, rfl, rfl, rfl, rfl, rfl, rfl, rfl, rfl, rfl, rfl, rfl, rfl, rfl, rfl, rfl, rfl, rfl, rfl, rfl, rfl, rfl, rfl, rfl, rfl, trivial⟩ fun e => ?_
  -- region 42
  repeat (first | (refine ValS.keep ?_; with_reducible refine ValS.kU64 ?_; first | (with_reducible refine xorV (by assumption) (by assumption) ?_; intro _ _ _) | (with_reducible refine andV (by assumption) (by assumption) ?_; intro _ _ _) | (with_reducible refine notV (by assumption) ?_; intro _ _ _)) | (refine NatS.keep ?_; first | with_reducible refine NatS.lit ?_) | refine And.intro (Nat.le_of_ble_eq_true rfl) ?_)
  rename_i x1 e1 l1 x2 e2 l2 w7 e3 l3
  have W7 : w7 = kX v19 v20 v21 := by rw [e3, e2, e1]; rfl
  clear e1 l1 e2 l2 e3 l3
  refine OpG.keep ?_
  refine OpG.s1 cok 0 (o := 7) (u := .int .u64 (w7 : Nat)) rfl rfl rfl rfl rfl (by omega) rfl rfl ?_
  refine SeqS.to (S' := ⟨I, ⟨ab, sz, T, (upd (upd (upd (upd (upd (upd (upd (upd c 0 (.int .u64 (w0 : Nat))) 1 (.int .u64 (w1 : Nat))) 2 (.int .u64 (w2 : Nat))) 3 (.int .u64 (w3 : Nat))) 4 (.int .u64 (w4 : Nat))) 5 (.int .u64 (w5 : Nat))) 6 (.int .u64 (w6 : Nat))) 7 (.int .u64 (w7 : Nat)))⟩ :: G⟩) rfl ?_
  refine SeqS.slots cok [(0, _), (12, _), (13, _), (14, _), (15, _), (16, _), (17, _), (18, _), (19, _), (20, _), (21, _), (22, _), (23, _), (24, _), (25, _), (26, _), (27, _), (28, _), (29, _), (30, _), (31, _), (32, _), (33, _), (34, _), (35, _), (36, _)] ⟨rfl, rfl, rfl, rfl, rfl, rfl, rfl, rfl, rfl, rfl, rfl, rfl, rfl, rfl, rfl, rfl, rfl, rfl, rfl, rfl, rfl, rfl, rfl, rfl, rfl, rfl, trivial⟩ fun e => ?_
  -- region 43
  repeat (first | (refine ValS.keep ?_; with_reducible refine ValS.kU64 ?_; first | (with_reducible refine xorV (by assumption) (by assumption) ?_; intro _ _ _) | (with_reducible refine andV (by assumption) (by assumption) ?_; intro _ _ _) | (with_reducible refine notV (by assumption) ?_; intro _ _ _)) | (refine NatS.keep ?_; first | with_reducible refine NatS.lit ?_) | refine And.intro (Nat.le_of_ble_eq_true rfl) ?_)
  rename_i x1 e1 l1 x2 e2 l2 w8 e3 l3
  have W8 : w8 = kX v20 v21 v17 := by rw [e3, e2, e1]; rfl
  clear e1 l1 e2 l2 e3 l3
  refine OpG.keep ?_
  refine OpG.s1 cok 0 (o := 8) (u := .int .u64 (w8 : Nat)) rfl rfl rfl rfl rfl (by omega) rfl rfl ?_
  refine SeqS.to (S' := ⟨I, ⟨ab, sz, T, (upd (upd (upd (upd (upd (upd (upd (upd (upd c 0 (.int .u64 (w0 : Nat))) 1 (.int .u64 (w1 : Nat))) 2 (.int .u64 (w2 : Nat))) 3 (.int .u64 (w3 : Nat))) 4 (.int .u64 (w4 : Nat))) 5 (.int .u64 (w5 : Nat))) 6 (.int .u64 (w6 : Nat))) 7 (.int .u64 (w7 : Nat))) 8 (.int .u64 (w8 : Nat)))⟩ :: G⟩) rfl ?_
  refine SeqS.slots cok [(0, _), (12, _), (13, _), (14, _), (15, _), (16, _), (17, _), (18, _), (19, _), (20, _), (21, _), (22, _), (23, _), (24, _), (25, _), (26, _), (27, _), (28, _), (29, _), (30, _), (31, _), (32, _), (33, _), (34, _), (35, _), (36, _)] ⟨rfl, rfl, rfl, rfl, rfl, rfl, rfl, rfl, rfl, rfl, rfl, rfl, rfl, rfl, rfl, rfl, rfl, rfl, rfl, rfl, rfl, rfl, rfl, rfl, rfl, rfl, trivial⟩ fun e => ?_
  -- region 44
  repeat (first | (refine ValS.keep ?_; with_reducible refine ValS.kU64 ?_; first | (with_reducible refine xorV (by assumption) (by assumption) ?_; intro _ _ _) | (with_reducible refine andV (by assumption) (by assumption) ?_; intro _ _ _) | (with_reducible refine notV (by assumption) ?_; intro _ _ _)) | (refine NatS.keep ?_; first | with_reducible refine NatS.lit ?_) | refine And.intro (Nat.le_of_ble_eq_true rfl) ?_)
  rename_i x1 e1 l1 x2 e2 l2 w9 e3 l3
  have W9 : w9 = kX v21 v17 v18 := by rw [e3, e2, e1]; rfl
  clear e1 l1 e2 l2 e3 l3
  refine OpG.keep ?_
  refine OpG.s1 cok 0 (o := 9) (u := .int .u64 (w9 : Nat)) rfl rfl rfl rfl rfl (by omega) rfl rfl ?_
  refine SeqS.to (S' := ⟨I, ⟨ab, sz, T, (upd (upd (upd (upd (upd (upd (upd (upd (upd (upd c 0 (.int .u64 (w0 : Nat))) 1 (.int .u64 (w1 : Nat))) 2 (.int .u64 (w2 : Nat))) 3 (.int .u64 (w3 : Nat))) 4 (.int .u64 (w4 : Nat))) 5 (.int .u64 (w5 : Nat))) 6 (.int .u64 (w6 : Nat))) 7 (.int .u64 (w7 : Nat))) 8 (.int .u64 (w8 : Nat))) 9 (.int .u64 (w9 : Nat)))⟩ :: G⟩) rfl ?_
  refine SeqS.slots cok [(0, _), (12, _), (13, _), (14, _), (15, _), (16, _), (17, _), (18, _), (19, _), (20, _), (21, _), (22, _), (23, _), (24, _), (25, _), (26, _), (27, _), (28, _), (29, _), (30, _), (31, _), (32, _), (33, _), (34, _), (35, _), (36, _)] ⟨rfl, rfl, rfl, rfl, rfl, rfl, rfl, rfl, rfl, rfl, rfl, rfl, rfl, rfl, rfl, rfl, rfl, rfl, rfl, rfl, rfl, rfl, rfl, rfl, rfl, rfl, trivial⟩ fun e => ?_
  -- region 45
  repeat (first | (refine ValS.keep ?_; with_reducible refine ValS.kU64 ?_; first | (with_reducible refine xorV (by assumption) (by assumption) ?_; intro _ _ _) | (with_reducible refine andV (by assumption) (by assumption) ?_; intro _ _ _) | (with_reducible refine notV (by assumption) ?_; intro _ _ _)) | (refine NatS.keep ?_; first | with_reducible refine NatS.lit ?_) | refine And.intro (Nat.le_of_ble_eq_true rfl) ?_)
  rename_i x1 e1 l1 x2 e2 l2 w10 e3 l3
  have W10 : w10 = kX v22 v23 v24 := by rw [e3, e2, e1]; rfl
  clear e1 l1 e2 l2 e3 l3
  refine OpG.keep ?_
  refine OpG.s1 cok 0 (o := 10) (u := .int .u64 (w10 : Nat)) rfl rfl rfl rfl rfl (by omega) rfl rfl ?_
  refine SeqS.to (S' := ⟨I, ⟨ab, sz, T, (upd (upd (upd (upd (upd (upd (upd (upd (upd (upd (upd c 0 (.int .u64 (w0 : Nat))) 1 (.int .u64 (w1 : Nat))) 2 (.int .u64 (w2 : Nat))) 3 (.int .u64 (w3 : Nat))) 4 (.int .u64 (w4 : Nat))) 5 (.int .u64 (w5 : Nat))) 6 (.int .u64 (w6 : Nat))) 7 (.int .u64 (w7 : Nat))) 8 (.int .u64 (w8 : Nat))) 9 (.int .u64 (w9 : Nat))) 10 (.int .u64 (w10 : Nat)))⟩ :: G⟩) rfl ?_
  refine SeqS.slots cok [(0, _), (12, _), (13, _), (14, _), (15, _), (16, _), (17, _), (18, _), (19, _), (20, _), (21, _), (22, _), (23, _), (24, _), (25, _), (26, _), (27, _), (28, _), (29, _), (30, _), (31, _), (32, _), (33, _), (34, _), (35, _), (36, _)] ⟨rfl, rfl, rfl, rfl, rfl, rfl, rfl, rfl, rfl, rfl, rfl, rfl, rfl, rfl, rfl, rfl, rfl, rfl, rfl, rfl, rfl, rfl, rfl, rfl, rfl, rfl, trivial⟩ fun e => ?_
  -- region 46
  repeat (first | (refine ValS.keep ?_; with_reducible refine ValS.kU64 ?_; first | (with_reducible refine xorV (by assumption) (by assumption) ?_; intro _ _ _) | (with_reducible refine andV (by assumption) (by assumption) ?_; intro _ _ _) | (with_reducible refine notV (by assumption) ?_; intro _ _ _)) | (refine NatS.keep ?_; first | with_reducible refine NatS.lit ?_) | refine And.intro (Nat.le_of_ble_eq_true rfl) ?_)
  rename_i x1 e1 l1 x2 e2 l2 w11 e3 l3
  have W11 : w11 = kX v23 v24 v25 := by rw [e3, e2, e1]; rfl
  clear e1 l1 e2 l2 e3 l3
  refine OpG.keep ?_
  refine OpG.s1 cok 0 (o := 11) (u := .int .u64 (w11 : Nat)) rfl rfl rfl rfl rfl (by omega) rfl rfl ?_
  refine SeqS.to (S' := ⟨I, ⟨ab, sz, T, (upd (upd (upd (upd (upd (upd (upd (upd (upd (upd (upd (upd c 0 (.int .u64 (w0 : Nat))) 1 (.int .u64 (w1 : Nat))) 2 (.int .u64 (w2 : Nat))) 3 (.int .u64 (w3 : Nat))) 4 (.int .u64 (w4 : Nat))) 5 (.int .u64 (w5 : Nat))) 6 (.int .u64 (w6 : Nat))) 7 (.int .u64 (w7 : Nat))) 8 (.int .u64 (w8 : Nat))) 9 (.int .u64 (w9 : Nat))) 10 (.int .u64 (w10 : Nat))) 11 (.int .u64 (w11 : Nat)))⟩ :: G⟩) rfl ?_
  refine SeqS.slots cok [(0, _), (12, _), (13, _), (14, _), (15, _), (16, _), (17, _), (18, _), (19, _), (20, _), (21, _), (22, _), (23, _), (24, _), (25, _), (26, _), (27, _), (28, _), (29, _), (30, _), (31, _), (32, _), (33, _), (34, _), (35, _), (36, _)] ⟨rfl, rfl, rfl, rfl, rfl, rfl, rfl, rfl, rfl, rfl, rfl, rfl, rfl, rfl, rfl, rfl, rfl, rfl, rfl, rfl, rfl, rfl, rfl, rfl, rfl, rfl, trivial⟩ fun e => ?_
  -- region 47
  repeat (first | (refine ValS.keep ?_; with_reducible refine ValS.kU64 ?_; first | (with_reducible refine xorV (by assumption) (by assumption) ?_; intro _ _ _) | (with_reducible refine andV (by assumption) (by assumption) ?_; intro _ _ _) | (with_reducible refine notV (by assumption) ?_; intro _ _ _)) | (refine NatS.keep ?_; first | with_reducible refine NatS.lit ?_) | refine And.intro (Nat.le_of_ble_eq_true rfl) ?_)
  rename_i x1 e1 l1 x2 e2 l2 w12 e3 l3
  have W12 : w12 = kX v24 v25 v26 := by rw [e3, e2, e1]; rfl
  clear e1 l1 e2 l2 e3 l3
  refine OpG.keep ?_
  refine OpG.s1 cok 0 (o := 12) (u := .int .u64 (w12 : Nat)) rfl rfl rfl rfl rfl (by omega) rfl rfl ?_
  refine SeqS.to (S' := ⟨I, ⟨ab, sz, T, (upd (upd (upd (upd (upd (upd (upd (upd (upd (upd (upd (upd (upd c 0 (.int .u64 (w0 : Nat))) 1 (.int .u64 (w1 : Nat))) 2 (.int .u64 (w2 : Nat))) 3 (.int .u64 (w3 : Nat))) 4 (.int .u64 (w4 : Nat))) 5 (.int .u64 (w5 : Nat))) 6 (.int .u64 (w6 : Nat))) 7 (.int .u64 (w7 : Nat))) 8 (.int .u64 (w8 : Nat))) 9 (.int .u64 (w9 : Nat))) 10 (.int .u64 (w10 : Nat))) 11 (.int .u64 (w11 : Nat))) 12 (.int .u64 (w12 : Nat)))⟩ :: G⟩) rfl ?_
  refine SeqS.slots cok [(0, _), (12, _), (13, _), (14, _), (15, _), (16, _), (17, _), (18, _), (19, _), (20, _), (21, _), (22, _), (23, _), (24, _), (25, _), (26, _), (27, _), (28, _), (29, _), (30, _), (31, _), (32, _), (33, _), (34, _), (35, _), (36, _)] ⟨rfl, rfl, rfl, rfl, rfl, rfl, rfl, rfl, rfl, rfl, rfl, rfl, rfl, rfl, rfl, rfl, rfl, rfl, rfl, rfl, rfl, rfl, rfl, rfl, rfl, rfl, trivial⟩ fun e => ?_
  -- region 48
  repeat (first | (refine ValS.keep ?_; with_reducible refine ValS.kU64 ?_; first | (with_reducible refine xorV (by assumption) (by assumption) ?_; intro _ _ _) | (with_reducible refine andV (by assumption) (by assumption) ?_; intro _ _ _) | (with_reducible refine notV (by assumption) ?_; intro _ _ _)) | (refine NatS.keep ?_; first | with_reducible refine NatS.lit ?_) | refine And.intro (Nat.le_of_ble_eq_true rfl) ?_)
  rename_i x1 e1 l1 x2 e2 l2 w13 e3 l3
  have W13 : w13 = kX v25 v26 v22 := by rw [e3, e2, e1]; rfl
  clear e1 l1 e2 l2 e3 l3
  refine OpG.keep ?_
  refine OpG.s1 cok 0 (o := 13) (u := .int .u64 (w13 : Nat)) rfl rfl rfl rfl rfl (by omega) rfl rfl ?_
  refine SeqS.to (S' := ⟨I, ⟨ab, sz, T, (upd (upd (upd (upd (upd (upd (upd (upd (upd (upd (upd (upd (upd (upd c 0 (.int .u64 (w0 : Nat))) 1 (.int .u64 (w1 : Nat))) 2 (.int .u64 (w2 : Nat))) 3 (.int .u64 (w3 : Nat))) 4 (.int .u64 (w4 : Nat))) 5 (.int .u64 (w5 : Nat))) 6 (.int .u64 (w6 : Nat))) 7 (.int .u64 (w7 : Nat))) 8 (.int .u64 (w8 : Nat))) 9 (.int .u64 (w9 : Nat))) 10 (.int .u64 (w10 : Nat))) 11 (.int .u64 (w11 : Nat))) 12 (.int .u64 (w12 : Nat))) 13 (.int .u64 (w13 : Nat)))⟩ :: G⟩) rfl ?_
  refine SeqS.slots cok [(0, _), (12, _), (13, _), (14, _), (15, _), (16, _), (17, _), (18, _), (19, _), (20, _), (21, _), (22, _), (23, _), (24, _), (25, _), (26, _), (27, _), (28, _), (29, _), (30, _), (31, _), (32, _), (33, _), (34, _), (35, _), (36, _)] ⟨rfl, rfl, rfl, rfl, rfl, rfl, rfl, rfl, rfl, rfl, rfl, rfl, rfl, rfl, rfl, rfl, rfl, rfl, rfl, rfl, rfl, rfl, rfl, rfl, rfl, rfl, trivial⟩ fun e => ?_
  -- region 49
  repeat (first | (refine ValS.keep ?_; with_reducible refine ValS.kU64 ?_; first | (with_reducible refine xorV (by assumption) (by assumption) ?_; intro _ _ _) | (with_reducible refine andV (by assumption) (by assumption) ?_; intro _ _ _) | (with_reducible refine notV (by assumption) ?_; intro _ _ _)) | (refine NatS.keep ?_; first | with_reducible refine NatS.lit ?_) | refine And.intro (Nat.le_of_ble_eq_true rfl) ?_)
  rename_i x1 e1 l1 x2 e2 l2 w14 e3 l3
  have W14 : w14 = kX v26 v22 v23 := by rw [e3, e2, e1]; rfl
  clear e1 l1 e2 l2 e3 l3
  refine OpG.keep ?_
  refine OpG.s1 cok 0 (o := 14) (u := .int .u64 (w14 : Nat)) rfl rfl rfl rfl rfl (by omega) rfl rfl ?_
  refine SeqS.to (S' := ⟨I, ⟨ab, sz, T, (upd (upd (upd (upd (upd (upd (upd (upd (upd (upd (upd (upd (upd (upd (upd c 0 (.int .u64 (w0 : Nat))) 1 (.int .u64 (w1 : Nat))) 2 (.int .u64 (w2 : Nat))) 3 (.int .u64 (w3 : Nat))) 4 (.int .u64 (w4 : Nat))) 5 (.int .u64 (w5 : Nat))) 6 (.int .u64 (w6 : Nat))) 7 (.int .u64 (w7 : Nat))) 8 (.int .u64 (w8 : Nat))) 9 (.int .u64 (w9 : Nat))) 10 (.int .u64 (w10 : Nat))) 11 (.int .u64 (w11 : Nat))) 12 (.int .u64 (w12 : Nat))) 13 (.int .u64 (w13 : Nat))) 14 (.int .u64 (w14 : Nat)))⟩ :: G⟩) rfl ?_
  refine SeqS.slots cok [(0, _), (12, _), (13, _), (14, _), (15, _), (16, _), (17, _), (18, _), (19, _), (20, _), (21, _), (22, _), (23, _), (24, _), (25, _), (26, _), (27, _), (28, _), (29, _), (30, _), (31, _), (32, _), (33, _), (34, _), (35, _), (36, _)] ⟨rfl, rfl, rfl, rfl, rfl, rfl, rfl, rfl, rfl, rfl, rfl, rfl, rfl, rfl, rfl, rfl, rfl, rfl, rfl, rfl, rfl, rfl, rfl, rfl, rfl, rfl, trivial⟩ fun e => ?_
  -- region 50
  repeat (first | (refine ValS.keep ?_; with_reducible refine ValS.kU64 ?_; first | (with_reducible refine xorV (by assumption) (by assumption) ?_; intro _ _ _) | (with_reducible refine andV (by assumption) (by assumption) ?_; intro _ _ _) | (with_reducible refine notV (by assumption) ?_; intro _ _ _)) | (refine NatS.keep ?_; first | with_reducible refine NatS.lit ?_) | refine And.intro (Nat.le_of_ble_eq_true rfl) ?_)
  rename_i x1 e1 l1 x2 e2 l2 w15 e3 l3
  have W15 : w15 = kX v27 v28 v29 := by rw [e3, e2, e1]; rfl
  clear e1 l1 e2 l2 e3 l3
  refine OpG.keep ?_
  refine OpG.s1 cok 0 (o := 15) (u := .int .u64 (w15 : Nat)) rfl rfl rfl rfl rfl (by omega) rfl rfl ?_
  refine SeqS.to (S' := ⟨I, ⟨ab, sz, T, (upd (upd (upd (upd (upd (upd (upd (upd (upd (upd (upd (upd (upd (upd (upd (upd c 0 (.int .u64 (w0 : Nat))) 1 (.int .u64 (w1 : Nat))) 2 (.int .u64 (w2 : Nat))) 3 (.int .u64 (w3 : Nat))) 4 (.int .u64 (w4 : Nat))) 5 (.int .u64 (w5 : Nat))) 6 (.int .u64 (w6 : Nat))) 7 (.int .u64 (w7 : Nat))) 8 (.int .u64 (w8 : Nat))) 9 (.int .u64 (w9 : Nat))) 10 (.int .u64 (w10 : Nat))) 11 (.int .u64 (w11 : Nat))) 12 (.int .u64 (w12 : Nat))) 13 (.int .u64 (w13 : Nat))) 14 (.int .u64 (w14 : Nat))) 15 (.int .u64 (w15 : Nat)))⟩ :: G⟩) rfl ?_
  refine SeqS.slots cok [(0, _), (12, _), (13, _), (14, _), (15, _), (16, _), (17, _), (18, _), (19, _), (20, _), (21, _), (22, _), (23, _), (24, _), (25, _), (26, _), (27, _), (28, _), (29, _), (30, _), (31, _), (32, _), (33, _), (34, _), (35, _), (36, _)] ⟨rfl, rfl, rfl, rfl, rfl, rfl, rfl, rfl, rfl, rfl, rfl, rfl, rfl, rfl, rfl, rfl, rfl, rfl, rfl, rfl, rfl, rfl, rfl, rfl, rfl, rfl, trivial⟩ fun e => ?_
  -- region 51
  repeat (first | (refine ValS.keep ?_; with_reducible refine ValS.kU64 ?_; first | (with_reducible refine xorV (by assumption) (by assumption) ?_; intro _ _ _) | (with_reducible refine andV (by assumption) (by assumption) ?_; intro _ _ _) | (with_reducible refine notV (by assumption) ?_; intro _ _ _)) | (refine NatS.keep ?_; first | with_reducible refine NatS.lit ?_) | refine And.intro (Nat.le_of_ble_eq_true rfl) ?_)
  rename_i x1 e1 l1 x2 e2 l2 w16 e3 l3
  have W16 : w16 = kX v28 v29 v30 := by rw [e3, e2, e1]; rfl
  clear e1 l1 e2 l2 e3 l3
  refine OpG.keep ?_
  refine OpG.s1 cok 0 (o := 16) (u := .int .u64 (w16 : Nat)) rfl rfl rfl rfl rfl (by omega) rfl rfl ?_
  refine SeqS.to (S' := ⟨I, ⟨ab, sz, T, (upd (upd (upd (upd (upd (upd (upd (upd (upd (upd (upd (upd (upd (upd (upd (upd (upd c 0 (.int .u64 (w0 : Nat))) 1 (.int .u64 (w1 : Nat))) 2 (.int .u64 (w2 : Nat))) 3 (.int .u64 (w3 : Nat))) 4 (.int .u64 (w4 : Nat))) 5 (.int .u64 (w5 : Nat))) 6 (.int .u64 (w6 : Nat))) 7 (.int .u64 (w7 : Nat))) 8 (.int .u64 (w8 : Nat))) 9 (.int .u64 (w9 : Nat))) 10 (.int .u64 (w10 : Nat))) 11 (.int .u64 (w11 : Nat))) 12 (.int .u64 (w12 : Nat))) 13 (.int .u64 (w13 : Nat))) 14 (.int .u64 (w14 : Nat))) 15 (.int .u64 (w15 : Nat))) 16 (.int .u64 (w16 : Nat)))⟩ :: G⟩) rfl ?_
  refine SeqS.slots cok [(0, _), (12, _), (13, _), (14, _), (15, _), (16, _), (17, _), (18, _), (19, _), (20, _), (21, _), (22, _), (23, _), (24, _), (25, _), (26, _), (27, _), (28, _), (29, _), (30, _), (31, _), (32, _), (33, _), (34, _), (35, _), (36, _)] ⟨rfl, rfl, rfl, rfl, rfl, rfl, rfl, rfl, rfl, rfl, rfl, rfl, rfl, rfl, rfl, rfl, rfl, rfl, rfl, rfl, rfl, rfl, rfl, rfl, rfl, rfl, trivial⟩ fun e => ?_
  -- region 52
  repeat (first | (refine ValS.keep ?_; with_reducible refine ValS.kU64 ?_; first | (with_reducible refine xorV (by assumption) (by assumption) ?_; intro _ _ _) | (with_reducible refine andV (by assumption) (by assumption) ?_; intro _ _ _) | (with_reducible refine notV (by assumption) ?_; intro _ _ _)) | (refine NatS.keep ?_; first | with_reducible refine NatS.lit ?_) | refine And.intro (Nat.le_of_ble_eq_true rfl) ?_)
  rename_i x1 e1 l1 x2 e2 l2 w17 e3 l3
  have W17 : w17 = kX v29 v30 v31 := by rw [e3, e2, e1]; rfl
  clear e1 l1 e2 l2 e3 l3
  refine OpG.keep ?_
  refine OpG.s1 cok 0 (o := 17) (u := .int .u64 (w17 : Nat)) rfl rfl rfl rfl rfl (by omega) rfl rfl ?_
  refine SeqS.to (S' := ⟨I, ⟨ab, sz, T, (upd (upd (upd (upd (upd (upd (upd (upd (upd (upd (upd (upd (upd (upd (upd (upd (upd (upd c 0 (.int .u64 (w0 : Nat))) 1 (.int .u64 (w1 : Nat))) 2 (.int .u64 (w2 : Nat))) 3 (.int .u64 (w3 : Nat))) 4 (.int .u64 (w4 : Nat))) 5 (.int .u64 (w5 : Nat))) 6 (.int .u64 (w6 : Nat))) 7 (.int .u64 (w7 : Nat))) 8 (.int .u64 (w8 : Nat))) 9 (.int .u64 (w9 : Nat))) 10 (.int .u64 (w10 : Nat))) 11 (.int .u64 (w11 : Nat))) 12 (.int .u64 (w12 : Nat))) 13 (.int .u64 (w13 : Nat))) 14 (.int .u64 (w14 : Nat))) 15 (.int .u64 (w15 : Nat))) 16 (.int .u64 (w16 : Nat))) 17 (.int .u64 (w17 : Nat)))⟩ :: G⟩) rfl ?_
  refine SeqS.slots cok [(0, _), (12, _), (13, _), (14, _), (15, _), (16, _), (17, _), (18, _), (19, _), (20, _), (21, _), (22, _), (23, _), (24, _), (25, _), (26, _), (27, _), (28, _), (29, _), (30, _), (31, _), (32, _), (33, _), (34, _), (35, _), (36, _)] ⟨rfl, rfl, rfl, rfl, rfl, rfl, rfl, rfl, rfl, rfl, rfl, rfl, rfl, rfl, rfl, rfl, rfl, rfl, rfl, rfl, rfl, rfl, rfl, rfl, rfl, rfl, trivial⟩ fun e => ?_
  -- region 53
  repeat (first | (refine ValS.keep ?_; with_reducible refine ValS.kU64 ?_; first | (with_reducible refine xorV (by assumption) (by assumption) ?_; intro _ _ _) | (with_reducible refine andV (by assumption) (by assumption) ?_; intro _ _ _) | (with_reducible refine notV (by assumption) ?_; intro _ _ _)) | (refine NatS.keep ?_; first | with_reducible refine NatS.lit ?_) | refine And.intro (Nat.le_of_ble_eq_true rfl) ?_)
  rename_i x1 e1 l1 x2 e2 l2 w18 e3 l3
  have W18 : w18 = kX v30 v31 v27 := by rw [e3, e2, e1]; rfl
  clear e1 l1 e2 l2 e3 l3
  refine OpG.keep ?_
  refine OpG.s1 cok 0 (o := 18) (u := .int .u64 (w18 : Nat)) rfl rfl rfl rfl rfl (by omega) rfl rfl ?_
  refine SeqS.to (S' := ⟨I, ⟨ab, sz, T, (upd (upd (upd (upd (upd (upd (upd (upd (upd (upd (upd (upd (upd (upd (upd (upd (upd (upd (upd c 0 (.int .u64 (w0 : Nat))) 1 (.int .u64 (w1 : Nat))) 2 (.int .u64 (w2 : Nat))) 3 (.int .u64 (w3 : Nat))) 4 (.int .u64 (w4 : Nat))) 5 (.int .u64 (w5 : Nat))) 6 (.int .u64 (w6 : Nat))) 7 (.int .u64 (w7 : Nat))) 8 (.int .u64 (w8 : Nat))) 9 (.int .u64 (w9 : Nat))) 10 (.int .u64 (w10 : Nat))) 11 (.int .u64 (w11 : Nat))) 12 (.int .u64 (w12 : Nat))) 13 (.int .u64 (w13 : Nat))) 14 (.int .u64 (w14 : Nat))) 15 (.int .u64 (w15 : Nat))) 16 (.int .u64 (w16 : Nat))) 17 (.int .u64 (w17 : Nat))) 18 (.int .u64 (w18 : Nat)))⟩ :: G⟩) rfl ?_
  refine SeqS.slots cok [(0, _), (12, _), (13, _), (14, _), (15, _), (16, _), (17, _), (18, _), (19, _), (20, _), (21, _), (22, _), (23, _), (24, _), (25, _), (26, _), (27, _), (28, _), (29, _), (30, _), (31, _), (32, _), (33, _), (34, _), (35, _), (36, _)] ⟨rfl, rfl, rfl, rfl, rfl, rfl, rfl, rfl, rfl, rfl, rfl, rfl, rfl, rfl, rfl, rfl, rfl, rfl, rfl, rfl, rfl, rfl, rfl, rfl, rfl, rfl, trivial⟩ fun e => ?_
  -- region 54
  repeat (first | (refine ValS.keep ?_; with_reducible refine ValS.kU64 ?_; first | (with_reducible refine xorV (by assumption) (by assumption) ?_; intro _ _ _) | (with_reducible refine andV (by assumption) (by assumption) ?_; intro _ _ _) | (with_reducible refine notV (by assumption) ?_; intro _ _ _)) | (refine NatS.keep ?_; first | with_reducible refine NatS.lit ?_) | refine And.intro (Nat.le_of_ble_eq_true rfl) ?_)
  rename_i x1 e1 l1 x2 e2 l2 w19 e3 l3
  have W19 : w19 = kX v31 v27 v28 := by rw [e3, e2, e1]; rfl
  clear e1 l1 e2 l2 e3 l3
  refine OpG.keep ?_
  refine OpG.s1 cok 0 (o := 19) (u := .int .u64 (w19 : Nat)) rfl rfl rfl rfl rfl (by omega) rfl rfl ?_
  refine SeqS.to (S' := ⟨I, ⟨ab, sz, T, (upd (upd (upd (upd (upd (upd (upd (upd (upd (upd (upd (upd (upd (upd (upd (upd (upd (upd (upd (upd c 0 (.int .u64 (w0 : Nat))) 1 (.int .u64 (w1 : Nat))) 2 (.int .u64 (w2 : Nat))) 3 (.int .u64 (w3 : Nat))) 4 (.int .u64 (w4 : Nat))) 5 (.int .u64 (w5 : Nat))) 6 (.int .u64 (w6 : Nat))) 7 (.int .u64 (w7 : Nat))) 8 (.int .u64 (w8 : Nat))) 9 (.int .u64 (w9 : Nat))) 10 (.int .u64 (w10 : Nat))) 11 (.int .u64 (w11 : Nat))) 12 (.int .u64 (w12 : Nat))) 13 (.int .u64 (w13 : Nat))) 14 (.int .u64 (w14 : Nat))) 15 (.int .u64 (w15 : Nat))) 16 (.int .u64 (w16 : Nat))) 17 (.int .u64 (w17 : Nat))) 18 (.int .u64 (w18 : Nat))) 19 (.int .u64 (w19 : Nat)))⟩ :: G⟩) rfl ?_
  refine SeqS.slots cok [(0, _), (12, _), (13, _), (14, _), (15, _), (16, _), (17, _), (18, _), (19, _), (20, _), (21, _), (22, _), (23, _), (24, _), (25, _), (26, _), (27, _), (28, _), (29, _), (30, _), (31, _), (32, _), (33, _), (34, _), (35, _), (36, _)] ⟨rfl, rfl, rfl, rfl, rfl, rfl, rfl, rfl, rfl, rfl, rfl, rfl, rfl, rfl, rfl, rfl, rfl, rfl, rfl, rfl, rfl, rfl, rfl, rfl, rfl, rfl, trivial⟩ fun e => ?_
  -- region 55
  repeat (first | (refine ValS.keep ?_; with_reducible refine ValS.kU64 ?_; first | (with_reducible refine xorV (by assumption) (by assumption) ?_; intro _ _ _) | (with_reducible refine andV (by assumption) (by assumption) ?_; intro _ _ _) | (with_reducible refine notV (by assumption) ?_; intro _ _ _)) | (refine NatS.keep ?_; first | with_reducible refine NatS.lit ?_) | refine And.intro (Nat.le_of_ble_eq_true rfl) ?_)
  rename_i x1 e1 l1 x2 e2 l2 w20 e3 l3
  have W20 : w20 = kX v32 v33 v34 := by rw [e3, e2, e1]; rfl
  clear e1 l1 e2 l2 e3 l3
  refine OpG.keep ?_
  refine OpG.s1 cok 0 (o := 20) (u := .int .u64 (w20 : Nat)) rfl rfl rfl rfl rfl (by omega) rfl rfl ?_
  refine SeqS.to (S' := ⟨I, ⟨ab, sz, T, (upd (upd (upd (upd (upd (upd (upd (upd (upd (upd (upd (upd (upd (upd (upd (upd (upd (upd (upd (upd (upd c 0 (.int .u64 (w0 : Nat))) 1 (.int .u64 (w1 : Nat))) 2 (.int .u64 (w2 : Nat))) 3 (.int .u64 (w3 : Nat))) 4 (.int .u64 (w4 : Nat))) 5 (.int .u64 (w5 : Nat))) 6 (.int .u64 (w6 : Nat))) 7 (.int .u64 (w7 : Nat))) 8 (.int .u64 (w8 : Nat))) 9 (.int .u64 (w9 : Nat))) 10 (.int .u64 (w10 : Nat))) 11 (.int .u64 (w11 : Nat))) 12 (.int .u64 (w12 : Nat))) 13 (.int .u64 (w13 : Nat))) 14 (.int .u64 (w14 : Nat))) 15 (.int .u64 (w15 : Nat))) 16 (.int .u64 (w16 : Nat))) 17 (.int .u64 (w17 : Nat))) 18 (.int .u64 (w18 : Nat))) 19 (.int .u64 (w19 : Nat))) 20 (.int .u64 (w20 : Nat)))⟩ :: G⟩) rfl ?_
  refine SeqS.slots cok [(0, _), (12, _), (13, _), (14, _), (15, _), (16, _), (17, _), (18, _), (19, _), (20, _), (21, _), (22, _), (23, _), (24, _), (25, _), (26, _), (27, _), (28, _), (29, _), (30, _), (31, _), (32, _), (33, _), (34, _), (35, _), (36, _)] ⟨rfl, rfl, rfl, rfl, rfl, rfl, rfl, rfl, rfl, rfl, rfl, rfl, rfl, rfl, rfl, rfl, rfl, rfl, rfl, rfl, rfl, rfl, rfl, rfl, rfl, rfl, trivial⟩ fun e => ?_
  -- region 56
  repeat (first | (refine ValS.keep ?_; with_reducible refine ValS.kU64 ?_; first | (with_reducible refine xorV (by assumption) (by assumption) ?_; intro _ _ _) | (with_reducible refine andV (by assumption) (by assumption) ?_; intro _ _ _) | (with_reducible refine notV (by assumption) ?_; intro _ _ _)) | (refine NatS.keep ?_; first | with_reducible refine NatS.lit ?_) | refine And.intro (Nat.le_of_ble_eq_true rfl) ?_)
  rename_i x1 e1 l1 x2 e2 l2 w21 e3 l3
  have W21 : w21 = kX v33 v34 v35 := by rw [e3, e2, e1]; rfl
  clear e1 l1 e2 l2 e3 l3
  refine OpG.keep ?_
  refine OpG.s1 cok 0 (o := 21) (u := .int .u64 (w21 : Nat)) rfl rfl rfl rfl rfl (by omega) rfl rfl ?_
  refine SeqS.to (S' := ⟨I, ⟨ab, sz, T, (upd (upd (upd (upd (upd (upd (upd (upd (upd (upd (upd (upd (upd (upd (upd (upd (upd (upd (upd (upd (upd (upd c 0 (.int .u64 (w0 : Nat))) 1 (.int .u64 (w1 : Nat))) 2 (.int .u64 (w2 : Nat))) 3 (.int .u64 (w3 : Nat))) 4 (.int .u64 (w4 : Nat))) 5 (.int .u64 (w5 : Nat))) 6 (.int .u64 (w6 : Nat))) 7 (.int .u64 (w7 : Nat))) 8 (.int .u64 (w8 : Nat))) 9 (.int .u64 (w9 : Nat))) 10 (.int .u64 (w10 : Nat))) 11 (.int .u64 (w11 : Nat))) 12 (.int .u64 (w12 : Nat))) 13 (.int .u64 (w13 : Nat))) 14 (.int .u64 (w14 : Nat))) 15 (.int .u64 (w15 : Nat))) 16 (.int .u64 (w16 : Nat))) 17 (.int .u64 (w17 : Nat))) 18 (.int .u64 (w18 : Nat))) 19 (.int .u64 (w19 : Nat))) 20 (.int .u64 (w20 : Nat))) 21 (.int .u64 (w21 : Nat)))⟩ :: G⟩) rfl ?_
  refine SeqS.slots cok [(0, _), (12, _), (13, _), (14, _), (15, _), (16, _), (17, _), (18, _), (19, _), (20, _), (21, _), (22, _), (23, _), (24, _), (25, _), (26, _), (27, _), (28, _), (29, _), (30, _), (31, _), (32, _), (33, _), (34, _), (35, _), (36, _)] ⟨rfl, rfl, rfl, rfl, rfl, rfl, rfl, rfl, rfl, rfl, rfl, rfl, rfl, rfl, rfl, rfl, rfl, rfl, rfl, rfl, rfl, rfl, rfl, rfl, rfl, rfl, trivial⟩ fun e => ?_
  -- region 57
  repeat (first | (refine ValS.keep ?_; with_reducible refine ValS.kU64 ?_; first | (with_reducible refine xorV (by assumption) (by assumption) ?_; intro _ _ _) | (with_reducible refine andV (by assumption) (by assumption) ?_; intro _ _ _) | (with_reducible refine notV (by assumption) ?_; intro _ _ _)) | (refine NatS.keep ?_; first | with_reducible refine NatS.lit ?_) | refine And.intro (Nat.le_of_ble_eq_true rfl) ?_)
  rename_i x1 e1 l1 x2 e2 l2 w22 e3 l3
  have W22 : w22 = kX v34 v35 v36 := by rw [e3, e2, e1]; rfl
  clear e1 l1 e2 l2 e3 l3
  refine OpG.keep ?_
  refine OpG.s1 cok 0 (o := 22) (u := .int .u64 (w22 : Nat)) rfl rfl rfl rfl rfl (by omega) rfl rfl ?_
  refine SeqS.to (S' := ⟨I, ⟨ab, sz, T, (upd (upd (upd (upd (upd (upd (upd (upd (upd (upd (upd (upd (upd (upd (upd (upd (upd (upd (upd (upd (upd (upd (upd c 0 (.int .u64 (w0 : Nat))) 1 (.int .u64 (w1 : Nat))) 2 (.int .u64 (w2 : Nat))) 3 (.int .u64 (w3 : Nat))) 4 (.int .u64 (w4 : Nat))) 5 (.int .u64 (w5 : Nat))) 6 (.int .u64 (w6 : Nat))) 7 (.int .u64 (w7 : Nat))) 8 (.int .u64 (w8 : Nat))) 9 (.int .u64 (w9 : Nat))) 10 (.int .u64 (w10 : Nat))) 11 (.int .u64 (w11 : Nat))) 12 (.int .u64 (w12 : Nat))) 13 (.int .u64 (w13 : Nat))) 14 (.int .u64 (w14 : Nat))) 15 (.int .u64 (w15 : Nat))) 16 (.int .u64 (w16 : Nat))) 17 (.int .u64 (w17 : Nat))) 18 (.int .u64 (w18 : Nat))) 19 (.int .u64 (w19 : Nat))) 20 (.int .u64 (w20 : Nat))) 21 (.int .u64 (w21 : Nat))) 22 (.int .u64 (w22 : Nat)))⟩ :: G⟩) rfl ?_
  refine SeqS.slots cok [(0, _), (12, _), (13, _), (14, _), (15, _), (16, _), (17, _), (18, _), (19, _), (20, _), (21, _), (22, _), (23, _), (24, _), (25, _), (26, _), (27, _), (28, _), (29, _), (30, _), (31, _), (32, _), (33, _), (34, _), (35, _), (36, _)] ⟨rfl, rfl, rfl, rfl, rfl, rfl, rfl, rfl, rfl, rfl, rfl, rfl, rfl, rfl, rfl, rfl, rfl, rfl, rfl, rfl, rfl, rfl, rfl, rfl, rfl, rfl, trivial⟩ fun e => ?_
  -- region 58
  repeat (first | (refine ValS.keep ?_; with_reducible refine ValS.kU64 ?_; first | (with_reducible refine xorV (by assumption) (by assumption) ?_; intro _ _ _) | (with_reducible refine andV (by assumption) (by assumption) ?_; intro _ _ _) | (with_reducible refine notV (by assumption) ?_; intro _ _ _)) | (refine NatS.keep ?_; first | with_reducible refine NatS.lit ?_) | refine And.intro (Nat.le_of_ble_eq_true rfl) ?_)
  rename_i x1 e1 l1 x2 e2 l2 w23 e3 l3
  have W23 : w23 = kX v35 v36 v32 := by rw [e3, e2, e1]; rfl
  clear e1 l1 e2 l2 e3 l3
  refine OpG.keep ?_
  refine OpG.s1 cok 0 (o := 23) (u := .int .u64 (w23 : Nat)) rfl rfl rfl rfl rfl (by omega) rfl rfl ?_
  refine SeqS.to (S' := ⟨I, ⟨ab, sz, T, (upd (upd (upd (upd (upd (upd (upd (upd (upd (upd (upd (upd (upd (upd (upd (upd (upd (upd (upd (upd (upd (upd (upd (upd c 0 (.int .u64 (w0 : Nat))) 1 (.int .u64 (w1 : Nat))) 2 (.int .u64 (w2 : Nat))) 3 (.int .u64 (w3 : Nat))) 4 (.int .u64 (w4 : Nat))) 5 (.int .u64 (w5 : Nat))) 6 (.int .u64 (w6 : Nat))) 7 (.int .u64 (w7 : Nat))) 8 (.int .u64 (w8 : Nat))) 9 (.int .u64 (w9 : Nat))) 10 (.int .u64 (w10 : Nat))) 11 (.int .u64 (w11 : Nat))) 12 (.int .u64 (w12 : Nat))) 13 (.int .u64 (w13 : Nat))) 14 (.int .u64 (w14 : Nat))) 15 (.int .u64 (w15 : Nat))) 16 (.int .u64 (w16 : Nat))) 17 (.int .u64 (w17 : Nat))) 18 (.int .u64 (w18 : Nat))) 19 (.int .u64 (w19 : Nat))) 20 (.int .u64 (w20 : Nat))) 21 (.int .u64 (w21 : Nat))) 22 (.int .u64 (w22 : Nat))) 23 (.int .u64 (w23 : Nat)))⟩ :: G⟩) rfl ?_
  refine SeqS.slots cok [(0, _), (12, _), (13, _), (14, _), (15, _), (16, _), (17, _), (18, _), (19, _), (20, _), (21, _), (22, _), (23, _), (24, _), (25, _), (26, _), (27, _), (28, _), (29, _), (30, _), (31, _), (32, _), (33, _), (34, _), (35, _), (36, _)] ⟨rfl, rfl, rfl, rfl, rfl, rfl, rfl, rfl, rfl, rfl, rfl, rfl, rfl, rfl, rfl, rfl, rfl, rfl, rfl, rfl, rfl, rfl, rfl, rfl, rfl, rfl, trivial⟩ fun e => ?_
  -- region 59
  repeat (first | (refine ValS.keep ?_; with_reducible refine ValS.kU64 ?_; first | (with_reducible refine xorV (by assumption) (by assumption) ?_; intro _ _ _) | (with_reducible refine andV (by assumption) (by assumption) ?_; intro _ _ _) | (with_reducible refine notV (by assumption) ?_; intro _ _ _)) | (refine NatS.keep ?_; first | with_reducible refine NatS.lit ?_) | refine And.intro (Nat.le_of_ble_eq_true rfl) ?_)
  rename_i x1 e1 l1 x2 e2 l2 w24 e3 l3
  have W24 : w24 = kX v36 v32 v33 := by rw [e3, e2, e1]; rfl
  clear e1 l1 e2 l2 e3 l3
  refine OpG.keep ?_
  refine OpG.s1 cok 0 (o := 24) (u := .int .u64 (w24 : Nat)) rfl rfl rfl rfl rfl (by omega) rfl rfl ?_
  skip
  refine Fin.same ⟨_, rfl, ?_, ?_⟩
  · intro i hi
    have c : i = 0 ∨ i = 1 ∨ i = 2 ∨ i = 3 ∨ i = 4 ∨ i = 5 ∨ i = 6 ∨ i = 7 ∨ i = 8 ∨ i = 9 ∨ i = 10 ∨ i = 11 ∨ i = 12 ∨ i = 13 ∨ i = 14 ∨ i = 15 ∨ i = 16 ∨ i = 17 ∨ i = 18 ∨ i = 19 ∨ i = 20 ∨ i = 21 ∨ i = 22 ∨ i = 23 ∨ i = 24 := by omega
    rcases c with rfl | rfl | rfl | rfl | rfl | rfl | rfl | rfl | rfl | rfl | rfl | rfl | rfl | rfl | rfl | rfl | rfl | rfl | rfl | rfl | rfl | rfl | rfl | rfl | rfl
    · have hw : (kRound a).getD 0 0 = w0 := by unfold kRound; rw [get25_0, ← E12, ← E13, ← E14, ← W0]
      rw [hw]; rfl
    · have hw : (kRound a).getD 1 0 = w1 := by unfold kRound; rw [get25_1, ← E13, ← E14, ← E15, ← W1]
      rw [hw]; rfl
    · have hw : (kRound a).getD 2 0 = w2 := by unfold kRound; rw [get25_2, ← E14, ← E15, ← E16, ← W2]
      rw [hw]; rfl
    · have hw : (kRound a).getD 3 0 = w3 := by unfold kRound; rw [get25_3, ← E15, ← E16, ← E12, ← W3]
      rw [hw]; rfl
    · have hw : (kRound a).getD 4 0 = w4 := by unfold kRound; rw [get25_4, ← E16, ← E12, ← E13, ← W4]
      rw [hw]; rfl
    · have hw : (kRound a).getD 5 0 = w5 := by unfold kRound; rw [get25_5, ← E17, ← E18, ← E19, ← W5]
      rw [hw]; rfl
    · have hw : (kRound a).getD 6 0 = w6 := by unfold kRound; rw [get25_6, ← E18, ← E19, ← E20, ← W6]
      rw [hw]; rfl
    · have hw : (kRound a).getD 7 0 = w7 := by unfold kRound; rw [get25_7, ← E19, ← E20, ← E21, ← W7]
      rw [hw]; rfl
    · have hw : (kRound a).getD 8 0 = w8 := by unfold kRound; rw [get25_8, ← E20, ← E21, ← E17, ← W8]
      rw [hw]; rfl
    · have hw : (kRound a).getD 9 0 = w9 := by unfold kRound; rw [get25_9, ← E21, ← E17, ← E18, ← W9]
      rw [hw]; rfl
    · have hw : (kRound a).getD 10 0 = w10 := by unfold kRound; rw [get25_10, ← E22, ← E23, ← E24, ← W10]
      rw [hw]; rfl
    · have hw : (kRound a).getD 11 0 = w11 := by unfold kRound; rw [get25_11, ← E23, ← E24, ← E25, ← W11]
      rw [hw]; rfl
    · have hw : (kRound a).getD 12 0 = w12 := by unfold kRound; rw [get25_12, ← E24, ← E25, ← E26, ← W12]
      rw [hw]; rfl
    · have hw : (kRound a).getD 13 0 = w13 := by unfold kRound; rw [get25_13, ← E25, ← E26, ← E22, ← W13]
      rw [hw]; rfl
    · have hw : (kRound a).getD 14 0 = w14 := by unfold kRound; rw [get25_14, ← E26, ← E22, ← E23, ← W14]
      rw [hw]; rfl
    · have hw : (kRound a).getD 15 0 = w15 := by unfold kRound; rw [get25_15, ← E27, ← E28, ← E29, ← W15]
      rw [hw]; rfl
    · have hw : (kRound a).getD 16 0 = w16 := by unfold kRound; rw [get25_16, ← E28, ← E29, ← E30, ← W16]
      rw [hw]; rfl
    · have hw : (kRound a).getD 17 0 = w17 := by unfold kRound; rw [get25_17, ← E29, ← E30, ← E31, ← W17]
      rw [hw]; rfl
    · have hw : (kRound a).getD 18 0 = w18 := by unfold kRound; rw [get25_18, ← E30, ← E31, ← E27, ← W18]
      rw [hw]; rfl
    · have hw : (kRound a).getD 19 0 = w19 := by unfold kRound; rw [get25_19, ← E31, ← E27, ← E28, ← W19]
      rw [hw]; rfl
    · have hw : (kRound a).getD 20 0 = w20 := by unfold kRound; rw [get25_20, ← E32, ← E33, ← E34, ← W20]
      rw [hw]; rfl
    · have hw : (kRound a).getD 21 0 = w21 := by unfold kRound; rw [get25_21, ← E33, ← E34, ← E35, ← W21]
      rw [hw]; rfl
    · have hw : (kRound a).getD 22 0 = w22 := by unfold kRound; rw [get25_22, ← E34, ← E35, ← E36, ← W22]
      rw [hw]; rfl
    · have hw : (kRound a).getD 23 0 = w23 := by unfold kRound; rw [get25_23, ← E35, ← E36, ← E32, ← W23]
      rw [hw]; rfl
    · have hw : (kRound a).getD 24 0 = w24 := by unfold kRound; rw [get25_24, ← E36, ← E32, ← E33, ← W24]
      rw [hw]; rfl
  · intro i hi
    simp only [upd, addS_eq, mulS_eq]
    repeat rw [if_neg (by omega)]
end Go.Proofs.YgvafwGreat
