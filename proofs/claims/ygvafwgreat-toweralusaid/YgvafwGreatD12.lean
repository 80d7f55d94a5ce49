import Derived.Test.YgvafwGreatD11
import Derived.Test.YgvafwGreatHQ
set_option maxRecDepth 100000
set_option maxHeartbeats 4000000
set_option linter.unusedVariables false
set_option linter.unusedSimpArgs false
-- v2
-- v3
namespace Go.Proofs.YgvafwGreat
open Go.HL Go.Proofs

/-- A loop that leaves memory as it is. -/
theorem _root_.Go.HL.W.loopC {C : Cfg} {n : Nat} (hC : C.Ok) {e : Env} {S : St} {Q : HPost} {σ : Type} {c : Code} (hok : codeOk n c = true) (x : Nat) (J : σ → Env → Prop) (μ : σ → Nat) (s0 : σ) (h0 : J s0 e) (E : Env → Prop)
    (cont : ∀ e', E e' → Q (.exit x) e' S)
    (round : ∀ s e', J s e' → W C n c (loopQ (fun s e' S' => S' = S ∧ J s e') μ s x (fun e' S' => S' = S ∧ E e') Q) e' S) : GW C.P n (.loop c) e S Q := by
  refine W.loopE hC hok x (fun s e' S' => S' = S ∧ J s e') μ s0 ⟨rfl, h0⟩ (fun e' S' => S' = S ∧ E e') ?_ ?_
  · rintro e' S' _ ⟨rfl, k⟩; exact cont e' k
  · rintro s e' S' _ ⟨rfl, k⟩; exact round s e' k
theorem updN_over {c : Nat → Value} {o : Nat} {L L' : List Value} (h : L'.length = L.length) : updN (updN c o L) o L' = updN c o L' := by
  funext k
  simp only [updN, h]
  by_cases hk : o ≤ k ∧ k < o + L.length
  · rw [if_pos hk, if_pos hk]
  · rw [if_neg hk, if_neg hk, if_neg hk]
theorem clr8 {c : Nat → Value} {X : List Nat} (hl : X.length = 8) : updN (updN c 0 (ivs .u64 X)) 0 (ivs .u64 (List.replicate 8 0)) = updN c 0 (ivs .u64 (List.replicate 8 0)) := updN_over (by simp [hl])
theorem four {R : List Nat} (h : R.length = 4) : ∃ a b c d, R = [a, b, c, d] := by
  match R, h with
  | [a, b, c, d], _ => exact ⟨a, b, c, d, rfl⟩
theorem eight {R : List Nat} (h : R.length = 8) : ∃ a b c d e f g k, R = [a, b, c, d, e, f, g, k] := by
  match R, h with
  | [a, b, c, d, e, f, g, k], _ => exact ⟨a, b, c, d, e, f, g, k, rfl⟩
theorem tup2 {v a a' p : Value} (h : v = .tuple #[a, p]) (e : a = a') : v = .tuple #[a', p] := by rw [h, e]
/-- A division's path. -/
def PV (a b c : Nat) : Value := .agg #[.int .u8 (a : Nat), .int .u8 (b : Nat), .int .u8 (c : Nat)]
/-- What divide does to x and answers. -/
def DivPost (I : Ent → Prop) (G : List Ent) (xb : Nat) (T : TypeId) (cx : Nat → Value) (A B : Nat) : Post := fun r S' =>
  ∃ X' p0 p1 p2, S' = ⟨I, ⟨xb, 8, T, updN cx 0 (ivs .u64 X')⟩ :: G⟩ ∧ X'.length = 8 ∧ Lim X' ∧ lv X' = A / B ∧ r = .tuple #[wordV (if B = 0 then 0 else A % B), PV p0 p1 p2]

theorem divide_zero {I : Ent → Prop} {G : List Ent} {xb : Nat} {T : TypeId} {cx : Nat → Value} {X : List Nat} (hX : Lim X) (hl : X.length = 8) :
    CallG Hvaf.prog 418 #[ptr xb 0, WV 0 0 0 0] ⟨I, ⟨xb, 8, T, updN cx 0 (ivs .u64 X)⟩ :: G⟩ (DivPost I G xb T cx (lv X) 0) := by
  refine CallG.start (C := mkC Hvaf.prog) cok (args := [ptr xb 0, WV 0 0 0 0]) Hvaf.func418 rfl Hvaf.ntmps418 (by simp) (by kernel_rfl) ?_
  intro bb rb pb
  repeat (first | refine SeqS.go cok ?_ | (refine QuG.keep ?_; first | refine QuG.lN cok 2 rfl rfl rfl rfl rfl (by first | exact Nat.le_of_ble_eq_true rfl | omega | (dsimp only; omega) | (simp only [addS_eq, mulS_eq]; omega)) ?_))
  refine ULimbs_spec.mono ?_
  rintro r _ - ⟨rfl, rfl⟩
  repeat (first | refine SeqS.go cok ?_ | refine CondS.t rfl ?_ | refine And.intro (Eq.refl true) ?_ | (refine ValS.keep ?_; first | with_reducible refine ValS.sl0 ?_))
  refine OpG.keep ?_
  refine OpG.clear cok 3 rfl rfl rfl rfl (fun p hp => ?_) rfl rfl ?_ ?_
  · obtain rfl : p = 0 := by simpa using hp
    rfl
  · exact Nat.le_of_ble_eq_true rfl
  repeat (first | refine SeqS.go cok ?_ | (refine QuG.keep ?_; first | refine QuG.lN cok 0 rfl rfl rfl rfl rfl (by first | exact Nat.le_of_ble_eq_true rfl | omega | (dsimp only; omega) | (simp only [addS_eq, mulS_eq]; omega)) ?_ | refine QuG.lN cok 1 rfl rfl rfl rfl rfl (by first | exact Nat.le_of_ble_eq_true rfl | omega | (dsimp only; omega) | (simp only [addS_eq, mulS_eq]; omega)) ?_) | (refine still_in ?_; first | refine still_nil ?_ | refine still_drop (by decide) ?_ | (refine still_keep (by decide) rfl ?_ ?_; first | exact QuV.lN cok 0 rfl rfl rfl rfl rfl (by first | exact Nat.le_of_ble_eq_true rfl | omega | (dsimp only; omega) | (simp only [addS_eq, mulS_eq]; omega)) rfl)) | (refine LdG.keep ?_; first | refine LdG.lN cok 0 rfl rfl rfl rfl rfl (by first | exact Nat.le_of_ble_eq_true rfl | omega | (dsimp only; omega) | (simp only [addS_eq, mulS_eq]; omega)) ?_ | refine LdG.lN cok 1 rfl rfl rfl rfl rfl (by first | exact Nat.le_of_ble_eq_true rfl | omega | (dsimp only; omega) | (simp only [addS_eq, mulS_eq]; omega)) ?_) | (refine OpG.keep ?_; first | refine OpG.sL cok 0 rfl rfl rfl rfl rfl rfl rfl (by first | exact Nat.le_of_ble_eq_true rfl | omega | (dsimp only; omega) | (simp only [addS_eq, mulS_eq]; omega)) ?_ | refine OpG.sL cok 1 rfl rfl rfl rfl rfl rfl rfl (by first | exact Nat.le_of_ble_eq_true rfl | omega | (dsimp only; omega) | (simp only [addS_eq, mulS_eq]; omega)) ?_) | refine W.drawI 4 cok [0, 0, 1, 7] [0, 1, 2, 3] [0, 1] (by kernel_rfl) (by kernel_rfl) ?_)
  refine Fin.drop (⟨xb, 8, T, _⟩ :: G) [_, _, _] ⟨List.replicate 8 0, 0, 0, 0, congrArg (fun c => (⟨I, ⟨xb, 8, T, c⟩ :: G⟩ : St)) (clr8 hl), rfl, ?_, ?_, tup2 rfl (by rw [if_pos rfl]; rfl)⟩
  · intro d hd; rw [List.eq_of_mem_replicate hd]; decide
  · rw [Nat.div_zero]; rfl

theorem NLZ_norm {S : St} {y : Nat} (hy : y < 18446744073709551616) (h0 : y ≠ 0) :
    CallG Hvaf.prog 411 #[.int .u64 (y : Nat)] S fun r S' => S = S' ∧ ∃ s : Nat, r = .int .i64 (s : Nat) ∧ s ≤ 63 ∧ y * 2 ^ s < 18446744073709551616 ∧ 9223372036854775808 ≤ y * 2 ^ s := by
  refine CallG.start (C := mkC Hvaf.prog) cok (args := [.int .u64 (y : Nat)]) Hvaf.func411 rfl Hvaf.ntmps411 (by simp) (by kernel_rfl) ?_
  repeat (first | refine SeqS.go cok ?_)
  refine (LZ64_norm hy h0).mono ?_
  rintro r _ - ⟨rfl, s, rfl, h⟩
  repeat (first | refine SeqS.go cok ?_)
  exact Fin.same ⟨rfl, s, rfl, h⟩
theorem lv_ge_at {V : List Nat} {i : Nat} (h : i < V.length) : 18446744073709551616 ^ i * V.getD i 0 ≤ lv V := by
  have a := lv_split V (i + 1) (by omega)
  rw [lv_take_succ V i h] at a
  omega
theorem V_ge {V : List Nat} {n : Nat} (hn : n ≤ V.length) (hp : 0 < n) (h0 : 0 < V.getD (n - 1) 0) : 18446744073709551616 ^ (n - 1) ≤ lv V := by
  have a := lv_ge_at (V := V) (i := n - 1) (by omega)
  have b := Nat.mul_le_mul_left (18446744073709551616 ^ (n - 1)) h0
  omega
theorem dv_lt {X : List Nat} {t n B : Nat} (hX : Lim X) (hl : X.length = 8) (hd : ∀ d ∈ X.drop t, d = 0) (ht : t ≤ 8) (htn : t < n) (hB : 18446744073709551616 ^ (n - 1) ≤ B) : lv X < B := by
  have a := lv_split X t (by omega)
  rw [lv_zero hd, Nat.mul_zero, Nat.add_zero] at a
  have b := lv_take_lt hX (k := t) (by omega)
  have c : 18446744073709551616 ^ t ≤ 18446744073709551616 ^ (n - 1) := Nat.pow_le_pow_right (by decide) (by omega)
  omega
theorem dv_four {x0 x1 x2 x3 x4 x5 x6 x7 t : Nat} (ht : t < 5) (hd : ∀ d ∈ [x0, x1, x2, x3, x4, x5, x6, x7].drop t, d = 0) : lv [x0, x1, x2, x3, x4, x5, x6, x7] = x0 + 18446744073709551616 * x1 + 340282366920938463463374607431768211456 * x2 + 6277101735386680763835789423207666416102355444464034512896 * x3 := by
  have h4 : x4 = 0 ∧ x5 = 0 ∧ x6 = 0 ∧ x7 = 0 := by
    have hh : ∀ d ∈ [x4, x5, x6, x7], d = 0 := by
      intro d h
      refine hd d ?_
      have : [x4, x5, x6, x7] = ([x0, x1, x2, x3, x4, x5, x6, x7].drop t).drop (4 - t) := by rw [List.drop_drop, show t + (4 - t) = 4 by omega]; rfl
      rw [this] at h
      exact List.mem_of_mem_drop h
    exact ⟨hh _ (by simp), hh _ (by simp), hh _ (by simp), hh _ (by simp)⟩
  obtain ⟨rfl, rfl, rfl, rfl⟩ := h4
  simp only [lv]; omega
theorem copy9 {z cx : Nat → Value} {X : List Nat} (hl : X.length = 8) (hz : z 8 = .int .u64 (0 : Nat)) : updN z 0 (ivs .u64 (X ++ [0])) = updN z 0 (cellsFrom (updN cx 0 (ivs .u64 X)) 0 8) := by
  funext k
  have e8 : (cellsFrom (updN cx 0 (ivs .u64 X)) 0 8).length = 8 := by simp
  simp only [updN, ivs_length, List.length_append, hl, e8, Nat.zero_add, Nat.sub_zero, Nat.zero_le, true_and, List.length_cons, List.length_nil]
  by_cases h : k < 8
  · rw [if_pos (by omega), if_pos h, List.getD_eq_getElem?_getD, List.getD_eq_getElem?_getD, cellsFrom_get _ _ _ _ h]
    simp only [Nat.zero_add, updN, ivs_length, hl, Nat.zero_le, true_and, Nat.sub_zero, if_pos h, Option.getD_some, ivs, List.map_append]
    rw [List.getElem?_append_left (by simp; omega), ← List.getD_eq_getElem?_getD, if_pos (by simp; omega)]
  · by_cases h9 : k = 8
    · subst h9
      rw [if_pos (by omega), if_neg (by omega), hz, ivs, List.map_append, List.getD_eq_getElem?_getD, List.getElem?_append_right (by simp; omega)]
      simp [hl]
    · rw [if_neg (by omega), if_neg h]

theorem _root_.Go.HL.CallG.arg1 {P : Program} {f : FuncId} {S : St} {K : Post} {v : Value} (v' : Value) (h : v = v') (k : CallG P f #[v'] S K) : CallG P f #[v] S K := h ▸ k
theorem box_at {v0 v1 v2 v3 n : Nat} (hn : 0 < n) (hn4 : n ≤ 4) : vc (WV v0 v1 v2 v3) (addS 0 (mulS (n - 1) 1)) = .int .u64 ([v0, v1, v2, v3].getD (n - 1) 0 : Nat) := by
  have : n = 1 ∨ n = 2 ∨ n = 3 ∨ n = 4 := by omega
  rcases this with rfl | rfl | rfl | rfl <;> rfl
theorem box_row {v0 v1 v2 v3 : Nat} : updN (vc (WV v0 v1 v2 v3)) 0 (ivs .u64 [v0, v1, v2, v3]) = vc (WV v0 v1 v2 v3) := by
  refine updN_self ⟨fun i hi => ?_⟩
  match i, hi with
  | 0, _ => rfl
  | 1, _ => rfl
  | 2, _ => rfl
  | 3, _ => rfl
theorem one_row {cx : Nat → Value} {X : List Nat} {p : Nat} (hp : p < X.length) : one (updN cx 0 (ivs .u64 X) (0 + p)) = true := by
  rw [updN_get (by simpa using hp), ivs, List.getD_eq_getElem?_getD, List.getElem?_map, List.getElem?_eq_getElem hp]; rfl
theorem pth0 {c : Nat → Value} (h1 : c 1 = .int .u8 (0 : Nat)) (h2 : c 2 = .int .u8 (0 : Nat)) : updN c 1 (ivs .u8 [0, 0]) = c := by
  refine updN_self ⟨fun i hi => ?_⟩
  match i, hi with
  | 0, _ => exact h1
  | 1, _ => exact h2
theorem nl_of {w0 w1 w2 w3 n : Nat} (hn : 1 ≤ n) (hn4 : n ≤ 4) (hz : ∀ i, n ≤ i → [w0, w1, w2, w3].getD i 0 = 0) (h0 : 0 < [w0, w1, w2, w3].getD (n - 1) 0) : nlimbs w0 w1 w2 w3 = n := by
  have : n = 1 ∨ n = 2 ∨ n = 3 ∨ n = 4 := by omega
  rcases this with rfl | rfl | rfl | rfl
  · have a := hz 1 (by omega); have b := hz 2 (by omega); have c := hz 3 (by omega)
    simp at a b c h0; simp [nlimbs, a, b, c]; omega
  · have b := hz 2 (by omega); have c := hz 3 (by omega)
    simp at b c h0; simp [nlimbs, b, c]; omega
  · have c := hz 3 (by omega)
    simp at c h0; simp [nlimbs, c]; omega
  · simp at h0; simp [nlimbs]; omega
theorem nine {R : List Nat} (h : R.length = 9) : ∃ a b c d e f g k l, R = [a, b, c, d, e, f, g, k, l] := by
  match R, h with
  | [a, b, c, d, e, f, g, k, l], _ => exact ⟨a, b, c, d, e, f, g, k, l, rfl⟩
theorem pth1 {c : Nat → Value} {f k f' : Nat} : upd (updN c 1 (ivs .u8 [f, k])) 1 (.int .u8 (f' : Nat)) = updN c 1 (ivs .u8 [f', k]) := upd_updN_set (o := 1) (i := 0) (by simp)
theorem pth2 {c : Nat → Value} {f k f' k' : Nat} : upd (upd (updN c 1 (ivs .u8 [f, k])) 1 (.int .u8 (f' : Nat))) 2 (.int .u8 (k' : Nat)) = updN c 1 (ivs .u8 [f', k']) := by
  rw [pth1]; exact upd_updN_set (o := 1) (i := 1) (by simp)
theorem lv_low4 {U : List Nat} (hl : U.length = 9) (h : lv U < 115792089237316195423570985008687907853269984665640564039457584007913129639936) : lv (U.take 4) = lv U := by
  have a := lv_split U 4 (by omega)
  have b := lv_drop_zero (L := U) (k := 4) (by omega) h
  rw [b, Nat.mul_zero, Nat.add_zero] at a
  exact a.symm

theorem divide_rest {I : Ent → Prop} {G : List Ent} {xb v0 v1 v2 v3 : Nat} {T : TypeId} {cx : Nat → Value} {X : List Nat} (hX : Lim X) (hl : X.length = 8) (n : Nat) (hnl : nlimbs v0 v1 v2 v3 = n) (h0 : 0 < n) (hn4 : n ≤ 4)
    (hV : Lim [v0, v1, v2, v3]) (hz : ∀ i, n ≤ i → [v0, v1, v2, v3].getD i 0 = 0) (ht : 0 < [v0, v1, v2, v3].getD (n - 1) 0) :
    CallG Hvaf.prog 418 #[ptr xb 0, WV v0 v1 v2 v3] ⟨I, ⟨xb, 8, T, updN cx 0 (ivs .u64 X)⟩ :: G⟩ (DivPost I G xb T cx (lv X) (lv [v0, v1, v2, v3])) := by
  have hge := V_ge (V := [v0, v1, v2, v3]) hn4 h0 ht
  replace hge : 18446744073709551616 ^ (n - 1) ≤ lv [v0, v1, v2, v3] := hge
  refine CallG.start (C := mkC Hvaf.prog) cok (args := [ptr xb 0, WV v0 v1 v2 v3]) Hvaf.func418 rfl Hvaf.ntmps418 (by simp) (by kernel_rfl) ?_
  intro bb rb pb
  repeat (first | refine SeqS.go cok ?_ | (refine QuG.keep ?_; first | refine QuG.lN cok 2 rfl rfl rfl rfl rfl (by first | exact Nat.le_of_ble_eq_true rfl | omega | (dsimp only; omega) | (simp only [addS_eq, mulS_eq]; omega)) ?_))
  refine ULimbs_spec.mono ?_
  rw [hnl]
  rintro r _ - ⟨rfl, rfl⟩
  repeat (first | refine SeqS.go cok ?_ | (refine CondS.keep ?_; first | refine CondS.d0 rfl (by omega) ?_))
  refine W.loopC cok (by kernel_rfl) 0 (fun (t : Nat) e' => t ≤ 8 ∧ (∀ d ∈ X.drop t, d = 0) ∧
      slots [(0, ptr xb 0), (3, ptr bb 0), (4, ptr rb 0), (5, ptr pb 0), (6, .int .u8 (n : Nat)), (7, .int .u8 (t : Nat))] e') (fun t => t) 8 ⟨Nat.le_refl _, by rw [List.drop_of_length_le (by omega)]; simp, rfl, rfl, rfl, rfl, rfl, rfl, trivial⟩
      (fun e' => ∃ t, t ≤ 8 ∧ (∀ d ∈ X.drop t, d = 0) ∧ (t = 0 ∨ 0 < X.getD (t - 1) 0) ∧
      slots [(0, ptr xb 0), (3, ptr bb 0), (4, ptr rb 0), (5, ptr pb 0), (6, .int .u8 (n : Nat)), (7, .int .u8 (t : Nat))] e') ?_ ?_
  · rintro e' ⟨t, ht8, hd, htop, hsl⟩
    refine SeqS.slots cok _ hsl fun e => ?_
    by_cases htn : t < n
    · obtain ⟨x0, x1, x2, x3, x4, x5, x6, x7, rfl⟩ := eight hl
      repeat (first | refine SeqS.go cok ?_ | refine And.intro (Eq.refl true) ?_ | refine And.intro (by dsimp only; omega) ?_ | (refine NatS.keep ?_; first | with_reducible refine NatS.lit ?_) | (refine ValS.keep ?_; first | with_reducible refine ValS.sl0 ?_) | (refine QuG.keep ?_; first | refine QuG.lN cok 3 rfl rfl rfl rfl rfl (by first | exact Nat.le_of_ble_eq_true rfl | omega | (dsimp only; omega) | (simp only [addS_eq, mulS_eq]; omega)) ?_) | (refine OpG.keep ?_; first | refine OpG.sL cok 1 rfl rfl rfl rfl rfl rfl rfl (by first | exact Nat.le_of_ble_eq_true rfl | omega | (dsimp only; omega) | (simp only [addS_eq, mulS_eq]; omega)) ?_) | (refine CondS.keep ?_; first | refine CondS.d1 rfl (by omega) ?_))
      refine OpG.keep ?_
      refine OpG.clear cok 3 rfl rfl rfl rfl (fun p hp => ?_) rfl rfl ?_ ?_
      · obtain rfl : p = 0 := by simpa using hp
        rfl
      · exact Nat.le_of_ble_eq_true rfl
      repeat (first | refine SeqS.go cok ?_ | (refine QuG.keep ?_; first | refine QuG.lN cok 0 rfl rfl rfl rfl rfl (by first | exact Nat.le_of_ble_eq_true rfl | omega | (dsimp only; omega) | (simp only [addS_eq, mulS_eq]; omega)) ?_ | refine QuG.lN cok 1 rfl rfl rfl rfl rfl (by first | exact Nat.le_of_ble_eq_true rfl | omega | (dsimp only; omega) | (simp only [addS_eq, mulS_eq]; omega)) ?_) | (refine still_in ?_; first | refine still_nil ?_ | refine still_drop (by decide) ?_ | (refine still_keep (by decide) rfl ?_ ?_; first | exact QuV.lN cok 0 rfl rfl rfl rfl rfl (by first | exact Nat.le_of_ble_eq_true rfl | omega | (dsimp only; omega) | (simp only [addS_eq, mulS_eq]; omega)) rfl)) | (refine LdG.keep ?_; first | refine LdG.lN cok 0 rfl rfl rfl rfl rfl (by first | exact Nat.le_of_ble_eq_true rfl | omega | (dsimp only; omega) | (simp only [addS_eq, mulS_eq]; omega)) ?_ | refine LdG.lN cok 1 rfl rfl rfl rfl rfl (by first | exact Nat.le_of_ble_eq_true rfl | omega | (dsimp only; omega) | (simp only [addS_eq, mulS_eq]; omega)) ?_) | (refine OpG.keep ?_; first | refine OpG.sL cok 0 rfl rfl rfl rfl rfl rfl rfl (by first | exact Nat.le_of_ble_eq_true rfl | omega | (dsimp only; omega) | (simp only [addS_eq, mulS_eq]; omega)) ?_ | refine OpG.sL cok 1 rfl rfl rfl rfl rfl rfl rfl (by first | exact Nat.le_of_ble_eq_true rfl | omega | (dsimp only; omega) | (simp only [addS_eq, mulS_eq]; omega)) ?_) | refine W.drawI 11 cok [0, 0, 1, 7] [0, 1, 2, 3] [0, 1] (by kernel_rfl) (by kernel_rfl) ?_)
      refine Fin.drop (⟨xb, 8, T, _⟩ :: G) [_, _, _] ⟨List.replicate 8 0, 0, 0, 0, congrArg (fun c => (⟨I, ⟨xb, 8, T, c⟩ :: G⟩ : St)) (clr8 hl), rfl, ?_, ?_, tup2 (a := WV x0 x1 x2 x3) rfl ?_⟩
      · intro d hd; rw [List.eq_of_mem_replicate hd]; decide
      · rw [Nat.div_eq_of_lt (dv_lt hX hl hd ht8 htn hge)]; rfl
      · have hB := dv_lt hX hl hd ht8 htn hge
        rw [if_neg (by omega), Nat.mod_eq_of_lt hB]
        exact WV_eq (hX _ (by simp)) (hX _ (by simp)) (hX _ (by simp)) (hX _ (by simp)) (dv_four (by omega) hd)
    · by_cases hn1 : n = 1
      · subst hn1
        obtain ⟨e1, e2, e3⟩ : v1 = 0 ∧ v2 = 0 ∧ v3 = 0 := ⟨hz 1 (by omega), hz 2 (by omega), hz 3 (by omega)⟩
        subst e1 e2 e3
        have eB : lv [v0, 0, 0, 0] = v0 := by simp [lv]
        have hv0 : 0 < v0 := ht
        rw [eB]
        have hv0M : v0 < 18446744073709551616 := hV v0 (by simp)
        repeat (first | refine SeqS.go cok ?_ | refine CondS.t rfl ?_ | refine And.intro (by dsimp only; omega) ?_ | (refine NatS.keep ?_; first | with_reducible refine NatS.lit ?_) | (refine ValS.keep ?_; first | (with_reducible refine ValS.kU8 ?_; first | (with_reducible refine ValS.addU8_L ?_ ?_ ; omega) | (with_reducible refine ValS.subU8 ?_ ?_ ?_ ; omega; omega))) | (refine QuG.keep ?_; first | refine QuG.l1 cok 2 rfl rfl rfl rfl rfl (by first | exact Nat.le_of_ble_eq_true rfl | omega | (dsimp only; omega) | (simp only [addS_eq, mulS_eq]; omega)) ?_) | (refine OpG.keep ?_; first | refine OpG.s1 cok 0 rfl rfl rfl rfl rfl (by first | exact Nat.le_of_ble_eq_true rfl | omega | (dsimp only; omega) | (simp only [addS_eq, mulS_eq]; omega)) rfl rfl ?_) | (refine CondS.keep ?_; first | refine CondS.d0 rfl (by omega) ?_))
        refine CallG.focus 3 rfl ?_
        refine (short_spec hX hl hv0 hv0M ht8 hd).mono ?_
        rintro r _ - ⟨R, rfl, l1, m1, e1, rfl⟩
        repeat (first | refine SeqS.go cok ?_ | refine And.intro (by dsimp only; omega) ?_ | (refine NatS.keep ?_; first | with_reducible refine NatS.lit ?_) | (refine QuG.keep ?_; first | refine QuG.lN cok 1 rfl rfl rfl rfl rfl (by first | exact Nat.le_of_ble_eq_true rfl | omega | (dsimp only; omega) | (simp only [addS_eq, mulS_eq]; omega)) ?_ | refine QuG.lN cok 2 rfl rfl rfl rfl rfl (by first | exact Nat.le_of_ble_eq_true rfl | omega | (dsimp only; omega) | (simp only [addS_eq, mulS_eq]; omega)) ?_) | (refine still_in ?_; first | refine still_nil ?_ | refine still_drop (by decide) ?_ | (refine still_keep (by decide) rfl ?_ ?_; first | exact QuV.lN cok 1 rfl rfl rfl rfl rfl (by first | exact Nat.le_of_ble_eq_true rfl | omega | (dsimp only; omega) | (simp only [addS_eq, mulS_eq]; omega)) rfl)) | (refine LdG.keep ?_; first | refine LdG.lN cok 1 rfl rfl rfl rfl rfl (by first | exact Nat.le_of_ble_eq_true rfl | omega | (dsimp only; omega) | (simp only [addS_eq, mulS_eq]; omega)) ?_ | refine LdG.lN cok 2 rfl rfl rfl rfl rfl (by first | exact Nat.le_of_ble_eq_true rfl | omega | (dsimp only; omega) | (simp only [addS_eq, mulS_eq]; omega)) ?_) | (refine OpG.keep ?_; first | refine OpG.s1 cok 2 rfl rfl rfl rfl rfl (by first | exact Nat.le_of_ble_eq_true rfl | omega | (dsimp only; omega) | (simp only [addS_eq, mulS_eq]; omega)) rfl rfl ?_ | refine OpG.sL cok 1 rfl rfl rfl rfl rfl rfl rfl (by first | exact Nat.le_of_ble_eq_true rfl | omega | (dsimp only; omega) | (simp only [addS_eq, mulS_eq]; omega)) ?_ | refine OpG.sL cok 2 rfl rfl rfl rfl rfl rfl rfl (by first | exact Nat.le_of_ble_eq_true rfl | omega | (dsimp only; omega) | (simp only [addS_eq, mulS_eq]; omega)) ?_) | refine W.drawI 15 cok [0, 0, 1, 7] [0, 1, 2, 3] [0, 1] (by kernel_rfl) (by kernel_rfl) ?_)
        refine Fin.drop1 _ G [_, _, _] ⟨R, t - 1 + 1, 0, 0, rfl, l1, m1, e1, tup2 (a := WV (lv X % v0) 0 0 0) rfl ?_⟩
        rw [if_neg (by omega)]
        exact WV_eq (Nat.lt_trans (Nat.mod_lt _ hv0) hv0M) (by decide) (by decide) (by decide) (by omega)
      · repeat (first | refine SeqS.go cok ?_ | (refine ValS.keep ?_; first | (with_reducible refine ValS.kU8 ?_; first | (with_reducible refine ValS.addU8_L ?_ ?_ ; omega) | (with_reducible refine ValS.subU8 ?_ ?_ ?_ ; omega; omega))) | (refine OpG.keep ?_; first | refine OpG.s1 cok 0 rfl rfl rfl rfl rfl (by first | exact Nat.le_of_ble_eq_true rfl | omega | (dsimp only; omega) | (simp only [addS_eq, mulS_eq]; omega)) rfl rfl ?_) | (refine CondS.keep ?_; first | refine CondS.d0 rfl (by omega) ?_))
        intro ub
        repeat (first | refine SeqS.go cok ?_ | refine And.intro (Eq.refl true) ?_ | (refine ValS.keep ?_; first | with_reducible refine ValS.sl0 ?_) | refine W.drawI 17 cok [0, 0, 2, 6, 15] [0, 1, 2, 3, 4] [] (by kernel_rfl) (by kernel_rfl) ?_)
        refine OpG.keep ?_
        refine OpG.copy cok 0 rfl (y := ⟨xb, 8, T, updN cx 0 (ivs .u64 X)⟩) (.inr (List.mem_of_getElem? (i := 4) rfl)) rfl rfl rfl rfl rfl rfl rfl ?_ ?_ ?_ ?_
        · exact Nat.le_of_ble_eq_true rfl
        · exact Nat.le_of_ble_eq_true rfl
        · intro p hp
          exact one_row (by rw [hl]; exact hp)
        repeat (first | refine SeqS.go cok ?_ | refine And.intro (by dsimp only; omega) ?_ | (refine NatS.keep ?_; first | with_reducible refine NatS.nat ?_) | (refine ValS.keep ?_; first | (with_reducible refine ValS.kU8 ?_; first | (with_reducible refine ValS.subU8_L ?_ ?_ ?_ ; omega; omega))))
        refine QuG.keep ?_
        refine QuG.l1 cok 3 rfl rfl rfl rfl rfl ?_ ?_
        · show addS 0 (mulS (n - 1) 1) < 4
          simp only [addS_eq, mulS_eq]; omega
        skip
        refine CallG.arg1 _ (box_at h0 hn4) ?_
        refine (NLZ_norm (getD_lim hV _) (by omega)).mono ?_
        rintro r _ - ⟨rfl, s, rfl, hs, hs1, hs2⟩
        repeat (first | refine SeqS.go cok ?_ | refine And.intro (Eq.refl true) ?_ | (refine ValS.keep ?_; first | (with_reducible refine ValS.kU8 ?_; first | (with_reducible refine ValS.convU8 ?_ ?_ ; omega)) | with_reducible refine ValS.sl0 ?_))
        have dn := DN.make hV rfl h0 hn4 hz hs ht hs1 hs2
        have di := DI.make hX hl dn hs ht8 h0 (by omega) hd
        have hu := ShiftUp_spec (I := I) (G := [⟨pb, 3, 417, upd z417 0 (.int .u8 (t - n + 1 : Nat))⟩, ⟨rb, 4, 79, z_int__u64_0⟩, ⟨bb, 4, 79, vc (WV v0 v1 v2 v3)⟩, ⟨xb, 8, T, updN cx 0 (ivs .u64 X)⟩] ++ G) (b := ub) (sz := 9) (o := 0) (cap := 9) (s := s) (T := 478) (c := z_int__u64_0) (ds := X ++ [0]) (by omega) (Lim.snoc hX (by decide)) (by simp [hl]) (by simp [hl]) (by simp [hl])
        have e9 : (X ++ [0]).length = 9 := by simp [hl]
        rw [copy9 (cx := cx) hl rfl, e9] at hu
        refine hu.mono ?_
        rintro r _ - rfl
        repeat (first | refine SeqS.go cok ?_ | refine And.intro (Eq.refl true) ?_ | (refine ValS.keep ?_; first | with_reducible refine ValS.sl0 ?_))
        refine CallG.focus 3 rfl ?_
        have hv := ShiftUp_spec (I := I) (G := [⟨ub, 9, 478, updN z_int__u64_0 0 (ivs .u64 (shUp s 0 (X ++ [0])))⟩, ⟨pb, 3, 417, upd z417 0 (.int .u8 (t - n + 1 : Nat))⟩, ⟨rb, 4, 79, z_int__u64_0⟩, ⟨xb, 8, T, updN cx 0 (ivs .u64 X)⟩] ++ G) (b := bb) (sz := 4) (o := 0) (cap := 4) (s := s) (T := 79) (c := vc (WV v0 v1 v2 v3)) (ds := [v0, v1, v2, v3]) (by omega) hV (by simp) (by simp) (by simp)
        rw [box_row] at hv
        refine hv.mono ?_
        rintro r _ - rfl
        repeat (first | refine SeqS.go cok ?_ | refine And.intro (Eq.refl true) ?_ | (refine ValS.keep ?_; first | with_reducible refine ValS.sl0 ?_))
        refine OpG.keep ?_
        refine OpG.clear cok 4 rfl rfl rfl rfl (fun p hp => ?_) rfl rfl ?_ ?_
        · obtain rfl : p = 0 := by simpa using hp
          rfl
        · exact Nat.le_of_ble_eq_true rfl
        obtain ⟨w0, w1, w2, w3, hw⟩ := four (R := shUp s 0 [v0, v1, v2, v3]) dn.hl
        have hVn := dn.hV
        have htn2 := dn.top
        have hval := dn.val
        rw [hw] at hVn htn2 hval
        have hzw : ∀ i, n ≤ i → [w0, w1, w2, w3].getD i 0 = 0 := by
          intro i hi
          have hz0 := lv_drop_zero (L := [w0, w1, w2, w3]) (k := n) hn4 (by rw [hval]; exact dn.lt)
          have := lv_getD_zero hz0 (i - n)
          rw [List.getD_eq_getElem?_getD, List.getElem?_drop, show n + (i - n) = i by omega, ← List.getD_eq_getElem?_getD] at this
          exact this
        have hnw := nl_of h0 hn4 hzw (by omega)
        have hlw : lv ([w0, w1, w2, w3].take n) = lv [v0, v1, v2, v3] * 2 ^ s := by
          have a := lv_split [w0, w1, w2, w3] n hn4
          rw [lv_drop_zero (L := [w0, w1, w2, w3]) (k := n) hn4 (by rw [hval]; exact dn.lt), Nat.mul_zero, Nat.add_zero] at a
          rw [← a]; exact hval
        have hb0 : 0 < lv [v0, v1, v2, v3] * 2 ^ s := Nat.mul_pos (Nat.lt_of_lt_of_le (pow_M_pos _) hge) (Nat.two_pow_pos s)
        repeat (first | refine SeqS.go cok ?_ | (refine QuG.keep ?_; first | refine QuG.l1 cok 2 rfl rfl rfl rfl rfl (by first | exact Nat.le_of_ble_eq_true rfl | omega | (dsimp only; omega) | (simp only [addS_eq, mulS_eq]; omega)) ?_))
        refine W.focus cok (by kernel_rfl) 1 rfl ?_
        refine W.loopE cok (by kernel_rfl) 2 (fun (p : Nat × List Nat × List Nat × Nat × Nat) e' S' => S' = ⟨I, ⟨ub, 9, 478, updN z_int__u64_0 0 (ivs .u64 p.2.1)⟩ :: ⟨bb, 4, 79, updN (vc (WV v0 v1 v2 v3)) 0 (ivs .u64 [w0, w1, w2, w3])⟩ ::
            ⟨pb, 3, 417, updN (upd z417 0 (.int .u8 (t - n + 1 : Nat))) 1 (ivs .u8 [p.2.2.2.1, p.2.2.2.2])⟩ :: ⟨rb, 4, 79, z_int__u64_0⟩ :: ⟨xb, 8, T, updN cx 0 (ivs .u64 p.2.2.1)⟩ :: G⟩ ∧ p.1 + n ≤ 9 ∧ DI (lv X * 2 ^ s) (lv [v0, v1, v2, v3] * 2 ^ s) p.1 p.2.1 p.2.2.1 ∧ p.2.2.2.1 < 256 ∧ p.2.2.2.2 < 256 ∧
            slots [(0, ptr xb 0), (3, ptr bb 0), (4, ptr rb 0), (5, ptr pb 0), (6, .int .u8 (n : Nat)), (8, ptr ub 0), (9, .int .u8 (s : Nat)), (10, .int .u8 (p.1 : Nat))] e') (fun p => p.1) (t - n + 1, shUp s 0 (X ++ [0]), List.replicate 8 0, 0, 0)
            ⟨?_, by show t - n + 1 + n ≤ 9; omega, di, Nat.zero_lt_succ _, Nat.zero_lt_succ _, rfl, rfl, rfl, rfl, rfl, rfl, rfl, rfl, trivial⟩
            (fun e' S' => ∃ U Q f k, S' = ⟨I, ⟨ub, 9, 478, updN z_int__u64_0 0 (ivs .u64 U)⟩ :: ⟨bb, 4, 79, updN (vc (WV v0 v1 v2 v3)) 0 (ivs .u64 [w0, w1, w2, w3])⟩ ::
            ⟨pb, 3, 417, updN (upd z417 0 (.int .u8 (t - n + 1 : Nat))) 1 (ivs .u8 [f, k])⟩ :: ⟨rb, 4, 79, z_int__u64_0⟩ :: ⟨xb, 8, T, updN cx 0 (ivs .u64 Q)⟩ :: G⟩ ∧ DI (lv X * 2 ^ s) (lv [v0, v1, v2, v3] * 2 ^ s) 0 U Q ∧
            slots [(0, ptr xb 0), (3, ptr bb 0), (4, ptr rb 0), (5, ptr pb 0), (8, ptr ub 0), (9, .int .u8 (s : Nat))] e') ?_ ?_
        · refine Eq.trans (b := ⟨I, _ :: ⟨bb, 4, 79, updN (vc (WV v0 v1 v2 v3)) 0 (ivs .u64 (shUp s 0 [v0, v1, v2, v3]))⟩ :: ⟨pb, 3, 417, upd z417 0 (.int .u8 (t - n + 1 : Nat))⟩ :: _ :: ⟨xb, 8, T, updN (updN cx 0 (ivs .u64 X)) 0 (ivs .u64 (List.replicate 8 0))⟩ :: G⟩) rfl ?_
          dsimp only
          rw [hw, clr8 hl, pth0 rfl rfl]
        · rintro e' S2 - ⟨U, Q, f, k, hS, di0, hsl⟩
          subst hS
          refine SeqS.slots cok _ hsl fun e => ?_
          have hfin := di0.fin (Nat.two_pow_pos s) (Nat.lt_of_lt_of_le (pow_M_pos _) hge)
          have hU9 := di0.hU
          have hUW : lv U < 115792089237316195423570985008687907853269984665640564039457584007913129639936 := by
            have a : lv U < lv [v0, v1, v2, v3] * 2 ^ s := di0.lt
            have b := dn.lt
            have c : 18446744073709551616 ^ n ≤ 18446744073709551616 ^ 4 := Nat.pow_le_pow_right (by decide) hn4
            have e : (18446744073709551616 : Nat) ^ 4 = 115792089237316195423570985008687907853269984665640564039457584007913129639936 := by decide
            omega
          have hl4 := lv_low4 di0.hl hUW
          obtain ⟨u0, u1, u2, u3, u4, u5, u6, u7, u8, rfl⟩ := nine di0.hl
          have hL4 : Lim [u0, u1, u2, u3] := fun d hd => hU9 d (by simp at hd ⊢; omega)
          have hd := ShiftDown_spec (I := I) (G := [⟨ub, 9, 478, updN z_int__u64_0 0 (ivs .u64 [u0, u1, u2, u3, u4, u5, u6, u7, u8])⟩, ⟨bb, 4, 79, updN (vc (WV v0 v1 v2 v3)) 0 (ivs .u64 [w0, w1, w2, w3])⟩, ⟨pb, 3, 417, updN (upd z417 0 (.int .u8 (t - n + 1 : Nat))) 1 (ivs .u8 [f, k])⟩, ⟨xb, 8, T, updN cx 0 (ivs .u64 Q)⟩] ++ G)
            (b := rb) (sz := 4) (o := 0) (cap := 4) (s := s) (T := 79) (c := z_int__u64_0) (ds := [u0, u1, u2, u3]) (by omega) hL4 (by simp) (by simp) (by simp)
          repeat (first | refine SeqS.go cok ?_ | refine And.intro (Eq.refl true) ?_ | refine And.intro (by dsimp only; omega) ?_ | (refine NatS.keep ?_; first | with_reducible refine NatS.lit ?_) | (refine ValS.keep ?_; first | with_reducible refine ValS.sl0 ?_) | (refine QuG.keep ?_; first | refine QuG.lN cok 0 rfl rfl rfl rfl rfl (by first | exact Nat.le_of_ble_eq_true rfl | omega | (dsimp only; omega) | (simp only [addS_eq, mulS_eq]; omega)) ?_) | (refine OpG.keep ?_; first | refine OpG.sL cok 3 rfl rfl rfl rfl rfl rfl rfl (by first | exact Nat.le_of_ble_eq_true rfl | omega | (dsimp only; omega) | (simp only [addS_eq, mulS_eq]; omega)) ?_))
          refine CallG.focus 3 rfl ?_
          refine hd.mono ?_
          rintro r _ - ⟨R, rfl, lR, mR, eR⟩
          obtain ⟨r0, r1, r2, r3, rfl⟩ := four lR
          repeat (first | refine SeqS.go cok ?_ | (refine QuG.keep ?_; first | refine QuG.lN cok 0 rfl rfl rfl rfl rfl (by first | exact Nat.le_of_ble_eq_true rfl | omega | (dsimp only; omega) | (simp only [addS_eq, mulS_eq]; omega)) ?_ | refine QuG.lN cok 3 rfl rfl rfl rfl rfl (by first | exact Nat.le_of_ble_eq_true rfl | omega | (dsimp only; omega) | (simp only [addS_eq, mulS_eq]; omega)) ?_) | (refine still_in ?_; first | refine still_nil ?_ | refine still_drop (by decide) ?_ | (refine still_keep (by decide) rfl ?_ ?_; first | exact QuV.lN cok 3 rfl rfl rfl rfl rfl (by first | exact Nat.le_of_ble_eq_true rfl | omega | (dsimp only; omega) | (simp only [addS_eq, mulS_eq]; omega)) rfl)) | (refine LdG.keep ?_; first | refine LdG.lN cok 0 rfl rfl rfl rfl rfl (by first | exact Nat.le_of_ble_eq_true rfl | omega | (dsimp only; omega) | (simp only [addS_eq, mulS_eq]; omega)) ?_ | refine LdG.lN cok 3 rfl rfl rfl rfl rfl (by first | exact Nat.le_of_ble_eq_true rfl | omega | (dsimp only; omega) | (simp only [addS_eq, mulS_eq]; omega)) ?_) | (refine OpG.keep ?_; first | refine OpG.sL cok 0 rfl rfl rfl rfl rfl rfl rfl (by first | exact Nat.le_of_ble_eq_true rfl | omega | (dsimp only; omega) | (simp only [addS_eq, mulS_eq]; omega)) ?_ | refine OpG.sL cok 3 rfl rfl rfl rfl rfl rfl rfl (by first | exact Nat.le_of_ble_eq_true rfl | omega | (dsimp only; omega) | (simp only [addS_eq, mulS_eq]; omega)) ?_) | refine W.drawI 32 cok [0, 0, 1, 7] [0, 1, 2, 3] [0, 1] (by kernel_rfl) (by kernel_rfl) ?_)
          refine Fin.drop (⟨xb, 8, T, _⟩ :: G) [_, _, _, _] ⟨Q, t - n + 1, f, k, rfl, di0.hql, di0.hQ, hfin.1, tup2 (a := WV r0 r1 r2 r3) rfl ?_⟩
          rw [if_neg (by have := pow_M_pos (n - 1); omega), ← hfin.2, ← hl4]
          refine WV_eq (mR _ (by simp)) (mR _ (by simp)) (mR _ (by simp)) (mR _ (by simp)) ?_
          rw [show [u0, u1, u2, u3, u4, u5, u6, u7, u8].take 4 = [u0, u1, u2, u3] from rfl, ← eR]
          simp only [lv]; omega
        · rintro ⟨j, U, Q, f, k⟩ e' S2 - ⟨hS, hj, dj, hf, hk, hsl⟩
          dsimp only at hS hj dj hf hk hsl
          subst hS
          refine W.slots _ hsl fun e => ?_
          by_cases hj0 : j = 0
          · subst hj0
            repeat (first | refine SeqS.go cok ?_ | refine CondS.f rfl ?_)
            exact ⟨U, Q, f, k, rfl, dj, rfl, rfl, rfl, rfl, rfl, rfl, trivial⟩
          · obtain ⟨m, rfl⟩ : ∃ m, j = m + 1 := ⟨j - 1, by omega⟩
            have hql := dj.hql
            have hup := dj.up (n := n) dn.lt (by omega)
            have hrd := Round_spec (I := I) (G := [⟨pb, 3, 417, updN (upd z417 0 (.int .u8 (t - n + 1 : Nat))) 1 (ivs .u8 [f, k])⟩, ⟨rb, 4, 79, z_int__u64_0⟩, ⟨xb, 8, T, updN cx 0 (ivs .u64 Q)⟩] ++ G) (bu := ub) (bv := bb) (Tu := 478) (Tv := 79) (cu := z_int__u64_0) (cv := vc (WV v0 v1 v2 v3)) (n := n) (j := m) dj.hU hVn dj.hl (by omega) hn4 (by omega) hnw htn2
              (fun i hi => by
                have := lv_getD_zero hup (i - (m + (n + 1)))
                rw [List.getD_eq_getElem?_getD, List.getElem?_drop, show m + (n + 1) + (i - (m + (n + 1))) = i by omega, ← List.getD_eq_getElem?_getD] at this
                exact this) (by rw [hlw]; exact dj.low (by omega))
            rw [hlw] at hrd
            replace htn2 : Hid _ := ⟨htn2⟩
            replace hs1 : Hid _ := ⟨hs1⟩
            replace hs2 : Hid _ := ⟨hs2⟩
            repeat (first | refine SeqS.go cok ?_ | (refine ValS.keep ?_; first | (with_reducible refine ValS.kU8 ?_; first | (with_reducible refine ValS.subU8_L ?_ ?_ ?_ ; omega; omega))) | (refine CondS.keep ?_; first | refine CondS.d1 rfl (by omega) ?_))
            refine hrd.mono ?_
            rintro r _ - ⟨R, f', bk, rfl, lR, mR, eR, hf', rfl⟩
            have hst := dj.step (n := n) dn.lt hb0 h0 (by omega) lR mR eR
            repeat (first | refine SeqS.go cok ?_ | refine And.intro (by dsimp only; omega) ?_ | (refine NatS.keep ?_; first | with_reducible refine NatS.nat ?_) | (refine ValS.keep ?_; first | (with_reducible refine ValS.kU8 ?_; first | (with_reducible refine ValS.addWU8 ?_ ) | (with_reducible refine ValS.subU8_L ?_ ?_ ?_ ; omega; omega))) | (refine OpG.keep ?_; first | refine OpG.ar cok 4 rfl rfl rfl rfl rfl rfl (by first | omega | (simp; done) | (simp; omega)) (by first | omega | (simp; done) | (simp; omega)) rfl ?_) | (refine QuG.keep ?_; first | refine QuG.l1 cok 2 rfl rfl rfl rfl rfl (by first | exact Nat.le_of_ble_eq_true rfl | omega | (dsimp only; omega) | (simp only [addS_eq, mulS_eq]; omega)) ?_) | (refine OpG.keep ?_; first | refine OpG.s1 cok 2 rfl rfl rfl rfl rfl (by first | exact Nat.le_of_ble_eq_true rfl | omega | (dsimp only; omega) | (simp only [addS_eq, mulS_eq]; omega)) rfl rfl ?_))
            cases bk
            · repeat (first | refine SeqS.go cok ?_ | refine CondS.f rfl ?_ | (refine ValS.keep ?_; first | (with_reducible refine ValS.kU8 ?_; first | (with_reducible refine ValS.subU8_L ?_ ?_ ?_ ; omega; omega))))
              refine ⟨⟨m, _, _, (f + f') % 256, k⟩, ⟨congrArg (fun c => (⟨I, _ :: _ :: ⟨pb, 3, 417, c⟩ :: _ :: _ :: G⟩ : St)) pth1, by show m + n ≤ 9; omega, hst, Nat.mod_lt _ (by decide), hk, rfl, rfl, rfl, rfl, rfl, rfl, rfl, rfl, trivial⟩, by show m < m + 1; omega⟩
            · repeat (first | refine SeqS.go cok ?_ | refine CondS.t rfl ?_ | (refine ValS.keep ?_; first | (with_reducible refine ValS.kU8 ?_; first | (with_reducible refine ValS.addWU8_L ?_ ) | (with_reducible refine ValS.subU8_L ?_ ?_ ?_ ; omega; omega))) | (refine QuG.keep ?_; first | refine QuG.l1 cok 2 rfl rfl rfl rfl rfl (by first | exact Nat.le_of_ble_eq_true rfl | omega | (dsimp only; omega) | (simp only [addS_eq, mulS_eq]; omega)) ?_) | (refine OpG.keep ?_; first | refine OpG.s1 cok 2 rfl rfl rfl rfl rfl (by first | exact Nat.le_of_ble_eq_true rfl | omega | (dsimp only; omega) | (simp only [addS_eq, mulS_eq]; omega)) rfl rfl ?_))
              refine ⟨⟨m, _, _, (f + f') % 256, (k + 1) % 256⟩, ⟨congrArg (fun c => (⟨I, _ :: _ :: ⟨pb, 3, 417, c⟩ :: _ :: _ :: G⟩ : St)) pth2, by show m + n ≤ 9; omega, hst, Nat.mod_lt _ (by decide), Nat.mod_lt _ (by decide), rfl, rfl, rfl, rfl, rfl, rfl, rfl, rfl, trivial⟩, by show m < m + 1; omega⟩
  · rintro t e' ⟨ht8, hd, hsl⟩
    refine W.slots _ hsl fun e => ?_
    by_cases htt : t = 0
    · subst htt
      repeat (first | refine SeqS.go cok ?_ | refine GuardS.no rfl ?_ | refine CondS.f rfl ?_)
      exact ⟨rfl, 0, ht8, hd, .inl rfl, rfl, rfl, rfl, rfl, rfl, rfl, trivial⟩
    · repeat (first | refine SeqS.go cok ?_ | refine GuardS.yes rfl ?_ | refine And.intro (by dsimp only; omega) ?_ | (refine NatS.keep ?_; first | with_reducible refine NatS.nat ?_) | (refine ValS.keep ?_; first | (with_reducible refine ValS.kU8 ?_; first | (with_reducible refine ValS.subU8_L ?_ ?_ ?_ ; omega; omega))) | (refine QuG.keep ?_; first | refine QuG.ar cok 3 rfl rfl rfl rfl rfl rfl (by first | omega | (simp; done) | (simp; omega)) (by first | omega | (simp; done) | (simp; omega)) ?_) | (refine GuardS.keep ?_; first | refine GuardS.T1 rfl (by omega) ?_))
      (first | refine CondS.dec rfl (fun hx => ?_) (fun hx => ?_))
      · repeat (first | refine SeqS.go cok ?_ | (refine ValS.keep ?_; first | (with_reducible refine ValS.kU8 ?_; first | (with_reducible refine ValS.subU8_L ?_ ?_ ?_ ; omega; omega))))
        refine ⟨t - 1, ⟨rfl, by omega, ?_, rfl, rfl, rfl, rfl, rfl, rfl, trivial⟩, by show t - 1 < t; omega⟩
        intro d hd'
        rw [drop_cons' (by omega), show t - 1 + 1 = t by omega] at hd'
        rcases List.mem_cons.1 hd' with h | h
        · rw [h]; omega
        · exact hd d h
      · skip
        exact ⟨rfl, t, ht8, hd, .inr (by omega), rfl, rfl, rfl, rfl, rfl, rfl, trivial⟩
end Go.Proofs.YgvafwGreat
