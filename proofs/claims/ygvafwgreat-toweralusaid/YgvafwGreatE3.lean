import Derived.Test.YgvafwGreatE2
import Derived.Test.YgvafwGreatHW
import Derived.Test.YgvafwGreatY22
set_option exponentiation.threshold 1000
set_option maxRecDepth 100000
set_option maxHeartbeats 4000000
set_option linter.unusedVariables false
set_option linter.unusedSimpArgs false
-- v2
-- v4
-- v5
-- v6
-- v7
namespace Go.Proofs.YgvafwGreat
open Go.HL Go.Proofs

theorem bvs_getD' {l : List Nat} {i : Nat} (h : i < l.length) : (bvs l).getD i undef = .int .u8 (l.getD i 0 : Nat) := by
  rw [bvs, List.getD_eq_getElem?_getD, List.getElem?_map, List.getElem?_eq_getElem h, List.getD_eq_getElem?_getD, List.getElem?_eq_getElem h]; rfl
theorem row_cut {cm : Nat → Value} {mem : List Nat} {off n : Nat} (h : Row cm 0 (bvs mem)) (hon : off + n ≤ mem.length) : Row cm off (bvs (cutL mem off n)) := by
  refine ⟨fun i hi => ?_⟩
  rw [bvs_len, cutL_len] at hi
  have := h.get (off + i) (by rw [bvs_len]; omega)
  rw [Nat.zero_add] at this
  rw [this, bvs_getD' (by omega), bvs_getD' (by rw [cutL_len]; exact hi), cutL_get _ _ hi]
theorem cutL_len' (mem : List Nat) (o n : Nat) : (cutL mem o n).length = n := by simp [cutL]
theorem writeL_len' (mem : List Nat) (o : Nat) (bs : List Nat) : (writeL mem o bs).length = mem.length := by simp [writeL]
theorem writeL_get' {mem : List Nat} {o : Nat} {bs : List Nat} {i : Nat} (h : i < mem.length) : (writeL mem o bs).getD i 0 = if o ≤ i ∧ i < o + bs.length then bs.getD (i - o) 0 else mem.getD i 0 := by
  simp only [writeL, List.getD_eq_getElem?_getD, List.getElem?_map, List.getElem?_range h]; rfl
theorem row_write {cm : Nat → Value} {mem bs : List Nat} {off : Nat} (h : Row cm 0 (bvs mem)) (hon : off + bs.length ≤ mem.length) : Row (updN cm off (bvs bs)) 0 (bvs (writeL mem off bs)) := by
  refine ⟨fun i hi => ?_⟩
  rw [bvs_len, writeL_len'] at hi
  have := h.get i (by rw [bvs_len]; exact hi)
  rw [Nat.zero_add] at this ⊢
  rw [bvs_getD' (by rw [writeL_len']; exact hi), writeL_get' hi]
  simp only [updN, bvs_len]
  by_cases h1 : off ≤ i ∧ i < off + bs.length
  · rw [if_pos h1, if_pos h1, bvs_getD' (by omega)]
  · rw [if_neg h1, if_neg h1, this, bvs_getD' hi]
theorem writeL_b8 {mem bs : List Nat} {off : Nat} (h : ∀ d ∈ mem, d < 256) (h' : ∀ d ∈ bs, d < 256) : ∀ d ∈ writeL mem off bs, d < 256 := by
  intro d hd
  obtain ⟨i, hi, rfl⟩ := List.mem_map.1 hd
  have g : ∀ (l : List Nat), (∀ d ∈ l, d < 256) → ∀ k, l.getD k 0 < 256 := by
    intro l hl k
    by_cases hk : k < l.length
    · exact hl _ (by rw [List.getD_eq_getElem?_getD, List.getElem?_eq_getElem hk]; exact List.getElem_mem hk)
    · rw [List.getD_eq_getElem?_getD, List.getElem?_eq_none (by omega)]; decide
  split
  · exact g bs h' _
  · exact g mem h _
/-- The arena behind a write. -/
theorem ArI.wr {c : Nat → Value} {mem mem' : List Nat} {M : List Ent} {b cap : Nat} {cm' : Nat → Value} (h : ArI c mem M) (h1 : c 1 = sl b 0 mem.length cap) (h2 : mem.length ≤ cap) (hl : mem'.length = mem.length) (h8 : ∀ d ∈ mem', d < 256) (hr : Row cm' 0 (bvs mem')) : ArI c mem' [⟨b, mulS cap 1, 5, cm'⟩] :=
  ⟨h.tp, h.b0, by rw [hl]; exact h.b1, h8, by rw [hl]; exact h.bf.len, .inr ⟨b, cap, cm', by rw [hl]; exact h1, by rw [hl]; exact h2, rfl, hr⟩⟩
/-- mem.Arena.Load32 -/
theorem mLoad32 {I : Ent → Prop} {G : List Ent} {cb sz off : Nat} {T : TypeId} {c : Nat → Value} {mem : List Nat} {M : List Ent} (hsz : 2435 ≤ sz) (hA : ArI c mem M) (hMG : ∀ x ∈ M, x ∈ G) (hon : off + 32 ≤ mem.length) :
    CallG Hvaf.prog 311 #[ptr cb 1, .int .u32 (off : Nat)] ⟨I, ⟨cb, sz, T, c⟩ :: G⟩ fun r S' => ⟨I, ⟨cb, sz, T, c⟩ :: G⟩ = S' ∧ r = .tuple #[bytesV (cutL mem off 32), .bool true] := by
  obtain ⟨b, cap, cm, h1, h2, h3, h4⟩ := hA.blk (by omega)
  have hx : (⟨b, mulS cap 1, 5, cm⟩ : Ent) ∈ G := hMG _ (by rw [h3]; simp)
  have hpt := mPart (I := I) (G := G) (cb := cb) (T := T) (off := off) (n := 32) hsz hA h1 (by decide) hon
  have hrow := row_cut h4 hon
  have hl := cutL_len' mem off 32
  have hbl : (bvs (cutL mem off 32)).length = 32 := by rw [bvs_len]; exact hl
  have hob := one_bvs (cutL mem off 32)
  have hlen := hA.bf.len
  have hcap : off + 32 ≤ mulS cap 1 := by rw [mulS_eq]; omega
  have hrd : ∀ y : Ent, Rd ⟨I, y :: ⟨cb, sz, T, c⟩ :: G⟩ ⟨b, mulS cap 1, 5, cm⟩ := fun y => .inr (List.mem_cons_of_mem _ (List.mem_cons_of_mem _ hx))
  show CallG _ _ _ _ fun r S' => _ ∧ r = .tuple #[.agg (bvs (cutL mem off 32)).toArray, .bool true]
  generalize cutL mem off 32 = ds at *
  refine CallG.start (C := mkC Hvaf.prog) cok (args := [ptr cb 1, .int .u32 (off : Nat)]) Hvaf.func311 rfl Hvaf.ntmps311 (by simp) (by kernel_rfl) ?_
  intro rb
  repeat (first | refine SeqS.go cok ?_)
  refine CallG.sameL [_] hpt ?_
  repeat (first | (refine QuG.keep ?_; refine QuG.rowE cok hrow (hrd _) rfl rfl rfl rfl rfl hbl hcap ?_) | (refine OpG.keep ?_; first | refine OpG.upS cok 0 rfl rfl rfl rfl rfl (by assumption) (by first | assumption | exact one_bvs _) (by first | exact Nat.le_of_ble_eq_true rfl | omega) ?_) | (refine LdG.keep ?_; first | refine LdG.upL cok 0 rfl rfl rfl rfl rfl rfl (by assumption) (by first | exact Nat.le_of_ble_eq_true rfl | omega) ?_) | refine SeqS.go cok ?_ | refine CondS.f rfl ?_ | refine And.intro (by dsimp only; omega) ?_)
  exact Fin.drop (⟨cb, sz, T, c⟩ :: G) [_] ⟨rfl, rfl⟩
/-- mem.Arena.Store32 -/
theorem mStore32 {I : Ent → Prop} {G : List Ent} {cb sz b cap off : Nat} {T : TypeId} {c cm : Nat → Value} {mem w : List Nat} (hsz : 2435 ≤ sz) (hA : ArI c mem [⟨b, mulS cap 1, 5, cm⟩]) (h1 : c 1 = sl b 0 mem.length cap) (h2 : mem.length ≤ cap) (h4 : Row cm 0 (bvs mem)) (hon : off + 32 ≤ mem.length) (hw : w.length = 32) (hw8 : ∀ d ∈ w, d < 256) :
    CallG Hvaf.prog 312 #[ptr cb 1, .int .u32 (off : Nat), bytesV w] ⟨I, ⟨cb, sz, T, c⟩ :: ⟨b, mulS cap 1, 5, cm⟩ :: G⟩ fun r S' => r = .bool true ∧ ∃ cm', S' = ⟨I, ⟨cb, sz, T, c⟩ :: ⟨b, mulS cap 1, 5, cm'⟩ :: G⟩ ∧ Row cm' 0 (bvs (writeL mem off w)) := by
  have hpt := mPart (I := I) (G := ⟨b, mulS cap 1, 5, cm⟩ :: G) (cb := cb) (T := T) (off := off) (n := 32) hsz hA h1 (by decide) hon
  have hbl : (bvs w).length = 32 := by rw [bvs_len]; exact hw
  have hob := one_bvs w
  have hcap : off + 32 ≤ mulS cap 1 := by rw [mulS_eq]; omega
  have hrw := row_write (bs := w) (off := off) h4 (by rw [hw]; exact hon)
  refine CallG.start (C := mkC Hvaf.prog) cok (args := [ptr cb 1, .int .u32 (off : Nat), bytesV w]) Hvaf.func312 rfl Hvaf.ntmps312 (by simp) (by kernel_rfl) ?_
  intro xb
  repeat (first | refine SeqS.go cok ?_)
  refine CallG.sameL [_] hpt ?_
  repeat (first | (refine OpG.keep ?_; refine OpG.upS cok 2 rfl rfl rfl rfl rfl hbl hob hcap ?_) | (refine QuG.keep ?_; first | refine QuG.boxL cok 0 rfl rfl rfl rfl rfl (by assumption) ?_) | refine SeqS.go cok ?_ | refine CondS.f rfl ?_ | refine And.intro (by dsimp only; omega) ?_ | (refine still_in ?_; first | refine still_drop (by decide) ?_) | refine W.drawI 4 cok [0, 1, 0, 7, 15] [0, 1, 2, 3, 4] [2] (by kernel_rfl) (by kernel_rfl) ?_)
  exact Fin.drop (⟨cb, sz, T, c⟩ :: ⟨b, mulS cap 1, 5, _⟩ :: G) [_] ⟨rfl, _, rfl, hrw⟩
/-- mem.Arena.Store8 -/
theorem mStore8 {I : Ent → Prop} {G : List Ent} {cb sz b cap off w : Nat} {T : TypeId} {c cm : Nat → Value} {mem : List Nat} (hsz : 2435 ≤ sz) (hA : ArI c mem [⟨b, mulS cap 1, 5, cm⟩]) (h1 : c 1 = sl b 0 mem.length cap) (h2 : mem.length ≤ cap) (h4 : Row cm 0 (bvs mem)) (hon : off + 1 ≤ mem.length) :
    CallG Hvaf.prog 313 #[ptr cb 1, .int .u32 (off : Nat), .int .u8 (w : Nat)] ⟨I, ⟨cb, sz, T, c⟩ :: ⟨b, mulS cap 1, 5, cm⟩ :: G⟩ fun r S' => r = .bool true ∧ ∃ cm', S' = ⟨I, ⟨cb, sz, T, c⟩ :: ⟨b, mulS cap 1, 5, cm'⟩ :: G⟩ ∧ Row cm' 0 (bvs (writeL mem off [w])) := by
  have hpt := mPart (I := I) (G := ⟨b, mulS cap 1, 5, cm⟩ :: G) (cb := cb) (T := T) (off := off) (n := 1) hsz hA h1 (by decide) hon
  have hrw := row_write (bs := [w]) (off := off) h4 hon
  have hcap : off + 1 ≤ mulS cap 1 := by rw [mulS_eq]; omega
  have hup : ∀ v, upd cm (addS off (mulS 0 1)) v = updN cm off [v] := by
    intro v
    funext k
    have e : addS off (mulS 0 1) = off := by rw [addS_mulS _ _ _ rfl]; rfl
    rw [e]
    unfold upd updN
    by_cases hk : k = off
    · subst hk; simp
    · rw [if_neg hk, if_neg (by simp; omega)]
  refine CallG.start (C := mkC Hvaf.prog) cok (args := [ptr cb 1, .int .u32 (off : Nat), .int .u8 (w : Nat)]) Hvaf.func313 rfl Hvaf.ntmps313 (by simp) (by kernel_rfl) ?_
  repeat (first | refine SeqS.go cok ?_)
  refine CallG.sameL [] hpt ?_
  repeat (first | refine SeqS.go cok ?_ | refine CondS.f rfl ?_ | refine And.intro (by omega) ?_ | (refine NatS.keep ?_; first | with_reducible refine NatS.lit ?_) | (refine OpG.keep ?_; first | refine OpG.s1 cok 1 rfl rfl rfl rfl rfl (by first | exact Nat.le_of_ble_eq_true rfl | omega | (dsimp only; omega) | (simp only [addS_eq, mulS_eq]; omega)) rfl rfl ?_))
  exact Fin.same ⟨rfl, _, rfl, by rw [hup]; exact hrw⟩
/-- mem.Arena.Read -/
theorem mRead {I : Ent → Prop} {G : List Ent} {cb sz off n : Nat} {T : TypeId} {c : Nat → Value} {mem : List Nat} {M : List Ent} (hsz : 2435 ≤ sz) (hA : ArI c mem M) (hMG : ∀ x ∈ M, x ∈ G) (hn : 0 < n) (hon : off + n ≤ mem.length) :
    CallG Hvaf.prog 391 #[ptr cb 1, .int .u32 (off : Nat), .int .u32 (n : Nat)] ⟨I, ⟨cb, sz, T, c⟩ :: G⟩ fun r S' => S'.G = ⟨cb, sz, T, c⟩ :: G ∧ Byt ⟨S'.I, []⟩ r (cutL mem off n) ∧ ∃ b, r = sl b 0 n n := by
  obtain ⟨b, cap, cm, h1, h2, h3, h4⟩ := hA.blk (by omega)
  have hx : (⟨b, mulS cap 1, 5, cm⟩ : Ent) ∈ G := hMG _ (by rw [h3]; simp)
  have hpt := mPart (I := I) (G := G) (cb := cb) (T := T) (off := off) (n := n) hsz hA h1 hn hon
  have hrow := row_cut h4 hon
  have hl := cutL_len' mem off n
  have hlen := hA.bf.len
  have h8 : ∀ d ∈ cutL mem off n, d < 256 := cutL_lt hA.bf.b8 _ _
  refine CallG.start (C := mkC Hvaf.prog) cok (args := [ptr cb 1, .int .u32 (off : Nat), .int .u32 (n : Nat)]) Hvaf.func391 rfl Hvaf.ntmps391 (by simp) (by kernel_rfl) ?_
  repeat (first | refine SeqS.go cok ?_)
  refine CallG.sameL [] hpt ?_
  repeat (first | refine SeqS.go cok ?_ | refine GuardS.yes rfl ?_ | refine And.intro (by dsimp only; omega) ?_ | (refine NatS.keep ?_; first | with_reducible refine NatS.nat ?_) | (refine CondS.keep ?_; first | refine CondS.d0 rfl (by omega) ?_))
  intro ob
  repeat (first | refine SeqS.go cok ?_)
  refine OpG.keep ?_
  refine OpG.copy cok 0 rfl (y := ⟨b, mulS cap 1, 5, cm⟩) (.inr (List.mem_cons_of_mem _ (List.mem_cons_of_mem _ hx))) rfl rfl rfl rfl rfl rfl rfl ?_ ?_ ?_ ?_
  · show 0 + mulS (Nat.min n n) 1 ≤ mulS n 1; rw [mulS_eq, mulS_eq]; simp
  · show off + mulS (Nat.min n n) 1 ≤ mulS cap 1; rw [mulS_eq, mulS_eq]; simp; omega
  · intro p hp
    have hp : p < mulS (Nat.min n n) 1 := hp
    rw [mulS_eq] at hp; simp at hp
    show one (cm (off + p)) = true
    rw [hrow.get p (by rw [bvs_len, hl]; exact hp)]
    exact one_bvs _ _ (by rw [List.getD_eq_getElem?_getD, List.getElem?_eq_getElem (by rw [bvs_len, hl]; exact hp)]; exact List.getElem_mem _)
  repeat (first | refine SeqS.go cok ?_)
  refine Fin.frz [_] (⟨cb, sz, T, c⟩ :: G) ⟨rfl, ?_, ob, rfl⟩
  refine Byt.mk0 (x := ⟨ob, mulS n 1, _, _⟩) (.inr List.mem_cons_self) hl (by omega) h8 (by show n ≤ mulS n 1; rw [mulS_eq]; omega) fun i hi => ?_
  show updN _ 0 (cellsFrom cm off (mulS (Nat.min n n) 1)) i = _
  simp only [mulS_eq, Nat.mul_one]
  rw [updN_cellsFrom]
  simp only [Nat.zero_add, Nat.sub_zero, Nat.zero_le, true_and]
  rw [show Nat.min n n = n by simp, if_pos hi, hrow.get i (by rw [bvs_len, hl]; exact hi), bvs_getD' (by rw [hl]; exact hi)]
end Go.Proofs.YgvafwGreat
