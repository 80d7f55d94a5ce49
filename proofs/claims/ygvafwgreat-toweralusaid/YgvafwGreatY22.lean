import Derived.Test.YgvafwGreatY21
set_option maxRecDepth 100000
set_option maxHeartbeats 4000000
set_option linter.unusedVariables false
set_option linter.unusedSimpArgs false
-- v2
-- v4
-- v5
-- v6
namespace Go.Proofs.YgvafwGreat
open Go.HL Go.Proofs

/-- A frame's memory, with its block, if it has one. -/
structure MemO (v : Value) (mem : List Nat) (M : List Ent) : Prop where
  b8 : ∀ d ∈ mem, d < 256
  len : mem.length < 2 ^ 30
  out : (v = .slice none 0 0 ∧ mem = [] ∧ M = []) ∨ ∃ b c, v = sl b 0 mem.length mem.length ∧ M = [⟨b, mem.length, 5, updN c 0 (bvs mem)⟩]
theorem MemO.nil : MemO (.slice none 0 0) [] [] := ⟨by simp, by simp, .inl ⟨rfl, rfl, rfl⟩⟩
theorem Row.bs {x : Ent} {o : Nat} {ds : List Nat} (h : Row x.c o (bvs ds)) (hf : o + ds.length ≤ x.sz) : Bs x o ds := by
  refine ⟨hf, fun i hi => ?_⟩
  rw [h.get i (by rw [bvs_len]; exact hi), bvs, List.getD_eq_getElem?_getD, List.getElem?_map, List.getElem?_eq_getElem hi, List.getD_eq_getElem?_getD, List.getElem?_eq_getElem hi]; rfl
theorem MemO.byt {v : Value} {mem : List Nat} {M : List Ent} (h : MemO v mem M) {I : Ent → Prop} {G : List Ent} (hm : ∀ x ∈ M, x ∈ G) : Byt ⟨I, G⟩ v mem := by
  rcases h.out with ⟨rfl, rfl, rfl⟩ | ⟨b, c, rfl, rfl⟩
  · exact Byt.nil _
  · have hl := h.len
    exact ⟨h.b8, by omega, _, _, rfl, Nat.le_refl _, by omega, .inr ⟨_, 0, rfl, .inr (hm _ List.mem_cons_self), Row.bs (Row.updN2 _ _ _) (by simp)⟩⟩
/-- yp.Frame.read -/
theorem yRead {I : Ent → Prop} {G : List Ent} {fb sz o n : Nat} {T : TypeId} {c : Nat → Value} {mem : List Nat} {v u : Value} (hsz : 60 ≤ sz) (hm : Byt ⟨I, ⟨fb, sz, T, c⟩ :: G⟩ (c 9) mem) (hN : NatI I v o) (hN2 : NatI I u n) (hn : n < 2 ^ 40) (hl : mem.length < 2 ^ 40) :
    CallG Hvaf.prog 72 #[ptr fb 0, v, u] ⟨I, ⟨fb, sz, T, c⟩ :: G⟩ fun r S' => S'.G = ⟨fb, sz, T, c⟩ :: G ∧ Byt ⟨S'.I, []⟩ r (cutL mem o n) := by
  have hz := yIsZero (G := ⟨fb, sz, T, c⟩ :: G) hN2
  by_cases h0 : n = 0
  · rw [decide_eq_true h0] at hz
    refine CallG.start (C := mkC Hvaf.prog) cok (args := [ptr fb 0, v, u]) Hvaf.func72 rfl Hvaf.ntmps72 (by simp) (by kernel_rfl) ?_
    repeat (first | refine SeqS.go cok ?_)
    refine (hz).mono ?_
    rintro r _ - ⟨rfl, rfl⟩
    repeat (first | refine SeqS.go cok ?_ | refine CondS.t rfl ?_)
    refine Fin.same ⟨rfl, ?_⟩
    rw [h0]; exact Byt.nil _
  · rw [decide_eq_false h0] at hz
    refine CallG.start (C := mkC Hvaf.prog) cok (args := [ptr fb 0, v, u]) Hvaf.func72 rfl Hvaf.ntmps72 (by simp) (by kernel_rfl) ?_
    repeat (first | refine SeqS.go cok ?_)
    refine (hz).mono ?_
    rintro r _ - ⟨rfl, rfl⟩
    repeat (first | refine SeqS.go cok ?_ | refine CondS.f rfl ?_ | (refine QuG.keep ?_; first | refine QuG.l1 cok 0 rfl rfl rfl rfl rfl (by first | exact Nat.le_of_ble_eq_true rfl | omega | (dsimp only; omega) | (simp only [addS_eq, mulS_eq]; omega)) ?_))
    refine (yCut hm hN hN2 hn hl).mono ?_
    rintro r ⟨J, G'⟩ hs ⟨h1, h2⟩
    dsimp only at h1 h2
    subst h1
    repeat (first | refine SeqS.go cok ?_)
    exact Fin.same ⟨rfl, h2⟩
/-- Bytes laid over a memory from o on. -/
def writeL (mem : List Nat) (o : Nat) (bs : List Nat) : List Nat := (List.range mem.length).map fun i => if o ≤ i ∧ i < o + bs.length then bs.getD (i - o) 0 else mem.getD i 0
theorem writeL_len (mem : List Nat) (o : Nat) (bs : List Nat) : (writeL mem o bs).length = mem.length := by simp [writeL]
theorem writeL_get (mem : List Nat) (o : Nat) (bs : List Nat) {i : Nat} (h : i < mem.length) : (writeL mem o bs).getD i 0 = if o ≤ i ∧ i < o + bs.length then bs.getD (i - o) 0 else mem.getD i 0 := by
  simp only [writeL, List.getD_eq_getElem?_getD, List.getElem?_map, List.getElem?_range h]; rfl
theorem bvs_get {ds : List Nat} {i : Nat} (h : i < ds.length) : (bvs ds).getD i undef = .int .u8 (ds.getD i 0 : Nat) := by
  rw [bvs, List.getD_eq_getElem?_getD, List.getElem?_map, List.getElem?_eq_getElem h, List.getD_eq_getElem?_getD, List.getElem?_eq_getElem h]; rfl
theorem write_cells {c : Nat → Value} {mem bs : List Nat} {o q : Nat} {x : Ent} (ho : o < mem.length) (hb : Bs x q bs) : updN (updN c 0 (bvs mem)) o (cellsFrom x.c q (min bs.length (mem.length - o))) = updN c 0 (bvs (writeL mem o bs)) := by
  funext i
  rw [updN_cellsFrom]
  dsimp only
  by_cases hi : i < mem.length
  · have e2 : updN c 0 (bvs (writeL mem o bs)) i = .int .u8 ((writeL mem o bs).getD i 0 : Nat) := by
      simp only [updN, bvs_len, writeL_len, Nat.zero_add, Nat.zero_le, true_and, Nat.sub_zero]
      rw [if_pos hi, bvs_get (by rw [writeL_len]; exact hi)]
    have e1 : updN c 0 (bvs mem) i = .int .u8 (mem.getD i 0 : Nat) := by
      simp only [updN, bvs_len, Nat.zero_add, Nat.zero_le, true_and, Nat.sub_zero]
      rw [if_pos hi, bvs_get hi]
    rw [e2, e1, writeL_get mem o bs hi]
    by_cases h : o ≤ i ∧ i < o + bs.length
    · rw [if_pos h, if_pos (by omega), hb.2 (i - o) (by omega)]
    · rw [if_neg h, if_neg (by omega)]
  · simp only [updN, bvs_len, writeL_len, Nat.zero_add, Nat.zero_le, true_and, Nat.sub_zero]
    rw [if_neg hi, if_neg hi, if_neg (by omega)]
/-- yp.Frame.write -/
theorem yWrite {I : Ent → Prop} {G : List Ent} {fb sz mb o : Nat} {T Tm : TypeId} {c cm : Nat → Value} {mem bs : List Nat} {v u : Value} (hsz : 60 ≤ sz) (hc : c 9 = sl mb 0 mem.length mem.length) (hN : NatI I v o) (hb : Byt ⟨I, []⟩ u bs) (hl : mem.length < 2 ^ 40) :
    CallG Hvaf.prog 152 #[ptr fb 0, v, u] ⟨I, ⟨fb, sz, T, c⟩ :: ⟨mb, mem.length, Tm, updN cm 0 (bvs mem)⟩ :: G⟩ fun r S' => S' = ⟨I, ⟨fb, sz, T, c⟩ :: ⟨mb, mem.length, Tm, updN cm 0 (bvs (writeL mem o bs))⟩ :: G⟩ := by
  have hpl := fun (G : List Ent) => yPlace (G := G) (L := mem.length) hN (by omega)
  have hbl := hb.2.1
  by_cases h : o < mem.length
  · simp only [if_pos h, decide_eq_true h] at hpl
    rcases hb.cases with ⟨rfl, rfl⟩ | ⟨x, q, cap, rfl, h1, h2, hx, hbs⟩
    · have hw : writeL mem o [] = mem := by
        apply List.ext_getElem?
        intro i
        by_cases hi : i < mem.length
        · have := writeL_get mem o [] hi
          rw [if_neg (fun h => by have := h.1; have := h.2; simp at *; omega)] at this
          rw [List.getD_eq_getElem?_getD, List.getD_eq_getElem?_getD, List.getElem?_eq_getElem hi, List.getElem?_eq_getElem (by rw [writeL_len]; exact hi)] at this
          rw [List.getElem?_eq_getElem hi, List.getElem?_eq_getElem (by rw [writeL_len]; exact hi)]
          simpa using this
        · rw [List.getElem?_eq_none (by rw [writeL_len]; omega), List.getElem?_eq_none (by omega)]
      rw [hw]
      refine CallG.start (C := mkC Hvaf.prog) cok (args := [ptr fb 0, v, .slice none 0 0]) Hvaf.func152 rfl Hvaf.ntmps152 (by simp) (by kernel_rfl) ?_
      repeat (first | (refine QuG.keep ?_; first | refine QuG.l1E cok 0 rfl rfl rfl rfl rfl (by first | exact Nat.le_of_ble_eq_true rfl | omega | (dsimp only; omega) | (simp only [addS_eq, mulS_eq]; omega)) (by assumption) ?_))
      refine (hpl _).mono ?_
      rintro r _ - ⟨rfl, rfl⟩
      repeat (first | (refine QuG.keep ?_; first | refine QuG.l1E cok 0 rfl rfl rfl rfl rfl (by first | exact Nat.le_of_ble_eq_true rfl | omega | (dsimp only; omega) | (simp only [addS_eq, mulS_eq]; omega)) (by assumption) ?_) | refine SeqS.go cok ?_ | refine CondS.t rfl ?_ | refine And.intro (Eq.refl true) ?_ | refine And.intro (by omega) ?_ | (refine NatS.keep ?_; first | with_reducible refine NatS.nat ?_) | (refine ValS.keep ?_; first | (with_reducible refine ValS.slN ?_ ?_; omega)))
      refine OpG.keep ?_
      refine OpG.copy0 cok rfl rfl rfl rfl rfl ?_
      skip
      exact Fin.same rfl
    · have hx2 : I x := hx.elim id (by simp)
      refine CallG.start (C := mkC Hvaf.prog) cok (args := [ptr fb 0, v, .slice (some ⟨x.b, q, none⟩) bs.length cap]) Hvaf.func152 rfl Hvaf.ntmps152 (by simp) (by kernel_rfl) ?_
      repeat (first | (refine QuG.keep ?_; first | refine QuG.l1E cok 0 rfl rfl rfl rfl rfl (by first | exact Nat.le_of_ble_eq_true rfl | omega | (dsimp only; omega) | (simp only [addS_eq, mulS_eq]; omega)) (by assumption) ?_))
      refine (hpl _).mono ?_
      rintro r _ - ⟨rfl, rfl⟩
      repeat (first | (refine QuG.keep ?_; first | refine QuG.l1E cok 0 rfl rfl rfl rfl rfl (by first | exact Nat.le_of_ble_eq_true rfl | omega | (dsimp only; omega) | (simp only [addS_eq, mulS_eq]; omega)) (by assumption) ?_) | refine SeqS.go cok ?_ | refine CondS.t rfl ?_ | refine And.intro (Eq.refl true) ?_ | refine And.intro (by omega) ?_ | (refine NatS.keep ?_; first | with_reducible refine NatS.nat ?_) | (refine ValS.keep ?_; first | (with_reducible refine ValS.slN ?_ ?_; omega)))
      refine OpG.keep ?_
      refine OpG.copy cok 1 rfl (y := x) (.inl hx2) rfl rfl rfl rfl rfl rfl rfl ?_ ?_ ?_ ?_
      · show addS 0 (mulS o 1) + mulS (Nat.min bs.length (mem.length - o)) 1 ≤ mem.length
        rw [addS_eq, mulS_eq, mulS_eq]
        show 0 + o * 1 + (min bs.length (mem.length - o)) * 1 ≤ mem.length
        omega
      · show q + mulS (Nat.min bs.length (mem.length - o)) 1 ≤ x.sz
        have := hbs.1
        rw [mulS_eq]
        show q + (min bs.length (mem.length - o)) * 1 ≤ x.sz
        omega
      · intro p hp
        have hp : p < mulS (Nat.min bs.length (mem.length - o)) 1 := hp
        rw [mulS_eq, Nat.mul_one] at hp
        have hp2 : p < min bs.length (mem.length - o) := hp
        rw [hbs.2 p (by omega)]; rfl
      skip
      refine Fin.same ?_
      refine congrArg (fun c' => (⟨I, ⟨fb, sz, T, c⟩ :: ⟨mb, mem.length, Tm, c'⟩ :: G⟩ : St)) ?_
      rw [← write_cells (c := cm) h hbs]
      simp only [addS_eq, mulS_eq, Nat.mul_one, Nat.zero_add]
  · simp only [if_neg h, decide_eq_false h] at hpl
    have hw : writeL mem o bs = mem := by
      apply List.ext_getElem?
      intro i
      by_cases hi : i < mem.length
      · have := writeL_get mem o bs hi
        rw [if_neg (by omega)] at this
        rw [List.getD_eq_getElem?_getD, List.getD_eq_getElem?_getD, List.getElem?_eq_getElem hi, List.getElem?_eq_getElem (by rw [writeL_len]; exact hi)] at this
        rw [List.getElem?_eq_getElem hi, List.getElem?_eq_getElem (by rw [writeL_len]; exact hi)]
        simpa using this
      · rw [List.getElem?_eq_none (by rw [writeL_len]; omega), List.getElem?_eq_none (by omega)]
    rw [hw]
    refine CallG.start (C := mkC Hvaf.prog) cok (args := [ptr fb 0, v, u]) Hvaf.func152 rfl Hvaf.ntmps152 (by simp) (by kernel_rfl) ?_
    repeat (first | (refine QuG.keep ?_; first | refine QuG.l1E cok 0 rfl rfl rfl rfl rfl (by first | exact Nat.le_of_ble_eq_true rfl | omega | (dsimp only; omega) | (simp only [addS_eq, mulS_eq]; omega)) (by assumption) ?_))
    refine (hpl _).mono ?_
    rintro r _ - ⟨rfl, rfl⟩
    repeat (first | refine SeqS.go cok ?_ | refine CondS.f rfl ?_)
    exact Fin.same rfl
end Go.Proofs.YgvafwGreat
