import Derived.Test.YgvafwGreatY13
set_option maxRecDepth 100000
set_option maxHeartbeats 4000000
set_option linter.unusedVariables false
set_option linter.unusedSimpArgs false
-- v2
-- v4
-- v5
namespace Go.Proofs.YgvafwGreat
open Go.HL Go.Proofs

theorem _root_.Go.HL.RowI.one {I : Ent → Prop} {k : Nat} {v : Value} {vss : List (List Value)} (h : RowI I k v vss) : one v = true := by
  obtain ⟨a, cap, rfl⟩ := h.form; rfl
/-- yp.World.isWarm -/
theorem yIsWarm {I : Ent → Prop} {G : List Ent} {wb sz : Nat} {T : TypeId} {c : Nat → Value} {al : List (List Nat)} {a : List Nat} (hsz : 8 ≤ sz) (hN : RowI I 20 (c 1) (al.map bvs)) (hA : AdOk a) (hall : ∀ x ∈ al, AdOk x) (hlen : al.length < 2 ^ 19) :
    CallG Hvaf.prog 403 #[ptr wb 0, bytesV a] ⟨I, ⟨wb, sz, T, c⟩ :: G⟩ fun r S' => ⟨I, ⟨wb, sz, T, c⟩ :: G⟩ = S' ∧ r = .bool (decide (a ∈ al)) := by
  have ha := hA.bv
  have hla := hA.len
  refine CallG.start (C := mkC Hvaf.prog) cok (args := [ptr wb 0, bytesV a]) Hvaf.func403 rfl Hvaf.ntmps403 (by simp) (by kernel_rfl) ?_
  intro b3
  repeat (first | (refine QuG.keep ?_; first | refine QuG.boxL cok 0 rfl rfl rfl rfl rfl (by assumption) ?_) | refine SeqS.go cok ?_ | (refine QuG.keep ?_; first | refine QuG.l1 cok 1 rfl rfl rfl rfl rfl (by first | exact Nat.le_of_ble_eq_true rfl | omega | (dsimp only; omega) | (simp only [addS_eq, mulS_eq]; omega)) ?_) | refine W.drawI 1 cok [0, 1, 3, 7, 0, 31, 63] [0, 1, 2, 3, 4, 5, 6] [3, 4] (by kernel_rfl) (by kernel_rfl) ?_)
  refine (yListed hN ha hla (fun x hx => (hall x hx).len) (by omega)).mono ?_
  rintro r _ - ⟨rfl, rfl⟩
  repeat (first | refine SeqS.go cok ?_ | (refine still_in ?_; first | refine still_drop (by decide) ?_))
  exact Fin.drop (⟨wb, sz, T, c⟩ :: G) [_] ⟨rfl, rfl⟩
/-- yp.World.warm -/
theorem yWarm {I : Ent → Prop} {G : List Ent} {wb sz : Nat} {T : TypeId} {c : Nat → Value} {al : List (List Nat)} {a : List Nat} (hsz : 8 ≤ sz) (hN : RowI I 20 (c 1) (al.map bvs)) (hA : AdOk a) (hall : ∀ x ∈ al, AdOk x) (hlen : al.length < 2 ^ 19) :
    CallG Hvaf.prog 61 #[ptr wb 0, bytesV a] ⟨I, ⟨wb, sz, T, c⟩ :: G⟩ fun r S' => ∃ J w, S' = ⟨J, ⟨wb, sz, T, upd c 1 w⟩ :: G⟩ ∧ RowI J 20 w ((withA a al).map bvs) := by
  have ha := hA.bv
  have hla := hA.len
  refine CallG.start (C := mkC Hvaf.prog) cok (args := [ptr wb 0, bytesV a]) Hvaf.func61 rfl Hvaf.ntmps61 (by simp) (by kernel_rfl) ?_
  intro b3
  repeat (first | (refine QuG.keep ?_; first | refine QuG.boxL cok 0 rfl rfl rfl rfl rfl (by assumption) ?_) | refine SeqS.go cok ?_ | (refine QuG.keep ?_; first | refine QuG.l1 cok 1 rfl rfl rfl rfl rfl (by first | exact Nat.le_of_ble_eq_true rfl | omega | (dsimp only; omega) | (simp only [addS_eq, mulS_eq]; omega)) ?_) | refine W.drawI 1 cok [0, 0, 2, 6, 14, 0, 62, 127, 255, 511] [0, 1, 2, 3, 4, 5, 6, 7, 8, 9] [4, 5] (by kernel_rfl) (by kernel_rfl) ?_)
  refine (yWithAddr hN ha hla hA.b8 (fun x hx => (hall x hx).len) (fun x hx => (hall x hx).b8) hlen).mono ?_
  rintro r ⟨J, G'⟩ hs ⟨hG, hw⟩
  dsimp only at hG hw hs
  subst hG
  have hone := hw.one
  repeat (first | (refine OpG.keep ?_; first | refine OpG.s1 cok 1 rfl rfl rfl rfl rfl (by first | exact Nat.le_of_ble_eq_true rfl | omega | (dsimp only; omega) | (simp only [addS_eq, mulS_eq]; omega)) rfl (by assumption) ?_) | (refine still_in ?_; first | refine still_nil ?_ | refine still_drop (by decide) ?_))
  exact Fin.drop (⟨wb, sz, T, _⟩ :: G) [_] ⟨J, r, rfl, hw⟩
/-- Nothing is moved where the value is zero. -/
theorem yMove0 {I : Ent → Prop} {G : List Ent} {wb sz : Nat} {T : TypeId} {c : Nat → Value} {al : List YA} {a b : List Nat} {v : Value} (hsz : 8 ≤ sz) (hN : AcctsI I (c 0) al) (hA : AdOk a) (hN2 : NatI I v 0) (hlen : al.length < 2 ^ 19) :
    CallG Hvaf.prog 143 #[ptr wb 0, bytesV a, bytesV b, v] ⟨I, ⟨wb, sz, T, c⟩ :: G⟩ fun r S' => S'.G = ⟨wb, sz, T, c⟩ :: G := by
  have ha := hA.bv
  have hla := hA.len
  refine CallG.start (C := mkC Hvaf.prog) cok (args := [ptr wb 0, bytesV a, bytesV b, v]) Hvaf.func143 rfl Hvaf.ntmps143 (by simp) (by kernel_rfl) ?_
  intro b5 b6
  repeat (first | (refine QuG.keep ?_; first | refine QuG.boxL cok 1 rfl rfl rfl rfl rfl (by assumption) ?_) | refine SeqS.go cok ?_)
  refine CallG.focus 2 rfl ?_
  refine (yAccount hsz hN hA (by omega)).mono ?_
  rintro r _ - ⟨rfl, l, rfl, hac⟩
  have h24 := hac.len
  obtain ⟨nv, bv, cv, sv, g0, g1, g2, g3, n1, n2, n3, n4⟩ := hac.get
  repeat (first | (refine QuG.keep ?_; first | refine QuG.fldE cok Hvaf.underlying121 rfl rfl rfl rfl (by first | omega | (simp; omega)) (by assumption) ?_))
  refine callS (nSub n2 hN2) fun w J hs hw => ?_
  repeat (first | refine SeqS.go cok ?_ | refine GuardS.yes rfl ?_)
  refine (yIsZero (hN2.up hs)).mono ?_
  rintro r _ - ⟨rfl, rfl⟩
  repeat (first | refine SeqS.go cok ?_ | refine CondS.t rfl ?_)
  exact Fin.drop1 _ G [_, _] rfl
/-- The value of a slot. -/
def loadS (ss : List (Nat × Nat)) (k : Nat) : Nat := ((ss.find? (fun s => s.1 == k)).map (·.2)).getD 0
theorem loadS_none {ss : List (Nat × Nat)} {k : Nat} (h : ∀ j, j < ss.length → (ss.getD j (0, 0)).1 ≠ k) : loadS ss k = 0 := by
  unfold loadS
  rw [List.find?_eq_none.2]
  · rfl
  · intro x hx
    obtain ⟨j, hj, rfl⟩ := List.getElem_of_mem hx
    have := h j hj
    rw [List.getD_eq_getElem?_getD, List.getElem?_eq_getElem hj] at this
    simpa using this
theorem loadS_some {ss : List (Nat × Nat)} {k i : Nat} (hi : i < ss.length) (h : ∀ j, j < i → (ss.getD j (0, 0)).1 ≠ k) (he : (ss.getD i (0, 0)).1 = k) : loadS ss k = (ss.getD i (0, 0)).2 := by
  unfold loadS
  induction ss generalizing i with
  | nil => simp at hi
  | cons x al ih =>
    cases i with
    | zero => simp at he; simp [he]
    | succ i =>
      have h0 := h 0 (by omega)
      simp at h0
      rw [List.find?_cons_of_neg (by simpa using h0)]
      exact ih (i := i) (by simpa using hi) (fun j hj => by have := h (j + 1) (by omega); simpa using this) (by simpa using he)
/-- yp.World.load -/
theorem yLoad {I : Ent → Prop} {G : List Ent} {wb sz k : Nat} {T : TypeId} {c : Nat → Value} {al : List YA} {a : List Nat} {v : Value} (hsz : 8 ≤ sz) (hN : AcctsI I (c 0) al) (hA : AdOk a) (hN2 : NatI I v k) (hlen : al.length < 2 ^ 19) (hsl : (getA al a).slots.length < 2 ^ 19) :
    CallG Hvaf.prog 242 #[ptr wb 0, bytesV a, v] ⟨I, ⟨wb, sz, T, c⟩ :: G⟩ fun r S' => ⟨I, ⟨wb, sz, T, c⟩ :: G⟩ = S' ∧ NatI I r (loadS (getA al a).slots k) := by
  have ha := hA.bv
  have hla := hA.len
  obtain ⟨ss, hss⟩ : ∃ ss, (getA al a).slots = ss := ⟨_, rfl⟩
  rw [hss] at hsl ⊢
  refine CallG.start (C := mkC Hvaf.prog) cok (args := [ptr wb 0, bytesV a, v]) Hvaf.func242 rfl Hvaf.ntmps242 (by simp) (by kernel_rfl) ?_
  intro b4
  repeat (first | (refine QuG.keep ?_; first | refine QuG.boxL cok 0 rfl rfl rfl rfl rfl (by assumption) ?_) | refine SeqS.go cok ?_)
  refine CallG.focus 1 rfl ?_
  refine (yAccount hsz hN hA (by omega)).mono ?_
  rintro r _ - ⟨rfl, l, rfl, hac⟩
  have h24 := hac.len
  obtain ⟨nv, bv, cv, sv, g0, g1, g2, g3, n1, n2, n3, n4⟩ := hac.get
  rw [hss] at n4
  obtain ⟨vss, hR, hvl, hel0⟩ := n4.out
  obtain ⟨ad, cap, rfl⟩ := hR.form
  repeat (first | (refine QuG.keep ?_; first | refine QuG.fldE cok Hvaf.underlying121 rfl rfl rfl rfl (by first | omega | (simp; omega)) (by assumption) ?_) | refine SeqS.go cok ?_)
  refine W.loopG cok (by kernel_rfl) 0 (fun (i : Nat) e' => i ≤ ss.length ∧ (∀ j, j < i → (ss.getD j (0, 0)).1 ≠ k) ∧ slots [(2, v), (12, .slice ad vss.length cap), (13, .int .i64 (vss.length : Nat)), (14, .int .i64 (i : Nat))] e') (fun i => ss.length - i) 0
    ⟨Nat.zero_le _, by omega, rfl, rfl, rfl, rfl, trivial⟩ (fun e' => ∀ j, j < ss.length → (ss.getD j (0, 0)).1 ≠ k) ?_ ?_
  · rintro e' hno
    repeat (first | refine SeqS.go cok ?_)
    exact Fin.drop1 _ G [_] ⟨rfl, by rw [loadS_none hno]; exact NatI.zero _⟩
  · rintro i e' ⟨hi, hno, hsl'⟩
    refine W.slots _ hsl' fun e => ?_
    by_cases hlt : i < ss.length
    · obtain ⟨x, o, rfl, hx, hE⟩ := hR.some (by omega)
      obtain ⟨kv, vv, hel, m1, m2⟩ := hel0 i hlt
      have hrd : ∀ G, Rd ⟨I, G⟩ x := fun _ => .inl hx
      have o1 := NatI.isl m1
      have o2 := NatI.isl m2
      have hone : ∀ u ∈ [kv, vv], one u = true := by intro u hu; simp at hu; rcases hu with rfl | rfl <;> assumption
      have hln : [kv, vv].length = 2 := rfl
      repeat (first | (refine QuG.keep ?_; first | refine QuG.elE cok _ (by assumption) (by first | assumption | exact ‹∀ G, Rd ⟨_, G⟩ _› _) (by assumption) rfl rfl rfl rfl rfl (by omega) ?_) | refine SeqS.go cok ?_ | refine And.intro (by omega) ?_ | (refine NatS.keep ?_; first | with_reducible refine NatS.nat ?_) | (refine CondS.keep ?_; first | refine CondS.d1 rfl (by omega) ?_))
      intro b8
      repeat (first | (refine OpG.keep ?_; first | refine OpG.upS cok 0 rfl rfl rfl rfl rfl (by assumption) (by first | assumption | exact one_bvs _) (by first | exact Nat.le_of_ble_eq_true rfl | omega) ?_) | refine SeqS.go cok ?_ | (refine QuG.keep ?_; first | refine QuG.l1 cok 0 rfl rfl rfl rfl rfl (by first | exact Nat.le_of_ble_eq_true rfl | omega | (dsimp only; omega) | (simp only [addS_eq, mulS_eq]; omega)) ?_))
      rcases Nat.lt_trichotomy (ss.getD i (0, 0)).1 k with h | h | h
      · refine (nCmpL m1 hN2 h).mono ?_
        rintro r _ - ⟨rfl, rfl⟩
        repeat (first | refine SeqS.go cok ?_ | refine CondS.f rfl ?_ | (refine ValS.keep ?_; first | (with_reducible refine ValS.kI64 ?_; first | (with_reducible refine ValS.addI64_L ?_ ?_ ; omega))))
        refine ⟨i + 1, Rel.drop _ [_] ⟨rfl, hlt, fun j hj => ?_, rfl, rfl, rfl, rfl, trivial⟩, by show ss.length - (i + 1) < ss.length - i; omega⟩
        by_cases h' : j = i
        · subst h'; omega
        · exact hno j (by omega)
      · refine (nCmpE m1 hN2 h).mono ?_
        rintro r _ - ⟨rfl, rfl⟩
        repeat (first | refine SeqS.go cok ?_ | refine CondS.t rfl ?_ | (refine QuG.keep ?_; first | refine QuG.l1 cok 0 rfl rfl rfl rfl rfl (by first | exact Nat.le_of_ble_eq_true rfl | omega | (dsimp only; omega) | (simp only [addS_eq, mulS_eq]; omega)) ?_))
        refine Fin.focus 1 rfl (Fin.drop1 _ G [_, _] ?_)
        exact ⟨rfl, by rw [loadS_some hlt hno h]; exact m2⟩
      · refine (nCmpG m1 hN2 h).mono ?_
        rintro r _ - ⟨rfl, rfl⟩
        repeat (first | refine SeqS.go cok ?_ | refine CondS.f rfl ?_ | (refine ValS.keep ?_; first | (with_reducible refine ValS.kI64 ?_; first | (with_reducible refine ValS.addI64_L ?_ ?_ ; omega))))
        refine ⟨i + 1, Rel.drop _ [_] ⟨rfl, hlt, fun j hj => ?_, rfl, rfl, rfl, rfl, trivial⟩, by show ss.length - (i + 1) < ss.length - i; omega⟩
        by_cases h' : j = i
        · subst h'; omega
        · exact hno j (by omega)
    · repeat (first | refine SeqS.go cok ?_ | (refine CondS.keep ?_; first | refine CondS.d0 rfl (by omega) ?_))
      exact ⟨rfl, fun j hj => hno j (by omega)⟩
end Go.Proofs.YgvafwGreat
