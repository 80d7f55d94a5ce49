import Derived.Test.YgvafwGreatY76
set_option maxRecDepth 100000
set_option maxHeartbeats 4000000
set_option linter.unusedVariables false
set_option linter.unusedSimpArgs false
-- v2
-- plus: (refine QuG.keep ?_; fail "none")
-- plus: (refine QuG.keep ?_; fail "none")
-- plus: (refine OpG.keep ?_; fail "none")
-- plus: (refine LdG.keep ?_; fail "none")
-- plus: refine And.intro ⟨⟨by assumption, Nat.le_of_ble_eq_true rfl⟩, trivial⟩ ?_
namespace Go.Proofs.YgvafwGreat
open Go.HL Go.Proofs

/-- An account whose list of slots, where it is empty, is nil. -/
structure AcctD (I : Ent → Prop) (l : List Value) (a : YA) : Prop where
  c : AcctC I l a
  z : a.slots = [] → l.getD 23 undef = .slice none 0 0
structure AcctsD (I : Ent → Prop) (v : Value) (al : List YA) : Prop where
  out : ∃ vss, RowI I 24 v vss ∧ vss.length = al.length ∧ ∀ i, i < al.length → AcctD I (vss.getD i []) (al.getD i ⟨[], 0, 0, [], []⟩)
theorem AcctD.up {I J : Ent → Prop} {l : List Value} {a : YA} (h : AcctD I l a) (hs : Sub I J) : AcctD J l a := ⟨h.c.up hs, h.z⟩
theorem AcctsD.up {I J : Ent → Prop} {v : Value} {al : List YA} (h : AcctsD I v al) (hs : Sub I J) : AcctsD J v al := by
  obtain ⟨vss, a, b, c⟩ := h.out; exact ⟨vss, a.up hs, b, fun i hi => (c i hi).up hs⟩
theorem AcctsD.acc {I : Ent → Prop} {v : Value} {al : List YA} (h : AcctsD I v al) : AcctsI I v al := by
  obtain ⟨vss, a, b, c⟩ := h.out; exact ⟨vss, a, b, fun i hi => (c i hi).c⟩
theorem AcctD.ok {I : Ent → Prop} {l : List Value} {a : YA} (h : AcctD I l a) : AdOk a.addr := h.c.ok
theorem AcctD.one {I : Ent → Prop} {l : List Value} {a : YA} (h : AcctD I l a) : ∀ u ∈ l, one u = true := h.c.one
theorem AcctD.len {I : Ent → Prop} {l : List Value} {a : YA} (h : AcctD I l a) : l.length = 24 := h.c.len
theorem AcctD.ad {I : Ent → Prop} {l : List Value} {a : YA} (h : AcctD I l a) : (l.drop 0).take 20 = bvs a.addr := h.c.ad
theorem AcctD.zero {I : Ent → Prop} {a : List Nat} (h : AdOk a) : AcctD I (bvs a ++ [.slice none 0 0, .slice none 0 0, .slice none 0 0, .slice none 0 0]) ⟨a, 0, 0, [], []⟩ :=
  ⟨AcctC.zero h, fun _ => by rw [List.getD_eq_getElem?_getD, List.getElem?_append_right (by rw [h.bv]; omega), h.bv]; rfl⟩
theorem AcctD.out {I : Ent → Prop} {l : List Value} {a : YA} (h : AcctD I l a) : ∃ nv bv cv sv, l = bvs a.addr ++ [nv, bv, cv, sv] ∧ NatI I nv a.nonce ∧ NatI I bv a.bal ∧ Byt ⟨I, []⟩ cv a.code ∧ SlotsI I sv a.slots := h.c.out
theorem AcctD.get {I : Ent → Prop} {l : List Value} {a : YA} (h : AcctD I l a) : ∃ nv bv cv sv, l.getD 20 undef = nv ∧ l.getD 21 undef = bv ∧ l.getD 22 undef = cv ∧ l.getD 23 undef = sv ∧ NatI I nv a.nonce ∧ NatI I bv a.bal ∧ Byt ⟨I, []⟩ cv a.code ∧ SlotsI I sv a.slots := h.c.get
theorem AcctD.setBal {I : Ent → Prop} {l : List Value} {a : YA} {u : Value} {n : Nat} (h : AcctD I l a) (hu : NatI I u n) : AcctD I (l.set 21 u) { a with bal := n } :=
  ⟨h.c.setBal hu, fun hz => by rw [List.getD_eq_getElem?_getD, List.getElem?_set, if_neg (by decide), ← List.getD_eq_getElem?_getD]; exact h.z hz⟩
theorem AcctD.setNonce {I : Ent → Prop} {l : List Value} {a : YA} {u : Value} {n : Nat} (h : AcctD I l a) (hu : NatI I u n) : AcctD I (l.set 20 u) { a with nonce := n } :=
  ⟨h.c.setNonce hu, fun hz => by rw [List.getD_eq_getElem?_getD, List.getElem?_set, if_neg (by decide), ← List.getD_eq_getElem?_getD]; exact h.z hz⟩
/-- yp.World.account -/
theorem yAccountD {I : Ent → Prop} {G : List Ent} {wb sz : Nat} {T : TypeId} {c : Nat → Value} {al : List YA} {a : List Nat} (hsz : 8 ≤ sz) (hN : AcctsD I (c 0) al) (hA : AdOk a) (hlen : al.length < 2 ^ 30) :
    CallG Hvaf.prog 53 #[ptr wb 0, bytesV a] ⟨I, ⟨wb, sz, T, c⟩ :: G⟩ fun r S' => ⟨I, ⟨wb, sz, T, c⟩ :: G⟩ = S' ∧ ∃ l, r = .agg l.toArray ∧ AcctD I l (getA al a) := by
  have ha := hA.bv
  have hla := hA.len
  obtain ⟨vss, hR, hvl, hel0⟩ := hN.out
  obtain ⟨ad, cap, hc0⟩ := hR.form
  refine CallG.start (C := mkC Hvaf.prog) cok (args := [ptr wb 0, bytesV a]) Hvaf.func53 rfl Hvaf.ntmps53 (by simp) (by kernel_rfl) ?_
  intro b3 b4
  repeat (first | (refine QuG.keep ?_; first | refine QuG.l1E cok 2 rfl rfl rfl rfl rfl (by first | exact Nat.le_of_ble_eq_true rfl | omega | (dsimp only; omega) | (simp only [addS_eq, mulS_eq]; omega)) (by assumption) ?_) | refine SeqS.go cok ?_)
  refine W.loopG cok (by kernel_rfl) 0 (fun (i : Nat) e' => i ≤ al.length ∧ (∀ j, j < i → (al.getD j ⟨[], 0, 0, [], []⟩).addr ≠ a) ∧ slots [(3, ptr b3 0), (4, ptr b4 0), (10, .slice ad vss.length cap), (11, .int .i64 (vss.length : Nat)), (12, .int .i64 (i : Nat))] e') (fun i => al.length - i) 0
    ⟨Nat.zero_le _, by omega, rfl, rfl, rfl, rfl, rfl, trivial⟩ (fun e' => (∀ j, j < al.length → (al.getD j ⟨[], 0, 0, [], []⟩).addr ≠ a) ∧ slots [(3, ptr b3 0), (4, ptr b4 0)] e') ?_ ?_
  · rintro e' ⟨hno, hsl⟩
    refine SeqS.slots cok _ hsl fun e => ?_
    have hb := build_acct hA (z := z121) (fun i h1 h2 => by
      have : i = 20 ∨ i = 21 ∨ i = 22 ∨ i = 23 := by omega
      rcases this with rfl | rfl | rfl | rfl <;> rfl)
    have hZ := AcctD.zero (I := I) hA
    have h24 := hZ.len
    have hone := hZ.one
    repeat (first | (refine QuG.keep ?_; first | refine QuG.boxL cok 1 rfl rfl rfl rfl rfl (by assumption) ?_) | refine And.intro ⟨⟨by assumption, Nat.le_of_ble_eq_true rfl⟩, trivial⟩ ?_ | refine And.intro (Eq.refl true) ?_)
    refine OpG.keep ?_
    refine OpG.upS cok 0 (vs := bvs a ++ [.slice none 0 0, .slice none 0 0, .slice none 0 0, .slice none 0 0]) rfl rfl rfl rfl ?_ h24 hone (Nat.le_of_ble_eq_true rfl) ?_
    · exact congrArg (fun l => Value.agg l.toArray) hb
    repeat (first | (refine LdG.keep ?_; first | refine LdG.upL cok 0 rfl rfl rfl rfl rfl rfl (by assumption) (by first | exact Nat.le_of_ble_eq_true rfl | omega) ?_) | refine SeqS.go cok ?_)
    refine Fin.drop (⟨wb, sz, T, c⟩ :: G) [_, _] ⟨rfl, _, rfl, ?_⟩
    rw [findA_none hno]; exact hZ
  · rintro i e' ⟨hi, hno, hsl⟩
    refine W.slots _ hsl fun e => ?_
    by_cases hlt : i < al.length
    · rw [hc0] at hR
      obtain ⟨x, o, rfl, hx, hE⟩ := hR.some (by omega)
      have hac := hel0 i hlt
      obtain ⟨l, hl⟩ : ∃ l, vss.getD i [] = l := ⟨_, rfl⟩
      rw [hl] at hac
      have hrd : ∀ G, Rd ⟨I, G⟩ x := fun _ => .inl hx
      have h24 := hac.len
      have hone := hac.one
      have had := hac.ad
      have hb20 := hac.ok.bv
      have hl20 := hac.ok.len
      repeat (first | (refine QuG.keep ?_; first | refine QuG.elE cok _ (by assumption) (by first | assumption | exact ‹∀ G, Rd ⟨_, G⟩ _› _) (by assumption) rfl rfl rfl rfl rfl (by omega) ?_) | refine SeqS.go cok ?_ | refine And.intro (by omega) ?_ | (refine NatS.keep ?_; first | with_reducible refine NatS.nat ?_) | (refine CondS.keep ?_; first | refine CondS.d1 rfl (by omega) ?_))
      intro b6
      repeat (first | (refine QuG.keep ?_; first | refine QuG.subL cok 0 rfl rfl rfl rfl rfl rfl (by assumption) (by assumption) (by first | exact Nat.le_of_ble_eq_true rfl | omega) ?_ | refine QuG.boxL cok 2 rfl rfl rfl rfl rfl (by assumption) ?_ | refine QuG.eqA cok .u8 rfl rfl rfl rfl rfl (by kernel_rfl) rfl rfl (by assumption) (by assumption) ?_) | (refine OpG.keep ?_; first | refine OpG.upS cok 0 rfl rfl rfl rfl rfl (by assumption) (by first | assumption | exact one_bvs _) (by first | exact Nat.le_of_ble_eq_true rfl | omega) ?_) | refine SeqS.go cok ?_)
      (first | refine CondS.dec rfl (fun heq => ?_) (fun heq => ?_))
      · repeat (first | (refine QuG.keep ?_; first | refine QuG.upL cok 0 rfl rfl rfl rfl rfl rfl (by assumption) (by first | exact Nat.le_of_ble_eq_true rfl | omega) ?_) | (refine OpG.keep ?_; first | refine OpG.upS cok 1 rfl rfl rfl rfl rfl (by assumption) (by first | assumption | exact one_bvs _) (by first | exact Nat.le_of_ble_eq_true rfl | omega) ?_) | (refine LdG.keep ?_; first | refine LdG.upL cok 1 rfl rfl rfl rfl rfl rfl (by assumption) (by first | exact Nat.le_of_ble_eq_true rfl | omega) ?_) | refine SeqS.go cok ?_)
        refine Fin.drop (⟨wb, sz, T, c⟩ :: G) [_, _, _] ⟨rfl, l, rfl, ?_⟩
        rw [findA_some hlt hno heq]; exact hac
      · repeat (first | refine SeqS.go cok ?_ | (refine ValS.keep ?_; first | (with_reducible refine ValS.kI64 ?_; first | (with_reducible refine ValS.addI64_L ?_ ?_ ; omega))))
        refine ⟨i + 1, Rel.drop _ [_] ⟨rfl, hlt, fun j hj => ?_, rfl, rfl, rfl, rfl, rfl, trivial⟩, by show al.length - (i + 1) < al.length - i; omega⟩
        by_cases h : j = i
        · subst h; exact heq
        · exact hno j (by omega)
    · repeat (first | refine SeqS.go cok ?_ | (refine CondS.keep ?_; first | refine CondS.d0 rfl (by omega) ?_))
      exact ⟨rfl, fun j hj => hno j (by omega), rfl, rfl, trivial⟩
theorem AcctsD.mk' {I : Ent → Prop} {v : Value} {vss : List (List Value)} {al : List YA} (h : RowI I 24 v vss) (h2 : L2 (AcctD I) dA vss al) : AcctsD I v al := ⟨vss, h, h2.len, h2.at'⟩
end Go.Proofs.YgvafwGreat
