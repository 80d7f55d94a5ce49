import Derived.Test.YgvafwGreatL7
set_option maxRecDepth 100000
set_option maxHeartbeats 4000000
set_option linter.unusedVariables false
set_option linter.unusedSimpArgs false
-- v2
-- v4
-- v5
-- v6
-- v7
-- plus: (refine QuG.keep ?_; refine QuG.cell cok hr (hrd _) rfl rfl rfl rfl rfl (Nat.le_of_ble_eq_true rfl) (by omega) ?_)
-- plus: (refine QuG.keep ?_; refine QuG.rowE cok hr2 (hrd _) rfl rfl rfl rfl rfl rfl (by first | omega | (show _ + 32 ≤ _; omega)) ?_)
-- plus: (refine QuG.keep ?_; refine QuG.eqA cok .u8 (xs := w15) (ys := z32) rfl rfl rfl rfl rfl (by kernel_rfl) rfl rfl rfl rfl ?_)
-- plus: (refine QuG.keep ?_; refine QuG.ow cok 0 rfl how2 rfl rfl rfl rfl rfl rfl (by omega) (by show _ ≤ 32; omega) ?_)
-- plus: (refine OpG.keep ?_; refine OpG.ow cok 0 rfl how2 rfl rfl rfl rfl rfl rfl rfl (by omega) (by show _ ≤ 32; omega) ?_)
-- plus: (refine QuG.keep ?_; refine QuG.bs cok hrow (hrd _) rfl rfl rfl rfl (by omega) ?_)
namespace Go.Proofs.YgvafwGreat
open Go.HL Go.Proofs

/-- obs.EnvOK -/
theorem lEnvOK {S : St} : CallG Hvaf.prog 37 #[envV] S fun r S' => S = S' ∧ r = .bool true := by
  refine CallG.start (C := mkC Hvaf.prog) cok (args := [envV]) Hvaf.func37 rfl Hvaf.ntmps37 (by simp) (by kernel_rfl) ?_
  intro b
  repeat (first | refine SeqS.go cok ?_ | (refine QuG.keep ?_; first | refine QuG.l1 cok 0 rfl rfl rfl rfl rfl (by first | exact Nat.le_of_ble_eq_true rfl | omega | (dsimp only; omega) | (simp only [addS_eq, mulS_eq]; omega)) ?_))
  exact Fin.drop S.G [_] ⟨rfl, rfl⟩
/-- obs.accountOK at the contract -/
theorem lAcctOK1 {I : Ent → Prop} {G : List Ent} {x : Ent} {a n cc : Nat} {ca : Option Addr} (hr : Row x.c a (el1 (.slice ca n cc))) (hx : I x) (hs : a + 55 ≤ x.sz) (hn : n ≤ 256) :
    CallG Hvaf.prog 95 #[ptr x.b a] ⟨I, G⟩ fun r S' => ⟨I, G⟩ = S' ∧ r = .bool true := by
  have hrd : ∀ G, Rd ⟨I, G⟩ x := fun _ => .inl hx
  refine CallG.start (C := mkC Hvaf.prog) cok (args := [ptr x.b a]) Hvaf.func95 rfl Hvaf.ntmps95 (by simp) (by kernel_rfl) ?_
  repeat (first | (refine QuG.keep ?_; refine QuG.cell cok hr (hrd _) rfl rfl rfl rfl rfl (Nat.le_of_ble_eq_true rfl) (by omega) ?_) | refine SeqS.go cok ?_ | refine GuardS.yes rfl ?_ | refine GuardS.no rfl ?_ | refine GuardS.U rfl ?_ | refine CondS.f rfl ?_ | (refine GuardS.keep ?_; first | refine GuardS.F0 rfl (by omega) ?_))
  refine W.rounds cok (by kernel_rfl) 1 ?_
  repeat (first | refine SeqS.go cok ?_ | refine CondS.f rfl ?_)
  exact Fin.same ⟨rfl, rfl⟩
/-- obs.accountOK at the sender -/
theorem lAcctOK2 {I : Ent → Prop} {G : List Ent} {x : Ent} {a : Nat} (hr : Row x.c a el2) (hx : I x) (hs : a + 55 ≤ x.sz) :
    CallG Hvaf.prog 95 #[ptr x.b a] ⟨I, G⟩ fun r S' => ⟨I, G⟩ = S' ∧ r = .bool true := by
  have hrd : ∀ G, Rd ⟨I, G⟩ x := fun _ => .inl hx
  have hr2 : Row x.c (a + 21) (bvs w15) := ⟨fun i hi => by
    have hi : i < 32 := hi
    have := hr.get (21 + i) (by show 21 + i < 55; omega)
    rw [← Nat.add_assoc] at this
    rw [this]
    unfold el2
    rw [List.getD_eq_getElem?_getD, List.getElem?_append_right (by show 20 ≤ _; omega)]
    have e : 21 + i - (bvs (ad1 240)).length = i + 1 := by show 21 + i - 20 = _; omega
    rw [e, List.getElem?_cons_succ, List.getElem?_append_left (by exact hi), List.getD_eq_getElem?_getD]⟩
  refine CallG.start (C := mkC Hvaf.prog) cok (args := [ptr x.b a]) Hvaf.func95 rfl Hvaf.ntmps95 (by simp) (by kernel_rfl) ?_
  repeat (first | (refine QuG.keep ?_; refine QuG.cell cok hr (hrd _) rfl rfl rfl rfl rfl (Nat.le_of_ble_eq_true rfl) (by omega) ?_) | (refine QuG.keep ?_; refine QuG.rowE cok hr2 (hrd _) rfl rfl rfl rfl rfl rfl (by first | omega | (show _ + 32 ≤ _; omega)) ?_) | (refine QuG.keep ?_; refine QuG.eqA cok .u8 (xs := w15) (ys := z32) rfl rfl rfl rfl rfl (by kernel_rfl) rfl rfl rfl rfl ?_) | refine SeqS.go cok ?_ | refine GuardS.yes rfl ?_ | refine CondS.f rfl ?_ | refine And.intro (fillOk_of (Eq.refl true)) ?_)
  refine W.rounds cok (by kernel_rfl) 1 ?_
  repeat (first | refine SeqS.go cok ?_ | refine CondS.f rfl ?_)
  exact Fin.same ⟨rfl, rfl⟩
/-- The sum of two words whose bytes do not carry. -/
def addW (a b : List Nat) (k : Nat) : List Nat := (List.range 32).map fun i => if k ≤ i then a.getD i 0 + b.getD i 0 else a.getD i 0
theorem addW_get (a b : List Nat) (k i : Nat) (h : i < 32) : (addW a b k).getD i 0 = if k ≤ i then a.getD i 0 + b.getD i 0 else a.getD i 0 := by
  simp [addW, List.getD_eq_getElem?_getD, List.getElem?_range h]
theorem addW_len (a b : List Nat) (k : Nat) : (addW a b k).length = 32 := by simp [addW]
theorem addW_set (a b : List Nat) (k : Nat) (h : k < 32) : (addW a b (k + 1)).set k (a.getD k 0 + b.getD k 0) = addW a b k := by
  apply List.ext_getElem?
  intro i
  rw [List.getElem?_set]
  by_cases hi : i < 32
  · have e1 : (addW a b (k + 1))[i]? = some (if k + 1 ≤ i then a.getD i 0 + b.getD i 0 else a.getD i 0) := by simp [addW, List.getElem?_range hi]
    have e2 : (addW a b k)[i]? = some (if k ≤ i then a.getD i 0 + b.getD i 0 else a.getD i 0) := by simp [addW, List.getElem?_range hi]
    rw [e1, e2]
    by_cases hk : k = i
    · subst hk; rw [if_pos rfl, if_pos (by rw [addW_len]; exact hi), if_pos (Nat.le_refl _)]
    · rw [if_neg hk]
      by_cases h2 : k ≤ i
      · rw [if_pos (by omega), if_pos h2]
      · rw [if_neg (by omega), if_neg h2]
  · rw [if_neg (by omega), List.getElem?_eq_none (by rw [addW_len]; omega), List.getElem?_eq_none (by rw [addW_len]; omega)]
/-- obs.addTo where no byte carries -/
theorem lAddTo {I : Ent → Prop} {G : List Ent} {sb : Nat} {T : TypeId} {c : Nat → Value} {x : Ent} {o : Nat} {a b : List Nat} (how : Ow c a) (ha : a.length = 32) (hb : Row x.c o (bvs b)) (hbl : b.length = 32) (hx : I x) (hs : o + 32 ≤ x.sz) (hab : ∀ i, i < 32 → a.getD i 0 + b.getD i 0 < 256) :
    CallG Hvaf.prog 96 #[ptr sb 0, ptr x.b o] ⟨I, ⟨sb, 32, T, c⟩ :: G⟩ fun r S' => r = .bool true ∧ ∃ c', S' = ⟨I, ⟨sb, 32, T, c'⟩ :: G⟩ ∧ Ow c' (addW a b 0) := by
  have hrd : ∀ G, Rd ⟨I, G⟩ x := fun _ => .inl hx
  refine CallG.start (C := mkC Hvaf.prog) cok (args := [ptr sb 0, ptr x.b o]) Hvaf.func96 rfl Hvaf.ntmps96 (by simp) (by kernel_rfl) ?_
  repeat (first | refine SeqS.go cok ?_)
  refine W.loopE cok (by kernel_rfl) 0 (fun (k : Nat) e' S' => ∃ c, S' = ⟨I, ⟨sb, 32, T, c⟩ :: G⟩ ∧ Ow c (addW a b k) ∧ k ≤ 32 ∧ slots [(0, ptr sb 0), (1, ptr x.b o), (5, .int .u16 (0 : Nat)), (6, .int .i64 (k : Nat))] e') (fun k => k) 32
    ⟨c, rfl, ⟨fun i hi => by rw [addW_len] at hi; rw [addW_get _ _ _ _ hi, if_neg (by omega)]; exact how.get i (by omega)⟩, Nat.le_refl _, rfl, rfl, rfl, rfl, trivial⟩ (fun e' S' => ∃ c, S' = ⟨I, ⟨sb, 32, T, c⟩ :: G⟩ ∧ Ow c (addW a b 0) ∧ slots [(5, .int .u16 (0 : Nat))] e') ?_ ?_
  · rintro e' S2 - ⟨c2, rfl, how2, hsl⟩
    refine SeqS.slots cok _ hsl fun e => ?_
    repeat (first | refine SeqS.go cok ?_)
    exact Fin.same ⟨rfl, c2, rfl, how2⟩
  · rintro k e' S2 - ⟨c2, rfl, how2, hk, hsl⟩
    refine W.slots _ hsl fun e => ?_
    by_cases h0 : 0 < k
    · obtain ⟨m, rfl⟩ : ∃ m, k = m + 1 := ⟨k - 1, by omega⟩
      have hlen := addW_len a b (m + 1)
      have hg := addW_get a b (m + 1) m (by omega)
      rw [if_neg (by omega)] at hg
      have hsum := hab m (by omega)
      have hrow : Bs x o b := ⟨by omega, fun i hi => by rw [hb.get i (by rw [bvs_len]; exact hi), bvs_getD _ _ hi]⟩
      repeat (first | (refine QuG.keep ?_; refine QuG.ow cok 0 rfl how2 rfl rfl rfl rfl rfl rfl (by omega) (by show _ ≤ 32; omega) ?_) | (refine OpG.keep ?_; refine OpG.ow cok 0 rfl how2 rfl rfl rfl rfl rfl rfl rfl (by omega) (by show _ ≤ 32; omega) ?_) | (refine QuG.keep ?_; refine QuG.bs cok hrow (hrd _) rfl rfl rfl rfl (by omega) ?_) | refine SeqS.go cok ?_ | refine And.intro (by dsimp only; omega) ?_ | (refine NatS.keep ?_; first | with_reducible refine NatS.nat ?_) | (refine ValS.keep ?_; first | (with_reducible refine ValS.kI64 ?_; first | (with_reducible refine ValS.subI64_L ?_ ?_ ?_ ; omega; omega)) | (with_reducible refine ValS.kU8 ?_; first | (with_reducible refine ValS.convWU8 ?_ )) | (with_reducible refine ValS.kU16 ?_; first | (with_reducible refine ValS.convWU16 ?_ ) | (with_reducible refine ValS.addU16 ?_ ?_ ; omega) | (with_reducible refine ValS.addWU16 ?_ ))) | refine W.drawI 5 cok [0, 0, 0, 4, 2, 30, 62, 126, 0, 0, 512, 256, 3840, 7936, 16128, 32766, 65535, 131071] [0, 1, 2, 3, 4, 5, 6, 7, 8, 9, 10, 11, 12, 13, 14, 15, 16, 17] [6, 13] (by kernel_rfl) (by kernel_rfl) ?_ | (refine CondS.keep ?_; first | refine CondS.d1 rfl (by omega) ?_))
      rintro c3 how3
      repeat (first | refine SeqS.go cok ?_ | refine And.intro (by omega) ?_ | (refine ValS.keep ?_; first | (with_reducible refine ValS.kI64 ?_; first | (with_reducible refine ValS.subI64_L ?_ ?_ ?_ ; omega; omega)) | (with_reducible refine ValS.kU16 ?_; first | (with_reducible refine ValS.shrU16_L ?_ ?_ ; omega))))
      refine ⟨m, ⟨c3, rfl, ?_, by omega, rfl, rfl, vI rfl ?_, rfl, trivial⟩, by show m < m + 1; omega⟩
      · rw [Nat.add_sub_cancel, hg] at how3
        have e : (0 + (a.getD m 0 % 65536 + b.getD m 0 % 65536) % 65536) % 256 = a.getD m 0 + b.getD m 0 := by omega
        rw [e, addW_set a b m (by omega)] at how3
        exact how3
      · rw [Nat.add_sub_cancel, hg]
        have e : (2 : Nat) ^ 8 = 256 := by decide
        rw [e]
        omega
    · obtain rfl : k = 0 := by omega
      repeat (first | refine SeqS.go cok ?_ | refine CondS.f rfl ?_)
      exact ⟨c2, rfl, how2, rfl, trivial⟩
end Go.Proofs.YgvafwGreat
