import Derived.Test.YgvafwGreatY10
set_option maxRecDepth 100000
set_option maxHeartbeats 4000000
set_option linter.unusedVariables false
set_option linter.unusedSimpArgs false
-- v2
-- v4
namespace Go.HL
section
variable {C : Cfg} {e : Env} {S : St} {ty : TypeId} {q : Value → Prop} {t : TypeId} {a : Operand} {ti : TI} {b b' o n sz : Nat} {T : TypeId} {c : Nat → Value} {vs : List Value}
theorem QuG.boxS (hC : C.Ok) (k : Nat) {p o' : Nat} {l : List Value} (hx : S.G[k]? = some ⟨b, vs.length, T, vc (.agg vs.toArray)⟩) (hD : C.D t = some ti) (hk : isAggK ti = true) (ha : ev e a = ptr b' o') (hb : b = b') (hoo : o' = 0 + p) (hs : (vs.drop p).take ti.size = l ∧ 0 < l.length) (hl : l.length = ti.size) (h : q (.agg l.toArray)) : QuG C.P (.load t a) ty e S q := by
  obtain ⟨hs, hpos⟩ := hs
  have hlen := congrArg List.length hs
  simp only [List.length_take, List.length_drop, hl] at hlen
  exact QuG.rowE hC (x := ⟨b, vs.length, T, vc (.agg vs.toArray)⟩) (Row.sub hs hl (Row.box vs)) (.inr (List.mem_of_getElem? hx)) hD hk ha hb hoo hl (by show 0 + p + ti.size ≤ vs.length; omega) h
end
end Go.HL
namespace Go.Proofs.YgvafwGreat
open Go.HL Go.Proofs

/-- Lists whose elements belong together. -/
structure L2 {α : Type} (R : List Value → α → Prop) (d : α) (vss : List (List Value)) (al : List α) : Prop where
  len : vss.length = al.length
  at' : ∀ i, i < al.length → R (vss.getD i []) (al.getD i d)
theorem L2.nil {α : Type} (R : List Value → α → Prop) (d : α) : L2 R d [] [] := ⟨rfl, by simp⟩
theorem L2.snoc {α : Type} {R : List Value → α → Prop} {d : α} {vss : List (List Value)} {al : List α} (h : L2 R d vss al) {l : List Value} {a : α} (hr : R l a) : L2 R d (vss ++ [l]) (al ++ [a]) := by
  have hl := h.len
  refine ⟨by simp [hl], fun i hi => ?_⟩
  simp only [List.length_append, List.length_singleton] at hi
  by_cases h1 : i < al.length
  · have := h.at' i h1
    rw [List.getD_eq_getElem?_getD, List.getD_eq_getElem?_getD, List.getElem?_append_left (by omega), List.getElem?_append_left h1, ← List.getD_eq_getElem?_getD, ← List.getD_eq_getElem?_getD]
    exact this
  · obtain rfl : i = al.length := by omega
    rw [List.getD_eq_getElem?_getD, List.getD_eq_getElem?_getD, List.getElem?_append_right (by omega), List.getElem?_append_right (by omega), hl, Nat.sub_self]
    exact hr
theorem L2.mono {α : Type} {R R' : List Value → α → Prop} {d : α} {vss : List (List Value)} {al : List α} (h : L2 R d vss al) (hr : ∀ l a, R l a → R' l a) : L2 R' d vss al := ⟨h.len, fun i hi => hr _ _ (h.at' i hi)⟩
abbrev dA : YA := ⟨[], 0, 0, [], []⟩
theorem AcctsI.mk' {I : Ent → Prop} {v : Value} {vss : List (List Value)} {al : List YA} (h : RowI I 24 v vss) (h2 : L2 (AcctC I) dA vss al) : AcctsI I v al := ⟨vss, h, h2.len, h2.at'⟩
/-- yp.Acct.empty -/
theorem yEmpty {I : Ent → Prop} {G : List Ent} {b sz : Nat} {T : TypeId} {c : Nat → Value} {n m : Nat} {code : List Nat} (hsz : 24 ≤ sz) (hN : NatI I (c 20) n) (hN2 : NatI I (c 21) m) (hb : Byt ⟨I, []⟩ (c 22) code) :
    CallG Hvaf.prog 33 #[ptr b 0] ⟨I, ⟨b, sz, T, c⟩ :: G⟩ fun r S' => ⟨I, ⟨b, sz, T, c⟩ :: G⟩ = S' ∧ r = .bool (decide (n = 0) && (decide (m = 0) && decide (code.length = 0))) := by
  obtain ⟨ad, cap, hcv, k1, k2, k3⟩ := hb.form
  have z1 := yIsZero (G := ⟨b, sz, T, c⟩ :: G) hN
  have z2 := yIsZero (G := ⟨b, sz, T, c⟩ :: G) hN2
  by_cases h1 : n = 0
  · rw [decide_eq_true h1] at z1 ⊢
    by_cases h2 : m = 0
    · rw [decide_eq_true h2] at z2 ⊢
      by_cases h3 : code.length = 0
      · rw [decide_eq_true h3]
        rw [h3] at hcv
        refine CallG.start (C := mkC Hvaf.prog) cok (args := [ptr b 0]) Hvaf.func33 rfl Hvaf.ntmps33 (by simp) (by kernel_rfl) ?_
        repeat (first | refine SeqS.go cok ?_ | (refine QuG.keep ?_; first | refine QuG.l1 cok 0 rfl rfl rfl rfl rfl (by first | exact Nat.le_of_ble_eq_true rfl | omega | (dsimp only; omega) | (simp only [addS_eq, mulS_eq]; omega)) ?_))
        refine (z1).mono ?_
        rintro r _ - ⟨rfl, rfl⟩
        repeat (first | refine GuardS.yes rfl ?_ | (refine QuG.keep ?_; first | refine QuG.l1 cok 0 rfl rfl rfl rfl rfl (by first | exact Nat.le_of_ble_eq_true rfl | omega | (dsimp only; omega) | (simp only [addS_eq, mulS_eq]; omega)) ?_))
        refine (z2).mono ?_
        rintro r _ - ⟨rfl, rfl⟩
        repeat (first | (refine QuG.keep ?_; first | refine QuG.l1E cok 0 rfl rfl rfl rfl rfl (by first | exact Nat.le_of_ble_eq_true rfl | omega | (dsimp only; omega) | (simp only [addS_eq, mulS_eq]; omega)) (by assumption) ?_) | refine SeqS.go cok ?_ | refine GuardS.yes rfl ?_)
        exact Fin.same ⟨rfl, rfl⟩
      · rw [decide_eq_false h3]
        refine CallG.start (C := mkC Hvaf.prog) cok (args := [ptr b 0]) Hvaf.func33 rfl Hvaf.ntmps33 (by simp) (by kernel_rfl) ?_
        repeat (first | refine SeqS.go cok ?_ | (refine QuG.keep ?_; first | refine QuG.l1 cok 0 rfl rfl rfl rfl rfl (by first | exact Nat.le_of_ble_eq_true rfl | omega | (dsimp only; omega) | (simp only [addS_eq, mulS_eq]; omega)) ?_))
        refine (z1).mono ?_
        rintro r _ - ⟨rfl, rfl⟩
        repeat (first | refine GuardS.yes rfl ?_ | (refine QuG.keep ?_; first | refine QuG.l1 cok 0 rfl rfl rfl rfl rfl (by first | exact Nat.le_of_ble_eq_true rfl | omega | (dsimp only; omega) | (simp only [addS_eq, mulS_eq]; omega)) ?_))
        refine (z2).mono ?_
        rintro r _ - ⟨rfl, rfl⟩
        repeat (first | (refine QuG.keep ?_; first | refine QuG.l1E cok 0 rfl rfl rfl rfl rfl (by first | exact Nat.le_of_ble_eq_true rfl | omega | (dsimp only; omega) | (simp only [addS_eq, mulS_eq]; omega)) (by assumption) ?_) | refine SeqS.go cok ?_ | refine GuardS.yes rfl ?_)
        refine Fin.same ⟨rfl, ?_⟩
        exact vB rfl (by simp; exact fun h => h3 (by simp [h]))
    · rw [decide_eq_false h2] at z2 ⊢
      refine CallG.start (C := mkC Hvaf.prog) cok (args := [ptr b 0]) Hvaf.func33 rfl Hvaf.ntmps33 (by simp) (by kernel_rfl) ?_
      repeat (first | refine SeqS.go cok ?_ | (refine QuG.keep ?_; first | refine QuG.l1 cok 0 rfl rfl rfl rfl rfl (by first | exact Nat.le_of_ble_eq_true rfl | omega | (dsimp only; omega) | (simp only [addS_eq, mulS_eq]; omega)) ?_))
      refine (z1).mono ?_
      rintro r _ - ⟨rfl, rfl⟩
      repeat (first | refine GuardS.yes rfl ?_ | (refine QuG.keep ?_; first | refine QuG.l1 cok 0 rfl rfl rfl rfl rfl (by first | exact Nat.le_of_ble_eq_true rfl | omega | (dsimp only; omega) | (simp only [addS_eq, mulS_eq]; omega)) ?_))
      refine (z2).mono ?_
      rintro r _ - ⟨rfl, rfl⟩
      repeat (first | refine SeqS.go cok ?_ | refine GuardS.no rfl ?_)
      exact Fin.same ⟨rfl, rfl⟩
  · rw [decide_eq_false h1] at z1 ⊢
    refine CallG.start (C := mkC Hvaf.prog) cok (args := [ptr b 0]) Hvaf.func33 rfl Hvaf.ntmps33 (by simp) (by kernel_rfl) ?_
    repeat (first | refine SeqS.go cok ?_ | (refine QuG.keep ?_; first | refine QuG.l1 cok 0 rfl rfl rfl rfl rfl (by first | exact Nat.le_of_ble_eq_true rfl | omega | (dsimp only; omega) | (simp only [addS_eq, mulS_eq]; omega)) ?_))
    refine (z1).mono ?_
    rintro r _ - ⟨rfl, rfl⟩
    repeat (first | refine SeqS.go cok ?_ | refine GuardS.no rfl ?_)
    exact Fin.same ⟨rfl, rfl⟩
/-- The list with the account in its place. -/
def putL (a : YA) (laid : Bool) : List YA → List YA
  | [] => if laid then [] else [a]
  | x :: l => (if !laid && !ltL x.addr a.addr then [a] else []) ++ ((if x.addr = a.addr then [] else [x]) ++ putL a (laid || !ltL x.addr a.addr) l)
def noA (a : YA) : Bool := emptyA a && decide (a.slots.length = 0)
def putA (a : YA) (al : List YA) : List YA := putL a (noA a) al
theorem putL_len (a : YA) : ∀ (al : List YA) (laid : Bool), (putL a laid al).length ≤ al.length + 1 ∧ (laid = true → (putL a laid al).length ≤ al.length)
  | [], laid => by cases laid <;> simp [putL]
  | x :: l, laid => by
    have ih := putL_len a l (laid || !ltL x.addr a.addr)
    unfold putL
    generalize ltL x.addr a.addr = b at ih ⊢
    cases laid <;> cases b <;> by_cases he : x.addr = a.addr <;> simp [he] at ih ⊢ <;> omega
theorem drop_consA {l : List YA} {i : Nat} (h : i < l.length) : l.drop i = l.getD i dA :: l.drop (i + 1) := by
  rw [List.drop_eq_getElem_cons h, List.getD_eq_getElem?_getD, List.getElem?_eq_getElem h]; rfl
end Go.Proofs.YgvafwGreat
