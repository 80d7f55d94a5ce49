import Derived.Test.YgvafwGreatY50
set_option exponentiation.threshold 1000
set_option maxRecDepth 100000
set_option maxHeartbeats 4000000
set_option linter.unusedVariables false
set_option linter.unusedSimpArgs false
-- v2
-- v4
-- v5
-- v6
-- v7
namespace Go.Proofs.YgvafwGreat
open Go.HL Go.Proofs

theorem yArgF3 {I : Ent → Prop} {G : List Ent} {x y : Ent} {fb fsz pc gas i : Nat} {T : TypeId} {c : Nat → Value} {K : YK} {stk : List Nat} (hfz : 60 ≤ fsz) (hF : YF I c K pc gas stk) (hi : i < 2 ^ 30) :
    CallG Hvaf.prog 73 #[ptr fb 0, .int .i64 (i : Nat)] ⟨I, x :: y :: ⟨fb, fsz, T, c⟩ :: G⟩ fun r S' => ⟨I, x :: y :: ⟨fb, fsz, T, c⟩ :: G⟩ = S' ∧ NatI I r (argN stk i) := by
  refine CallG.conv (CallG.focus 2 rfl (yArg (G := x :: y :: G) hfz hF.fstk (by have := hF.fl; omega) hi)) ?_
  rintro v S' - ⟨rfl, h⟩
  exact Fin.focus 2 rfl (Fin.focus 2 rfl (Fin.same ⟨rfl, h⟩))
theorem upd_snoc {z : Nat → Value} {vs : List Value} {v : Value} {i : Nat} (h : vs.length = i) : upd (updN z 0 vs) i v = updN z 0 (vs ++ [v]) := by
  subst h
  funext k
  by_cases hk : k < vs.length
  · rw [upd_ne (by omega)]
    simp only [updN, List.length_append, List.length_singleton, Nat.zero_add, Nat.zero_le, true_and, Nat.sub_zero]
    rw [if_pos hk, if_pos (by omega), List.getD_eq_getElem?_getD, List.getD_eq_getElem?_getD, List.getElem?_append_left hk]
  · by_cases he : k = vs.length
    · subst he
      simp [upd, updN]
    · rw [upd_ne he]
      simp only [updN, List.length_append, List.length_singleton, Nat.zero_add, Nat.zero_le, true_and, Nat.sub_zero]
      rw [if_neg hk, if_neg (by omega)]
def argsN (s : List Nat) (t : Nat) : List Nat := (List.range t).map (argN s)
theorem argsN_len (s : List Nat) (t : Nat) : (argsN s t).length = t := by simp [argsN]
theorem argsN_get (s : List Nat) {t i : Nat} (h : i < t) : (argsN s t).getD i 0 = argN s i := by
  simp only [argsN, List.getD_eq_getElem?_getD, List.getElem?_map, List.getElem?_range h]; rfl
theorem flat1 : ∀ vs : List Value, (vs.map fun v => [v]).flatten = vs
  | [] => rfl
  | a :: l => by rw [List.map_cons, List.flatten_cons, flat1 l]; rfl
theorem args_stk {I : Ent → Prop} {b t sz : Nat} {T : TypeId} {z : Nat → Value} {vs : List Value} {s : List Nat} (hsz : t ≤ sz) (hl : vs.length = t) (hN : ∀ j, j < t → NatI I (vs.getD j undef) (argN s j)) {J : Ent → Prop} (hx : J ⟨b, sz, T, updN z 0 vs⟩) (hs : Sub I J) : StkI J (sl b 0 t t) (argsN s t) := by
  refine ⟨vs.map fun v => [v], ⟨by simp, .inr ⟨⟨b, sz, T, updN z 0 vs⟩, 0, t, by rw [List.length_map, hl], by rw [List.length_map, hl]; exact Nat.le_refl _, hx, by simp, ?_, ?_⟩⟩, by rw [List.length_map, argsN_len, hl], fun i hi => ?_⟩
  · show Row (updN z 0 vs) 0 (vs.map fun v => [v]).flatten
    rw [flat1]; exact Row.updN2 _ _ _
  · show 0 + (vs.map fun v => [v]).length * 1 ≤ sz
    rw [List.length_map, hl]; omega
  · rw [argsN_len] at hi
    refine ⟨vs.getD i undef, ?_, by rw [argsN_get s hi]; exact (hN i hi).up hs⟩
    rw [List.getD_eq_getElem?_getD, List.getElem?_map, List.getElem?_eq_getElem (by omega), List.getD_eq_getElem?_getD, List.getElem?_eq_getElem (by omega)]; rfl
theorem callV {P : Program} {f : FuncId} {args : Array Value} {S : St} {K : Post} {v : Nat} {mk : (Nat → Value) → List Ent} {WP : (Ent → Prop) → (Nat → Value) → Prop} (h : CallG P f args S fun r S' => ∃ J2 cs', S' = ⟨J2, mk cs'⟩ ∧ NatI J2 r v ∧ WP J2 cs')
    (k : ∀ a n c J2 cs', Sub S.I J2 → NatI J2 (.slice a n c) v → WP J2 cs' → K (.slice a n c) ⟨J2, mk cs'⟩) : CallG P f args S K := by
  refine h.mono ?_
  rintro r _ hs ⟨J2, cs', rfl, hN, hw⟩
  obtain ⟨ds, hb, _⟩ := hN.byt []
  obtain ⟨a, c, rfl, _⟩ := hb.form
  exact k a _ c J2 cs' hs hN hw
end Go.Proofs.YgvafwGreat
