import Derived.Test.YgvafwGreatHQ
set_option maxRecDepth 100000
set_option maxHeartbeats 4000000
set_option linter.unusedVariables false
set_option linter.unusedSimpArgs false
-- v2
-- plus: (refine ValS.keep ?_; with_reducible refine ValS.minL ?_)
namespace Go.Proofs.YgvafwGreat
open Go.HL Go.Proofs

theorem _root_.Go.HL.ValS.minL {k : IntKind} {a n : Nat} {q : Value → Prop} (h : q (.int k ((min a (OfNat.ofNat n) : Nat) : Int))) : ValS (.int k (if (OfNat.ofNat n : Int) < (a : Int) then (OfNat.ofNat n : Int) else (a : Int))) q :=
  ValS.minN (a := a) (b := OfNat.ofNat n) h
theorem _root_.Go.HL.Byt.pre {S : St} {a : Option Addr} {n cap k : Nat} {ds : List Nat} (h : Byt S (.slice a n cap) ds) (hk : k ≤ ds.length) : Byt S (.slice a k cap) (ds.take k) := by
  obtain ⟨h1, h2, a', cap', h3, h4, h5, h6⟩ := h
  cases h3
  have hlen : (ds.take k).length = k := by simp; omega
  refine ⟨fun d hm => h1 d (List.mem_of_mem_take hm), by omega, a, cap, by rw [hlen], by omega, by omega, ?_⟩
  rcases h6 with ⟨ha, hd, hc⟩ | ⟨x, o, ha, hx, hb⟩
  · subst hd; left; exact ⟨ha, by simp, hc⟩
  · right; exact ⟨x, o, ha, hx, hb.take k⟩
theorem val_take_mod (ds : List Nat) (hd : ∀ d ∈ ds, d < 256) (k : Nat) : val (ds.take k) = val ds % 256 ^ k := by
  by_cases hk : k ≤ ds.length
  · have h1 := val_append (ds.take k) (ds.drop k)
    rw [List.take_append_drop, List.length_take, Nat.min_eq_left hk] at h1
    have h2 := val_lt (ds.take k) (fun d h => hd d (List.mem_of_mem_take h))
    rw [List.length_take, Nat.min_eq_left hk] at h2
    rw [h1, Nat.add_mul_mod_self_left, Nat.mod_eq_of_lt h2]
  · rw [List.take_of_length_le (by omega)]
    have h2 := val_lt ds hd
    have h3 : 256 ^ ds.length ≤ 256 ^ k := Nat.pow_le_pow_right (by decide) (by omega)
    rw [Nat.mod_eq_of_lt (Nat.lt_of_lt_of_le h2 h3)]
/-- yp.wrapped -/
theorem yWrapped {I : Ent → Prop} {G : List Ent} {v : Value} {n : Nat} (hN : NatI I v n) :
    CallG Hvaf.prog 347 #[v] ⟨I, G⟩ fun r S' => S'.G = G ∧ NatI S'.I r (n % 2 ^ 256) := by
  have hlt := hN.lt
  obtain ⟨ds, hb, hn, hv, hl⟩ := hN.byt G
  rcases hb.cases with ⟨rfl, rfl⟩ | ⟨x, o, cap, rfl, h1, h2, hx, hbs⟩
  · obtain rfl : n = 0 := by rw [← hv]; rfl
    refine CallG.start (C := mkC Hvaf.prog) cok (args := [.slice none 0 0]) Hvaf.func347 rfl Hvaf.ntmps347 (by simp) (by kernel_rfl) ?_
    repeat (first | (refine ValS.keep ?_; with_reducible refine ValS.minL ?_) | refine SeqS.go cok ?_ | refine And.intro (Eq.refl true) ?_ | refine And.intro (by omega) ?_ | (refine NatS.keep ?_; first | with_reducible refine NatS.nat ?_))
    refine callN (nNorm (NatI.zero I)) ?_
    intro rhN1 I hshN1 hN1
    try replace hN := hN.up hshN1
    repeat (first | refine SeqS.go cok ?_)
    exact Fin.same ⟨rfl, hN1⟩
  · have hm := hb.pre (k := min ds.length 32) (by omega)
    have hv2 : val (ds.take (min ds.length 32)) = n % 2 ^ 256 := by
      rw [val_take_mod ds hb.1, ← hv]
      by_cases h : 32 ≤ ds.length
      · rw [Nat.min_eq_right h]
      · rw [Nat.min_eq_left (by omega)]
        have h2 := val_lt ds hb.1
        have h3 : 256 ^ ds.length ≤ 256 ^ 32 := Nat.pow_le_pow_right (by decide) (by omega)
        rw [Nat.mod_eq_of_lt h2, Nat.mod_eq_of_lt (by rw [show (2 : Nat) ^ 256 = 256 ^ 32 from rfl]; omega)]
    have hs := Norm_spec hm (by rw [hv2]; exact Nat.lt_of_le_of_lt (Nat.mod_le _ _) hlt)
    rw [hv2] at hs
    refine CallG.start (C := mkC Hvaf.prog) cok (args := [.slice (some ⟨x.b, o, none⟩) ds.length cap]) Hvaf.func347 rfl Hvaf.ntmps347 (by simp) (by kernel_rfl) ?_
    repeat (first | (refine ValS.keep ?_; with_reducible refine ValS.minL ?_) | refine SeqS.go cok ?_ | refine And.intro (Eq.refl true) ?_ | refine And.intro (by omega) ?_ | (refine NatS.keep ?_; first | with_reducible refine NatS.nat ?_) | (refine ValS.keep ?_; first | with_reducible refine ValS.sl0 ?_))
    refine callN (hs) ?_
    intro rhN1 I hshN1 hN1
    try replace hN := hN.up hshN1
    try replace hN1 := hN1.up hshN1
    repeat (first | refine SeqS.go cok ?_)
    exact Fin.same ⟨rfl, hN1⟩
/-- yp.negated -/
theorem yNegated {I : Ent → Prop} {G : List Ent} {v : Value} {n : Nat} (hN : NatI I v n) :
    CallG Hvaf.prog 348 #[v] ⟨I, G⟩ fun r S' => S'.G = G ∧ NatI S'.I r ((2 ^ 256 - n) % 2 ^ 256) := by
  refine CallG.start (C := mkC Hvaf.prog) cok (args := [v]) Hvaf.func348 rfl Hvaf.ntmps348 (by simp) (by kernel_rfl) ?_
  repeat (first | refine SeqS.go cok ?_)
  refine callN (Pow2_spec (S := ⟨I, G⟩) (k := 256) (by decide)) ?_
  intro rhN1 I hshN1 hN1
  try replace hN := hN.up hshN1
  skip
  refine (nSub hN1 hN).mono ?_
  rintro r ⟨J, G'⟩ hs ⟨rfl, w, rfl, hw⟩
  repeat (first | refine SeqS.go cok ?_)
  refine callN (yWrapped hw) ?_
  intro rhN2 I hshN2 hN2
  try replace hN := hN.up hshN2
  try replace hN1 := hN1.up hshN2
  repeat (first | refine SeqS.go cok ?_)
  exact Fin.same ⟨rfl, hN2⟩
/-- yp.isNegative -/
theorem yIsNeg {I : Ent → Prop} {G : List Ent} {v : Value} {n : Nat} (hN : NatI I v n) :
    CallG Hvaf.prog 351 #[v] ⟨I, G⟩ fun r S' => ⟨I, G⟩ = S' ∧ r = .bool (n.testBit 255) := by
  refine CallG.start (C := mkC Hvaf.prog) cok (args := [v]) Hvaf.func351 rfl Hvaf.ntmps351 (by simp) (by kernel_rfl) ?_
  repeat (first | refine SeqS.go cok ?_)
  refine (nBit (i := 255) hN (by decide)).mono ?_
  rintro r _ - ⟨rfl, rfl⟩
  repeat (first | refine SeqS.go cok ?_)
  exact Fin.same ⟨rfl, rfl⟩
/-- n, or its two's complement. -/
def sgn (n : Nat) (b : Bool) : Nat := if b then (2 ^ 256 - n) % 2 ^ 256 else n
/-- yp.withSign -/
theorem yWithSign {I : Ent → Prop} {G : List Ent} {v : Value} {n : Nat} {b : Bool} (hN : NatI I v n) :
    CallG Hvaf.prog 350 #[v, .bool b] ⟨I, G⟩ fun r S' => S'.G = G ∧ NatI S'.I r (sgn n b) := by
  cases b
  · refine CallG.start (C := mkC Hvaf.prog) cok (args := [v, .bool false]) Hvaf.func350 rfl Hvaf.ntmps350 (by simp) (by kernel_rfl) ?_
    repeat (first | refine SeqS.go cok ?_ | refine CondS.f rfl ?_)
    refine callN (nNorm hN) ?_
    intro rhN1 I hshN1 hN1
    try replace hN := hN.up hshN1
    repeat (first | refine SeqS.go cok ?_)
    exact Fin.same ⟨rfl, hN1⟩
  · refine CallG.start (C := mkC Hvaf.prog) cok (args := [v, .bool true]) Hvaf.func350 rfl Hvaf.ntmps350 (by simp) (by kernel_rfl) ?_
    repeat (first | refine SeqS.go cok ?_ | refine CondS.t rfl ?_)
    refine callN (yNegated hN) ?_
    intro rhN1 I hshN1 hN1
    try replace hN := hN.up hshN1
    try replace hN1 := hN1.up hshN1
    repeat (first | refine SeqS.go cok ?_)
    exact Fin.same ⟨rfl, hN1⟩
/-- The absolute value of a number in two's complement. -/
def mag (n : Nat) : Nat := sgn n (n.testBit 255)
/-- yp.magnitude -/
theorem yMagnitude {I : Ent → Prop} {G : List Ent} {v : Value} {n : Nat} (hN : NatI I v n) :
    CallG Hvaf.prog 349 #[v] ⟨I, G⟩ fun r S' => S'.G = G ∧ NatI S'.I r (mag n) := by
  refine CallG.start (C := mkC Hvaf.prog) cok (args := [v]) Hvaf.func349 rfl Hvaf.ntmps349 (by simp) (by kernel_rfl) ?_
  repeat (first | refine SeqS.go cok ?_)
  refine (yIsNeg hN).mono ?_
  rintro r _ - ⟨rfl, rfl⟩
  skip
  refine callN (yWithSign hN) ?_
  intro rhN1 I hshN1 hN1
  try replace hN := hN.up hshN1
  repeat (first | refine SeqS.go cok ?_)
  exact Fin.same ⟨rfl, hN1⟩
def sbelow (a b : Nat) : Bool := if a.testBit 255 = b.testBit 255 then decide (a < b) else a.testBit 255
/-- yp.signedBelow -/
theorem ySignedBelow {I : Ent → Prop} {G : List Ent} {v u : Value} {a b : Nat} (hN : NatI I v a) (hN2 : NatI I u b) :
    CallG Hvaf.prog 355 #[v, u] ⟨I, G⟩ fun r S' => ⟨I, G⟩ = S' ∧ r = .bool (sbelow a b) := by
  have p1 := yIsNeg (G := G) hN
  have p2 := yIsNeg (G := G) hN2
  unfold sbelow
  cases h1 : a.testBit 255 <;> cases h2 : b.testBit 255 <;> rw [h1] at p1 <;> rw [h2] at p2
  · rw [if_pos rfl]
    rcases Nat.lt_trichotomy a b with h | h | h
    · refine CallG.start (C := mkC Hvaf.prog) cok (args := [v, u]) Hvaf.func355 rfl Hvaf.ntmps355 (by simp) (by kernel_rfl) ?_
      repeat (first | refine SeqS.go cok ?_)
      refine (p1).mono ?_
      rintro r _ - ⟨rfl, rfl⟩
      skip
      refine (p2).mono ?_
      rintro r _ - ⟨rfl, rfl⟩
      repeat (first | refine SeqS.go cok ?_ | refine CondS.f rfl ?_ | (refine QuG.keep ?_; first | refine QuG.neB cok rfl rfl rfl rfl ?_))
      refine (nCmpL hN hN2 h).mono ?_
      rintro r _ - ⟨rfl, rfl⟩
      repeat (first | refine SeqS.go cok ?_)
      exact Fin.same ⟨rfl, by rw [decide_eq_true h]; rfl⟩
    · refine CallG.start (C := mkC Hvaf.prog) cok (args := [v, u]) Hvaf.func355 rfl Hvaf.ntmps355 (by simp) (by kernel_rfl) ?_
      repeat (first | refine SeqS.go cok ?_)
      refine (p1).mono ?_
      rintro r _ - ⟨rfl, rfl⟩
      skip
      refine (p2).mono ?_
      rintro r _ - ⟨rfl, rfl⟩
      repeat (first | refine SeqS.go cok ?_ | refine CondS.f rfl ?_ | (refine QuG.keep ?_; first | refine QuG.neB cok rfl rfl rfl rfl ?_))
      refine (nCmpE hN hN2 h).mono ?_
      rintro r _ - ⟨rfl, rfl⟩
      repeat (first | refine SeqS.go cok ?_)
      exact Fin.same ⟨rfl, by rw [decide_eq_false (show ¬ a < b by omega)]; rfl⟩
    · refine CallG.start (C := mkC Hvaf.prog) cok (args := [v, u]) Hvaf.func355 rfl Hvaf.ntmps355 (by simp) (by kernel_rfl) ?_
      repeat (first | refine SeqS.go cok ?_)
      refine (p1).mono ?_
      rintro r _ - ⟨rfl, rfl⟩
      skip
      refine (p2).mono ?_
      rintro r _ - ⟨rfl, rfl⟩
      repeat (first | refine SeqS.go cok ?_ | refine CondS.f rfl ?_ | (refine QuG.keep ?_; first | refine QuG.neB cok rfl rfl rfl rfl ?_))
      refine (nCmpG hN hN2 h).mono ?_
      rintro r _ - ⟨rfl, rfl⟩
      repeat (first | refine SeqS.go cok ?_)
      exact Fin.same ⟨rfl, by rw [decide_eq_false (show ¬ a < b by omega)]; rfl⟩
  · rw [if_neg (by decide)]
    refine CallG.start (C := mkC Hvaf.prog) cok (args := [v, u]) Hvaf.func355 rfl Hvaf.ntmps355 (by simp) (by kernel_rfl) ?_
    repeat (first | refine SeqS.go cok ?_)
    refine (p1).mono ?_
    rintro r _ - ⟨rfl, rfl⟩
    skip
    refine (p2).mono ?_
    rintro r _ - ⟨rfl, rfl⟩
    repeat (first | refine SeqS.go cok ?_ | refine CondS.t rfl ?_ | (refine QuG.keep ?_; first | refine QuG.neB cok rfl rfl rfl rfl ?_))
    refine (p1).mono ?_
    rintro r _ - ⟨rfl, rfl⟩
    repeat (first | refine SeqS.go cok ?_)
    exact Fin.same ⟨rfl, rfl⟩
  · rw [if_neg (by decide)]
    refine CallG.start (C := mkC Hvaf.prog) cok (args := [v, u]) Hvaf.func355 rfl Hvaf.ntmps355 (by simp) (by kernel_rfl) ?_
    repeat (first | refine SeqS.go cok ?_)
    refine (p1).mono ?_
    rintro r _ - ⟨rfl, rfl⟩
    skip
    refine (p2).mono ?_
    rintro r _ - ⟨rfl, rfl⟩
    repeat (first | refine SeqS.go cok ?_ | refine CondS.t rfl ?_ | (refine QuG.keep ?_; first | refine QuG.neB cok rfl rfl rfl rfl ?_))
    refine (p1).mono ?_
    rintro r _ - ⟨rfl, rfl⟩
    repeat (first | refine SeqS.go cok ?_)
    exact Fin.same ⟨rfl, rfl⟩
  · rw [if_pos rfl]
    rcases Nat.lt_trichotomy a b with h | h | h
    · refine CallG.start (C := mkC Hvaf.prog) cok (args := [v, u]) Hvaf.func355 rfl Hvaf.ntmps355 (by simp) (by kernel_rfl) ?_
      repeat (first | refine SeqS.go cok ?_)
      refine (p1).mono ?_
      rintro r _ - ⟨rfl, rfl⟩
      skip
      refine (p2).mono ?_
      rintro r _ - ⟨rfl, rfl⟩
      repeat (first | refine SeqS.go cok ?_ | refine CondS.f rfl ?_ | (refine QuG.keep ?_; first | refine QuG.neB cok rfl rfl rfl rfl ?_))
      refine (nCmpL hN hN2 h).mono ?_
      rintro r _ - ⟨rfl, rfl⟩
      repeat (first | refine SeqS.go cok ?_)
      exact Fin.same ⟨rfl, by rw [decide_eq_true h]; rfl⟩
    · refine CallG.start (C := mkC Hvaf.prog) cok (args := [v, u]) Hvaf.func355 rfl Hvaf.ntmps355 (by simp) (by kernel_rfl) ?_
      repeat (first | refine SeqS.go cok ?_)
      refine (p1).mono ?_
      rintro r _ - ⟨rfl, rfl⟩
      skip
      refine (p2).mono ?_
      rintro r _ - ⟨rfl, rfl⟩
      repeat (first | refine SeqS.go cok ?_ | refine CondS.f rfl ?_ | (refine QuG.keep ?_; first | refine QuG.neB cok rfl rfl rfl rfl ?_))
      refine (nCmpE hN hN2 h).mono ?_
      rintro r _ - ⟨rfl, rfl⟩
      repeat (first | refine SeqS.go cok ?_)
      exact Fin.same ⟨rfl, by rw [decide_eq_false (show ¬ a < b by omega)]; rfl⟩
    · refine CallG.start (C := mkC Hvaf.prog) cok (args := [v, u]) Hvaf.func355 rfl Hvaf.ntmps355 (by simp) (by kernel_rfl) ?_
      repeat (first | refine SeqS.go cok ?_)
      refine (p1).mono ?_
      rintro r _ - ⟨rfl, rfl⟩
      skip
      refine (p2).mono ?_
      rintro r _ - ⟨rfl, rfl⟩
      repeat (first | refine SeqS.go cok ?_ | refine CondS.f rfl ?_ | (refine QuG.keep ?_; first | refine QuG.neB cok rfl rfl rfl rfl ?_))
      refine (nCmpG hN hN2 h).mono ?_
      rintro r _ - ⟨rfl, rfl⟩
      repeat (first | refine SeqS.go cok ?_)
      exact Fin.same ⟨rfl, by rw [decide_eq_false (show ¬ a < b by omega)]; rfl⟩
theorem _root_.Go.HL.NatI.one1 {I : Ent → Prop} {x : Ent} {d : Nat} (hx : I x) (hs : x.sz = 1) (hc : x.c 0 = .int .u8 (d : Nat)) (hd : d < 256) (h0 : d ≠ 0) : NatI I (sl x.b 0 1 1) d := by
  refine ⟨[d], ⟨by simpa using hd, by simp, some ⟨x.b, 0, none⟩, 1, rfl, by simp, by decide, .inr ⟨x, 0, rfl, .inl hx, by simp [hs], ?_⟩⟩, .inr (by simpa using h0), by simp [val], by simp⟩
  intro i hi
  obtain rfl : i = 0 := by simpa using hi
  simpa using hc
/-- yp.truth -/
theorem yTruth {I : Ent → Prop} {G : List Ent} {b : Bool} :
    CallG Hvaf.prog 354 #[.bool b] ⟨I, G⟩ fun r S' => S'.G = G ∧ NatI S'.I r (if b then 1 else 0) := by
  cases b
  · refine CallG.start (C := mkC Hvaf.prog) cok (args := [.bool false]) Hvaf.func354 rfl Hvaf.ntmps354 (by simp) (by kernel_rfl) ?_
    repeat (first | refine SeqS.go cok ?_ | refine CondS.f rfl ?_)
    exact Fin.same ⟨rfl, NatI.zero _⟩
  · refine CallG.start (C := mkC Hvaf.prog) cok (args := [.bool true]) Hvaf.func354 rfl Hvaf.ntmps354 (by simp) (by kernel_rfl) ?_
    repeat (first | refine SeqS.go cok ?_ | refine CondS.t rfl ?_ | refine And.intro (fillOk_of (Eq.refl true)) ?_ | refine And.intro (by dsimp only; omega) ?_)
    intro b
    repeat (first | refine SeqS.go cok ?_)
    refine Fin.frz [_] G ⟨rfl, ?_⟩
    exact NatI.one1 (x := ⟨b, 1, _, _⟩) (.inr List.mem_cons_self) rfl rfl (by decide) (by decide)
end Go.Proofs.YgvafwGreat
