import Derived.Test.YgvafwGreatY24
import Derived.Test.YgvafwGreatOp3
set_option maxRecDepth 100000
set_option maxHeartbeats 4000000
set_option linter.unusedVariables false
set_option linter.unusedSimpArgs false
-- v2
-- v4
-- v5
-- v6
namespace Go.Proofs.YgvafwGreat
open Go.HL Go.Proofs

/-- yp.World.access -/
theorem yAccess {I : Ent → Prop} {G : List Ent} {wb sz : Nat} {T : TypeId} {c : Nat → Value} {al : List (List Nat)} {a : List Nat} (hsz : 8 ≤ sz) (hN : RowI I 20 (c 1) (al.map bvs)) (hA : AdOk a) (hall : ∀ x ∈ al, AdOk x) (hlen : al.length < 2 ^ 19) :
    CallG Hvaf.prog 343 #[ptr wb 0, bytesV a] ⟨I, ⟨wb, sz, T, c⟩ :: G⟩ fun r S' => S'.G = ⟨wb, sz, T, c⟩ :: G ∧ NatI S'.I r (if a ∈ al then 100 else 2600) := by
  have ha := hA.bv
  have hla := hA.len
  have hw := fun (G : List Ent) => yIsWarm (wb := wb) (T := T) (G := G) hsz hN hA hall hlen
  by_cases hm : a ∈ al
  · rw [if_pos hm]
    rw [decide_eq_true hm] at hw
    refine CallG.start (C := mkC Hvaf.prog) cok (args := [ptr wb 0, bytesV a]) Hvaf.func343 rfl Hvaf.ntmps343 (by simp) (by kernel_rfl) ?_
    intro b3
    repeat (first | (refine QuG.keep ?_; first | refine QuG.boxL cok 0 rfl rfl rfl rfl rfl (by assumption) ?_) | refine SeqS.go cok ?_)
    refine CallG.focus 1 rfl ?_
    refine (hw _).mono ?_
    rintro r _ - ⟨rfl, rfl⟩
    repeat (first | refine SeqS.go cok ?_ | refine CondS.t rfl ?_)
    refine callN (yNum (n := 100) (by decide)) ?_
    intro rhN1 I hshN1 hN1
    try replace hN := hN.up hshN1
    repeat (first | refine SeqS.go cok ?_)
    exact Fin.drop1 _ G [_] ⟨rfl, hN1⟩
  · rw [if_neg hm]
    rw [decide_eq_false hm] at hw
    refine CallG.start (C := mkC Hvaf.prog) cok (args := [ptr wb 0, bytesV a]) Hvaf.func343 rfl Hvaf.ntmps343 (by simp) (by kernel_rfl) ?_
    intro b3
    repeat (first | (refine QuG.keep ?_; first | refine QuG.boxL cok 0 rfl rfl rfl rfl rfl (by assumption) ?_) | refine SeqS.go cok ?_)
    refine CallG.focus 1 rfl ?_
    refine (hw _).mono ?_
    rintro r _ - ⟨rfl, rfl⟩
    repeat (first | refine SeqS.go cok ?_ | refine CondS.f rfl ?_)
    refine callN (yNum (n := 2600) (by decide)) ?_
    intro rhN1 I hshN1 hN1
    try replace hN := hN.up hshN1
    try replace hN1 := hN1.up hshN1
    repeat (first | refine SeqS.go cok ?_)
    exact Fin.drop1 _ G [_] ⟨rfl, hN1⟩
/-- The walk over a code, from i on: does it stop at the place, and is that a JUMPDEST? -/
def destF (code : List Nat) (at' : Nat) : Nat → Nat → Bool
  | 0, _ => false
  | f + 1, i => if i < code.length then (if i = at' then decide (code.getD i 0 = 91) else destF code at' f (i + (1 + immN (code.getD i 0)))) else false
def destN (code : List Nat) (at' : Nat) : Bool := destF code at' (code.length + 1) 0
theorem beq_nat (a b : Nat) : ((a : Int) == (b : Int)) = decide (a = b) := by
  by_cases h : a = b
  · subst h; simp
  · rw [decide_eq_false h, beq_eq_false_iff_ne]; omega
theorem immN_le (o : Nat) : immN o ≤ 32 := by unfold immN; split <;> omega
/-- yp.IsDest -/
theorem yIsDest {I : Ent → Prop} {G : List Ent} {v u : Value} {code : List Nat} {at' : Nat} (hb : Byt ⟨I, []⟩ v code) (hN : NatI I u at') (hlen : code.length < 2 ^ 20) :
    CallG Hvaf.prog 150 #[v, u] ⟨I, G⟩ fun r S' => S'.G = G ∧ r = .bool (destN code at') := by
  obtain ⟨ad, cap, rfl, k1, k2, k3⟩ := hb.form
  refine CallG.start (C := mkC Hvaf.prog) cok (args := [.slice ad code.length cap, u]) Hvaf.func150 rfl Hvaf.ntmps150 (by simp) (by kernel_rfl) ?_
  repeat (first | refine SeqS.go cok ?_)
  refine W.loopF cok (by kernel_rfl) 0 (fun (p : Nat × Nat) e' S' => S'.G = G ∧ p.1 < code.length + 40 ∧ code.length < p.1 + p.2 ∧ destF code at' p.2 p.1 = destN code at' ∧ ∃ pv, NatI S'.I pv p.1 ∧ slots [(0, .slice ad code.length cap), (1, u), (5, pv), (6, .int .i64 (p.1 : Nat))] e') (fun p => p.2) (0, code.length + 1)
    (.same ⟨rfl, by show 0 < code.length + 40; omega, by show code.length < 0 + (code.length + 1); omega, rfl, .slice none 0 0, NatI.zero _, rfl, rfl, rfl, rfl, trivial⟩) (fun e' S' => S'.G = G ∧ destN code at' = false) ?_ ?_
  · rintro e' ⟨J, G'⟩ hs ⟨rfl, hd⟩
    repeat (first | refine SeqS.go cok ?_)
    exact Fin.same ⟨rfl, vB rfl hd.symm⟩
  · rintro ⟨i, f⟩ e' ⟨J, G'⟩ hs ⟨hG, hi, hf, hd, pv, hp, hsl⟩
    dsimp only at hG hi hf hd hp hsl hs
    subst hG
    refine W.slots _ hsl fun e => ?_
    have hN' := hN.up hs
    by_cases hlt : i < code.length
    · obtain ⟨g, rfl⟩ : ∃ g, f = g + 1 := ⟨f - 1, by omega⟩
      obtain ⟨x, o, rfl, hx, hbs⟩ := k3.some (by omega)
      have hx2 : J x := hs x (hx.elim id (by simp))
      have hrd : Rd ⟨J, G'⟩ x := .inl hx2
      have hd8 := getD_lt hb.1 i
      have him := immN_le (code.getD i 0)
      unfold destF at hd
      rw [if_pos hlt] at hd
      by_cases he : i = at'
      · rw [if_pos he] at hd
        repeat (first | refine SeqS.go cok ?_ | (refine CondS.keep ?_; first | refine CondS.d1 rfl (by omega) ?_))
        refine (nCmpE hp hN' he).mono ?_
        rintro r _ - ⟨rfl, rfl⟩
        repeat (first | refine SeqS.go cok ?_ | refine CondS.t rfl ?_ | refine And.intro (by omega) ?_ | (refine NatS.keep ?_; first | with_reducible refine NatS.nat ?_) | (refine QuG.keep ?_; first | refine QuG.bs cok (by assumption) (by assumption) rfl rfl rfl rfl (by omega) ?_))
        exact Fin.same ⟨rfl, vB rfl (by rw [← hd]; exact beq_nat _ 91)⟩
      · rw [if_neg he] at hd
        repeat (first | refine SeqS.go cok ?_ | (refine CondS.keep ?_; first | refine CondS.d1 rfl (by omega) ?_))
        refine (nCmpZ hp hN' he).mono ?_
        rintro r _ - ⟨rfl, z, hz, hz1, hz2, rfl⟩
        repeat (first | refine SeqS.go cok ?_ | refine And.intro (by omega) ?_ | (refine NatS.keep ?_; first | with_reducible refine NatS.nat ?_) | (refine QuG.keep ?_; first | refine QuG.bs cok (by assumption) (by assumption) rfl rfl rfl rfl (by omega) ?_) | (refine CondS.keep ?_; first | refine CondS.d0 rfl (by omega) ?_))
        refine (Imm_spec hd8).mono ?_
        rintro r _ - ⟨rfl, rfl⟩
        repeat (first | refine SeqS.go cok ?_ | refine And.intro (fillOk_of (Eq.refl true)) ?_ | refine And.intro (by dsimp only; omega) ?_ | (refine ValS.keep ?_; first | (with_reducible refine ValS.kI64 ?_; first | (with_reducible refine ValS.convI64 ?_ ?_ ; omega) | (with_reducible refine ValS.addI64_M ?_ ?_ ; omega)) | (with_reducible refine ValS.kU8 ?_; first | (with_reducible refine ValS.convU8 ?_ ?_ ; omega))))
        intro b
        skip
        obtain ⟨dp, p1, p2, p3, p4⟩ := hp
        have hst : 1 + immN (code.getD i 0) < 256 := by omega
        refine callN (n := i + (1 + immN (code.getD i 0))) ((Add_byt (S := ⟨J, _ :: G'⟩) (da := dp) (db := [1 + immN (code.getD i 0)]) (p1.mono (.refl _) (by simp)) ?_ (by omega) (by simp) ?_).mono ?_) ?_
        · refine Byt.one1 (x := ⟨b, 1, _, _⟩) List.mem_cons_self ?_ ?_ hst <;> rfl
        · rw [p3]; simp only [val]; exact Nat.lt_of_lt_of_le (show _ < 2 ^ 30 by omega) (by decide +kernel)
        · rintro r S' - ⟨e1, e2⟩
          refine ⟨e1, ?_⟩
          rw [p3] at e2; simpa only [val, Nat.mul_zero, Nat.add_zero] using e2
        intro r2 J2 hs2 hr2
        repeat (first | refine SeqS.go cok ?_ | (refine ValS.keep ?_; first | (with_reducible refine ValS.kI64 ?_; first | (with_reducible refine ValS.addI64 ?_ ?_ ; omega))))
        refine ⟨⟨i + (1 + immN (code.getD i 0)), g⟩, Rel.drop G' [_] ⟨rfl, by show i + (1 + immN (code.getD i 0)) < code.length + 40; omega, by show code.length < i + (1 + immN (code.getD i 0)) + g; omega, hd, r2, hr2, rfl, rfl, rfl, rfl, trivial⟩, by show g < g + 1; omega⟩
    · have hdF : destF code at' f i = false := by cases f <;> simp [destF, hlt]
      rw [hdF] at hd
      repeat (first | refine SeqS.go cok ?_ | (refine CondS.keep ?_; first | refine CondS.d0 rfl (by omega) ?_))
      exact ⟨rfl, hd.symm⟩
end Go.Proofs.YgvafwGreat
