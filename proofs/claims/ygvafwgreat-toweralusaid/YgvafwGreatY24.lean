import Derived.Test.YgvafwGreatY23
set_option maxRecDepth 100000
set_option maxHeartbeats 4000000
set_option linter.unusedVariables false
set_option linter.unusedSimpArgs false
-- v2
namespace Go.Proofs.YgvafwGreat
open Go.HL Go.Proofs

theorem nCmpZ {I : Ent → Prop} {G : List Ent} {v u : Value} {a b : Nat} (h : NatI I v a) (h' : NatI I u b) (hab : a ≠ b) :
    CallG Hvaf.prog 131 #[v, u] ⟨I, G⟩ fun r S' => ⟨I, G⟩ = S' ∧ ∃ z : Int, z ≠ 0 ∧ -1 ≤ z ∧ z ≤ 1 ∧ r = .int .i8 z := by
  rcases Nat.lt_or_gt_of_ne hab with hl | hg
  · refine (nCmpL h h' hl).mono ?_
    rintro r _ - ⟨rfl, rfl⟩; exact ⟨rfl, -1, by decide, by decide, by decide, rfl⟩
  · refine (nCmpG h h' hg).mono ?_
    rintro r _ - ⟨rfl, rfl⟩; exact ⟨rfl, 1, by decide, by decide, by decide, rfl⟩
theorem zT {I : Ent → Prop} {G : List Ent} {v : Value} {n : Nat} (hN : NatI I v n) (h : n = 0) : CallG Hvaf.prog 89 #[v] ⟨I, G⟩ fun r S' => ⟨I, G⟩ = S' ∧ r = .bool true := by
  have := yIsZero (G := G) hN; rwa [decide_eq_true h] at this
theorem zF {I : Ent → Prop} {G : List Ent} {v : Value} {n : Nat} (hN : NatI I v n) (h : n ≠ 0) : CallG Hvaf.prog 89 #[v] ⟨I, G⟩ fun r S' => ⟨I, G⟩ = S' ∧ r = .bool false := by
  have := yIsZero (G := G) hN; rwa [decide_eq_false h] at this
/-- What a store costs, and what it does to the refund counter: (cost, plus, minus). -/
def sstN (o v n : Nat) (cold : Bool) : Nat × Nat × Nat :=
  ((if n = v then 100 else if v = o then (if o = 0 then 20000 else 2900) else 100) + (if cold then 2100 else 0),
   (if n = v then 0 else if v = o then (if o = 0 then 0 else if n = 0 then 4800 else 0) else
     (if o = 0 then 0 else if v = 0 then 0 else if n = 0 then 4800 else 0) + (if n = o then (if o = 0 then 19900 else 2800) else 0)),
   (if n = v then 0 else if v = o then 0 else if o = 0 then 0 else if v = 0 then 4800 else 0))
def SstP (G : List Ent) (t : Nat × Nat × Nat) : Post := fun r S' => S'.G = G ∧ ∃ c p m, r = .tuple #[c, p, m] ∧ NatI S'.I c t.1 ∧ NatI S'.I p t.2.1 ∧ NatI S'.I m t.2.2
theorem sstA1false {I : Ent → Prop} {G : List Ent} {ov vv nv : Value} {o v n : Nat} (hNo : NatI I ov o) (hNv : NatI I vv v) (hNn : NatI I nv n) (h1 : n = v) (h2 : v = o) :
    CallG Hvaf.prog 404 #[ov, vv, nv, .bool false] ⟨I, G⟩ (SstP G (100, 0, 0)) := by
  refine CallG.start (C := mkC Hvaf.prog) cok (args := [ov, vv, nv, .bool false]) Hvaf.func404 rfl Hvaf.ntmps404 (by simp) (by kernel_rfl) ?_
  repeat (first | refine SeqS.go cok ?_)
  refine (nCmpE hNn hNv h1).mono ?_
  rintro r _ - ⟨rfl, rfl⟩
  repeat (first | refine SeqS.go cok ?_)
  refine (nCmpE hNv hNo h2).mono ?_
  rintro r _ - ⟨rfl, rfl⟩
  repeat (first | refine SeqS.go cok ?_ | refine GuardS.no rfl ?_ | refine CondS.t rfl ?_)
  refine callN (yNum (n := 100) (by decide)) ?_
  intro rhNc0 I hshNc0 hNc0
  try replace hNo := hNo.up hshNc0
  try replace hNv := hNv.up hshNc0
  try replace hNn := hNn.up hshNc0
  repeat (first | refine SeqS.go cok ?_ | refine CondS.t rfl ?_ | refine CondS.f rfl ?_)
  exact Fin.same ⟨rfl, _, _, _, rfl, hNc0, NatI.zero _, NatI.zero _⟩
theorem sstA1true {I : Ent → Prop} {G : List Ent} {ov vv nv : Value} {o v n : Nat} (hNo : NatI I ov o) (hNv : NatI I vv v) (hNn : NatI I nv n) (h1 : n = v) (h2 : v = o) :
    CallG Hvaf.prog 404 #[ov, vv, nv, .bool true] ⟨I, G⟩ (SstP G (100 + 2100, 0, 0)) := by
  refine CallG.start (C := mkC Hvaf.prog) cok (args := [ov, vv, nv, .bool true]) Hvaf.func404 rfl Hvaf.ntmps404 (by simp) (by kernel_rfl) ?_
  repeat (first | refine SeqS.go cok ?_)
  refine (nCmpE hNn hNv h1).mono ?_
  rintro r _ - ⟨rfl, rfl⟩
  repeat (first | refine SeqS.go cok ?_)
  refine (nCmpE hNv hNo h2).mono ?_
  rintro r _ - ⟨rfl, rfl⟩
  repeat (first | refine SeqS.go cok ?_ | refine GuardS.no rfl ?_ | refine CondS.t rfl ?_)
  refine callN (yNum (n := 100) (by decide)) ?_
  intro rhNc0 I hshNc0 hNc0
  try replace hNo := hNo.up hshNc0
  try replace hNv := hNv.up hshNc0
  try replace hNn := hNn.up hshNc0
  repeat (first | refine SeqS.go cok ?_ | refine CondS.t rfl ?_)
  refine callN (yNum (n := 2100) (by decide)) ?_
  intro rhNc1 I hshNc1 hNc1
  try replace hNo := hNo.up hshNc1
  try replace hNv := hNv.up hshNc1
  try replace hNn := hNn.up hshNc1
  try replace hNc0 := hNc0.up hshNc1
  skip
  refine callN (nAdd hNc0 hNc1 (by decide +kernel)) ?_
  intro rhNc2 I hshNc2 hNc2
  try replace hNo := hNo.up hshNc2
  try replace hNv := hNv.up hshNc2
  try replace hNn := hNn.up hshNc2
  try replace hNc0 := hNc0.up hshNc2
  try replace hNc1 := hNc1.up hshNc2
  repeat (first | refine SeqS.go cok ?_ | refine CondS.t rfl ?_)
  exact Fin.same ⟨rfl, _, _, _, rfl, hNc2, NatI.zero _, NatI.zero _⟩
theorem sstA2false {I : Ent → Prop} {G : List Ent} {ov vv nv : Value} {o v n : Nat} (hNo : NatI I ov o) (hNv : NatI I vv v) (hNn : NatI I nv n) (h1 : n = v) (h2 : v ≠ o) :
    CallG Hvaf.prog 404 #[ov, vv, nv, .bool false] ⟨I, G⟩ (SstP G (100, 0, 0)) := by
  refine CallG.start (C := mkC Hvaf.prog) cok (args := [ov, vv, nv, .bool false]) Hvaf.func404 rfl Hvaf.ntmps404 (by simp) (by kernel_rfl) ?_
  repeat (first | refine SeqS.go cok ?_)
  refine (nCmpE hNn hNv h1).mono ?_
  rintro r _ - ⟨rfl, rfl⟩
  repeat (first | refine SeqS.go cok ?_)
  refine (nCmpZ hNv hNo h2).mono ?_
  rintro r _ - ⟨rfl, z0, hz0, ha0, hb0, rfl⟩
  repeat (first | refine SeqS.go cok ?_ | refine GuardS.no rfl ?_ | refine CondS.t rfl ?_)
  refine callN (yNum (n := 100) (by decide)) ?_
  intro rhNc0 I hshNc0 hNc0
  try replace hNo := hNo.up hshNc0
  try replace hNv := hNv.up hshNc0
  try replace hNn := hNn.up hshNc0
  repeat (first | refine SeqS.go cok ?_ | refine CondS.t rfl ?_ | refine CondS.f rfl ?_)
  exact Fin.same ⟨rfl, _, _, _, rfl, hNc0, NatI.zero _, NatI.zero _⟩
theorem sstA2true {I : Ent → Prop} {G : List Ent} {ov vv nv : Value} {o v n : Nat} (hNo : NatI I ov o) (hNv : NatI I vv v) (hNn : NatI I nv n) (h1 : n = v) (h2 : v ≠ o) :
    CallG Hvaf.prog 404 #[ov, vv, nv, .bool true] ⟨I, G⟩ (SstP G (100 + 2100, 0, 0)) := by
  refine CallG.start (C := mkC Hvaf.prog) cok (args := [ov, vv, nv, .bool true]) Hvaf.func404 rfl Hvaf.ntmps404 (by simp) (by kernel_rfl) ?_
  repeat (first | refine SeqS.go cok ?_)
  refine (nCmpE hNn hNv h1).mono ?_
  rintro r _ - ⟨rfl, rfl⟩
  repeat (first | refine SeqS.go cok ?_)
  refine (nCmpZ hNv hNo h2).mono ?_
  rintro r _ - ⟨rfl, z0, hz0, ha0, hb0, rfl⟩
  repeat (first | refine SeqS.go cok ?_ | refine GuardS.no rfl ?_ | refine CondS.t rfl ?_)
  refine callN (yNum (n := 100) (by decide)) ?_
  intro rhNc0 I hshNc0 hNc0
  try replace hNo := hNo.up hshNc0
  try replace hNv := hNv.up hshNc0
  try replace hNn := hNn.up hshNc0
  repeat (first | refine SeqS.go cok ?_ | refine CondS.t rfl ?_)
  refine callN (yNum (n := 2100) (by decide)) ?_
  intro rhNc1 I hshNc1 hNc1
  try replace hNo := hNo.up hshNc1
  try replace hNv := hNv.up hshNc1
  try replace hNn := hNn.up hshNc1
  try replace hNc0 := hNc0.up hshNc1
  skip
  refine callN (nAdd hNc0 hNc1 (by decide +kernel)) ?_
  intro rhNc2 I hshNc2 hNc2
  try replace hNo := hNo.up hshNc2
  try replace hNv := hNv.up hshNc2
  try replace hNn := hNn.up hshNc2
  try replace hNc0 := hNc0.up hshNc2
  try replace hNc1 := hNc1.up hshNc2
  repeat (first | refine SeqS.go cok ?_ | refine CondS.t rfl ?_)
  exact Fin.same ⟨rfl, _, _, _, rfl, hNc2, NatI.zero _, NatI.zero _⟩
theorem sstB1false {I : Ent → Prop} {G : List Ent} {ov vv nv : Value} {o v n : Nat} (hNo : NatI I ov o) (hNv : NatI I vv v) (hNn : NatI I nv n) (h1 : n ≠ v) (h2 : v = o) (h3 : o = 0) :
    CallG Hvaf.prog 404 #[ov, vv, nv, .bool false] ⟨I, G⟩ (SstP G (20000, 0, 0)) := by
  refine CallG.start (C := mkC Hvaf.prog) cok (args := [ov, vv, nv, .bool false]) Hvaf.func404 rfl Hvaf.ntmps404 (by simp) (by kernel_rfl) ?_
  repeat (first | refine SeqS.go cok ?_)
  refine (nCmpZ hNn hNv h1).mono ?_
  rintro r _ - ⟨rfl, z0, hz0, ha0, hb0, rfl⟩
  repeat (first | refine SeqS.go cok ?_)
  refine (nCmpE hNv hNo h2).mono ?_
  rintro r _ - ⟨rfl, rfl⟩
  repeat (first | refine SeqS.go cok ?_ | refine GuardS.yes rfl ?_ | refine CondS.f rfl ?_ | (refine GuardS.keep ?_; first | refine GuardS.F0 rfl (by omega) ?_))
  refine (zT hNo h3).mono ?_
  rintro r _ - ⟨rfl, rfl⟩
  repeat (first | refine SeqS.go cok ?_ | refine CondS.t rfl ?_)
  refine callN (yNum (n := 20000) (by decide)) ?_
  intro rhNc0 I hshNc0 hNc0
  try replace hNo := hNo.up hshNc0
  try replace hNv := hNv.up hshNc0
  try replace hNn := hNn.up hshNc0
  repeat (first | refine SeqS.go cok ?_ | refine CondS.t rfl ?_ | refine CondS.f rfl ?_ | (refine CondS.keep ?_; first | refine CondS.d0 rfl (by omega) ?_))
  refine (zT hNo h3).mono ?_
  rintro r _ - ⟨rfl, rfl⟩
  repeat (first | refine SeqS.go cok ?_ | refine GuardS.no rfl ?_ | refine CondS.f rfl ?_)
  exact Fin.same ⟨rfl, _, _, _, rfl, hNc0, NatI.zero _, NatI.zero _⟩
theorem sstB1true {I : Ent → Prop} {G : List Ent} {ov vv nv : Value} {o v n : Nat} (hNo : NatI I ov o) (hNv : NatI I vv v) (hNn : NatI I nv n) (h1 : n ≠ v) (h2 : v = o) (h3 : o = 0) :
    CallG Hvaf.prog 404 #[ov, vv, nv, .bool true] ⟨I, G⟩ (SstP G (20000 + 2100, 0, 0)) := by
  refine CallG.start (C := mkC Hvaf.prog) cok (args := [ov, vv, nv, .bool true]) Hvaf.func404 rfl Hvaf.ntmps404 (by simp) (by kernel_rfl) ?_
  repeat (first | refine SeqS.go cok ?_)
  refine (nCmpZ hNn hNv h1).mono ?_
  rintro r _ - ⟨rfl, z0, hz0, ha0, hb0, rfl⟩
  repeat (first | refine SeqS.go cok ?_)
  refine (nCmpE hNv hNo h2).mono ?_
  rintro r _ - ⟨rfl, rfl⟩
  repeat (first | refine SeqS.go cok ?_ | refine GuardS.yes rfl ?_ | refine CondS.f rfl ?_ | (refine GuardS.keep ?_; first | refine GuardS.F0 rfl (by omega) ?_))
  refine (zT hNo h3).mono ?_
  rintro r _ - ⟨rfl, rfl⟩
  repeat (first | refine SeqS.go cok ?_ | refine CondS.t rfl ?_)
  refine callN (yNum (n := 20000) (by decide)) ?_
  intro rhNc0 I hshNc0 hNc0
  try replace hNo := hNo.up hshNc0
  try replace hNv := hNv.up hshNc0
  try replace hNn := hNn.up hshNc0
  repeat (first | refine SeqS.go cok ?_ | refine CondS.t rfl ?_)
  refine callN (yNum (n := 2100) (by decide)) ?_
  intro rhNc1 I hshNc1 hNc1
  try replace hNo := hNo.up hshNc1
  try replace hNv := hNv.up hshNc1
  try replace hNn := hNn.up hshNc1
  try replace hNc0 := hNc0.up hshNc1
  skip
  refine callN (nAdd hNc0 hNc1 (by decide +kernel)) ?_
  intro rhNc2 I hshNc2 hNc2
  try replace hNo := hNo.up hshNc2
  try replace hNv := hNv.up hshNc2
  try replace hNn := hNn.up hshNc2
  try replace hNc0 := hNc0.up hshNc2
  try replace hNc1 := hNc1.up hshNc2
  repeat (first | refine SeqS.go cok ?_ | refine CondS.t rfl ?_ | (refine CondS.keep ?_; first | refine CondS.d0 rfl (by omega) ?_))
  refine (zT hNo h3).mono ?_
  rintro r _ - ⟨rfl, rfl⟩
  repeat (first | refine SeqS.go cok ?_ | refine GuardS.no rfl ?_ | refine CondS.f rfl ?_)
  exact Fin.same ⟨rfl, _, _, _, rfl, hNc2, NatI.zero _, NatI.zero _⟩
theorem sstB2false {I : Ent → Prop} {G : List Ent} {ov vv nv : Value} {o v n : Nat} (hNo : NatI I ov o) (hNv : NatI I vv v) (hNn : NatI I nv n) (h1 : n ≠ v) (h2 : v = o) (h3 : o ≠ 0) (h4 : n = 0) :
    CallG Hvaf.prog 404 #[ov, vv, nv, .bool false] ⟨I, G⟩ (SstP G (2900, 4800, 0)) := by
  refine CallG.start (C := mkC Hvaf.prog) cok (args := [ov, vv, nv, .bool false]) Hvaf.func404 rfl Hvaf.ntmps404 (by simp) (by kernel_rfl) ?_
  repeat (first | refine SeqS.go cok ?_)
  refine (nCmpZ hNn hNv h1).mono ?_
  rintro r _ - ⟨rfl, z0, hz0, ha0, hb0, rfl⟩
  repeat (first | refine SeqS.go cok ?_)
  refine (nCmpE hNv hNo h2).mono ?_
  rintro r _ - ⟨rfl, rfl⟩
  repeat (first | refine SeqS.go cok ?_ | refine GuardS.yes rfl ?_ | refine CondS.f rfl ?_ | (refine GuardS.keep ?_; first | refine GuardS.F0 rfl (by omega) ?_))
  refine (zF hNo h3).mono ?_
  rintro r _ - ⟨rfl, rfl⟩
  repeat (first | refine SeqS.go cok ?_ | refine CondS.f rfl ?_)
  refine callN (yNum (n := 2900) (by decide)) ?_
  intro rhNc0 I hshNc0 hNc0
  try replace hNo := hNo.up hshNc0
  try replace hNv := hNv.up hshNc0
  try replace hNn := hNn.up hshNc0
  repeat (first | refine SeqS.go cok ?_ | refine CondS.t rfl ?_ | refine CondS.f rfl ?_ | (refine CondS.keep ?_; first | refine CondS.d0 rfl (by omega) ?_))
  refine (zF hNo h3).mono ?_
  rintro r _ - ⟨rfl, rfl⟩
  repeat (first | refine GuardS.yes rfl ?_)
  refine (zT hNn h4).mono ?_
  rintro r _ - ⟨rfl, rfl⟩
  repeat (first | refine SeqS.go cok ?_ | refine CondS.t rfl ?_)
  refine callN (yNum (n := 4800) (by decide)) ?_
  intro rhNp I hshNp hNp
  try replace hNo := hNo.up hshNp
  try replace hNv := hNv.up hshNp
  try replace hNn := hNn.up hshNp
  try replace hNc0 := hNc0.up hshNp
  repeat (first | refine SeqS.go cok ?_)
  exact Fin.same ⟨rfl, _, _, _, rfl, hNc0, hNp, NatI.zero _⟩
theorem sstB2true {I : Ent → Prop} {G : List Ent} {ov vv nv : Value} {o v n : Nat} (hNo : NatI I ov o) (hNv : NatI I vv v) (hNn : NatI I nv n) (h1 : n ≠ v) (h2 : v = o) (h3 : o ≠ 0) (h4 : n = 0) :
    CallG Hvaf.prog 404 #[ov, vv, nv, .bool true] ⟨I, G⟩ (SstP G (2900 + 2100, 4800, 0)) := by
  refine CallG.start (C := mkC Hvaf.prog) cok (args := [ov, vv, nv, .bool true]) Hvaf.func404 rfl Hvaf.ntmps404 (by simp) (by kernel_rfl) ?_
  repeat (first | refine SeqS.go cok ?_)
  refine (nCmpZ hNn hNv h1).mono ?_
  rintro r _ - ⟨rfl, z0, hz0, ha0, hb0, rfl⟩
  repeat (first | refine SeqS.go cok ?_)
  refine (nCmpE hNv hNo h2).mono ?_
  rintro r _ - ⟨rfl, rfl⟩
  repeat (first | refine SeqS.go cok ?_ | refine GuardS.yes rfl ?_ | refine CondS.f rfl ?_ | (refine GuardS.keep ?_; first | refine GuardS.F0 rfl (by omega) ?_))
  refine (zF hNo h3).mono ?_
  rintro r _ - ⟨rfl, rfl⟩
  repeat (first | refine SeqS.go cok ?_ | refine CondS.f rfl ?_)
  refine callN (yNum (n := 2900) (by decide)) ?_
  intro rhNc0 I hshNc0 hNc0
  try replace hNo := hNo.up hshNc0
  try replace hNv := hNv.up hshNc0
  try replace hNn := hNn.up hshNc0
  repeat (first | refine SeqS.go cok ?_ | refine CondS.t rfl ?_)
  refine callN (yNum (n := 2100) (by decide)) ?_
  intro rhNc1 I hshNc1 hNc1
  try replace hNo := hNo.up hshNc1
  try replace hNv := hNv.up hshNc1
  try replace hNn := hNn.up hshNc1
  try replace hNc0 := hNc0.up hshNc1
  skip
  refine callN (nAdd hNc0 hNc1 (by decide +kernel)) ?_
  intro rhNc2 I hshNc2 hNc2
  try replace hNo := hNo.up hshNc2
  try replace hNv := hNv.up hshNc2
  try replace hNn := hNn.up hshNc2
  try replace hNc0 := hNc0.up hshNc2
  try replace hNc1 := hNc1.up hshNc2
  repeat (first | refine SeqS.go cok ?_ | refine CondS.t rfl ?_ | (refine CondS.keep ?_; first | refine CondS.d0 rfl (by omega) ?_))
  refine (zF hNo h3).mono ?_
  rintro r _ - ⟨rfl, rfl⟩
  repeat (first | refine GuardS.yes rfl ?_)
  refine (zT hNn h4).mono ?_
  rintro r _ - ⟨rfl, rfl⟩
  repeat (first | refine SeqS.go cok ?_ | refine CondS.t rfl ?_)
  refine callN (yNum (n := 4800) (by decide)) ?_
  intro rhNp I hshNp hNp
  try replace hNo := hNo.up hshNp
  try replace hNv := hNv.up hshNp
  try replace hNn := hNn.up hshNp
  try replace hNc0 := hNc0.up hshNp
  try replace hNc1 := hNc1.up hshNp
  try replace hNc2 := hNc2.up hshNp
  repeat (first | refine SeqS.go cok ?_)
  exact Fin.same ⟨rfl, _, _, _, rfl, hNc2, hNp, NatI.zero _⟩
theorem sstB3false {I : Ent → Prop} {G : List Ent} {ov vv nv : Value} {o v n : Nat} (hNo : NatI I ov o) (hNv : NatI I vv v) (hNn : NatI I nv n) (h1 : n ≠ v) (h2 : v = o) (h3 : o ≠ 0) (h4 : n ≠ 0) :
    CallG Hvaf.prog 404 #[ov, vv, nv, .bool false] ⟨I, G⟩ (SstP G (2900, 0, 0)) := by
  refine CallG.start (C := mkC Hvaf.prog) cok (args := [ov, vv, nv, .bool false]) Hvaf.func404 rfl Hvaf.ntmps404 (by simp) (by kernel_rfl) ?_
  repeat (first | refine SeqS.go cok ?_)
  refine (nCmpZ hNn hNv h1).mono ?_
  rintro r _ - ⟨rfl, z0, hz0, ha0, hb0, rfl⟩
  repeat (first | refine SeqS.go cok ?_)
  refine (nCmpE hNv hNo h2).mono ?_
  rintro r _ - ⟨rfl, rfl⟩
  repeat (first | refine SeqS.go cok ?_ | refine GuardS.yes rfl ?_ | refine CondS.f rfl ?_ | (refine GuardS.keep ?_; first | refine GuardS.F0 rfl (by omega) ?_))
  refine (zF hNo h3).mono ?_
  rintro r _ - ⟨rfl, rfl⟩
  repeat (first | refine SeqS.go cok ?_ | refine CondS.f rfl ?_)
  refine callN (yNum (n := 2900) (by decide)) ?_
  intro rhNc0 I hshNc0 hNc0
  try replace hNo := hNo.up hshNc0
  try replace hNv := hNv.up hshNc0
  try replace hNn := hNn.up hshNc0
  repeat (first | refine SeqS.go cok ?_ | refine CondS.t rfl ?_ | refine CondS.f rfl ?_ | (refine CondS.keep ?_; first | refine CondS.d0 rfl (by omega) ?_))
  refine (zF hNo h3).mono ?_
  rintro r _ - ⟨rfl, rfl⟩
  repeat (first | refine GuardS.yes rfl ?_)
  refine (zF hNn h4).mono ?_
  rintro r _ - ⟨rfl, rfl⟩
  repeat (first | refine SeqS.go cok ?_ | refine CondS.f rfl ?_)
  exact Fin.same ⟨rfl, _, _, _, rfl, hNc0, NatI.zero _, NatI.zero _⟩
theorem sstB3true {I : Ent → Prop} {G : List Ent} {ov vv nv : Value} {o v n : Nat} (hNo : NatI I ov o) (hNv : NatI I vv v) (hNn : NatI I nv n) (h1 : n ≠ v) (h2 : v = o) (h3 : o ≠ 0) (h4 : n ≠ 0) :
    CallG Hvaf.prog 404 #[ov, vv, nv, .bool true] ⟨I, G⟩ (SstP G (2900 + 2100, 0, 0)) := by
  refine CallG.start (C := mkC Hvaf.prog) cok (args := [ov, vv, nv, .bool true]) Hvaf.func404 rfl Hvaf.ntmps404 (by simp) (by kernel_rfl) ?_
  repeat (first | refine SeqS.go cok ?_)
  refine (nCmpZ hNn hNv h1).mono ?_
  rintro r _ - ⟨rfl, z0, hz0, ha0, hb0, rfl⟩
  repeat (first | refine SeqS.go cok ?_)
  refine (nCmpE hNv hNo h2).mono ?_
  rintro r _ - ⟨rfl, rfl⟩
  repeat (first | refine SeqS.go cok ?_ | refine GuardS.yes rfl ?_ | refine CondS.f rfl ?_ | (refine GuardS.keep ?_; first | refine GuardS.F0 rfl (by omega) ?_))
  refine (zF hNo h3).mono ?_
  rintro r _ - ⟨rfl, rfl⟩
  repeat (first | refine SeqS.go cok ?_ | refine CondS.f rfl ?_)
  refine callN (yNum (n := 2900) (by decide)) ?_
  intro rhNc0 I hshNc0 hNc0
  try replace hNo := hNo.up hshNc0
  try replace hNv := hNv.up hshNc0
  try replace hNn := hNn.up hshNc0
  repeat (first | refine SeqS.go cok ?_ | refine CondS.t rfl ?_)
  refine callN (yNum (n := 2100) (by decide)) ?_
  intro rhNc1 I hshNc1 hNc1
  try replace hNo := hNo.up hshNc1
  try replace hNv := hNv.up hshNc1
  try replace hNn := hNn.up hshNc1
  try replace hNc0 := hNc0.up hshNc1
  skip
  refine callN (nAdd hNc0 hNc1 (by decide +kernel)) ?_
  intro rhNc2 I hshNc2 hNc2
  try replace hNo := hNo.up hshNc2
  try replace hNv := hNv.up hshNc2
  try replace hNn := hNn.up hshNc2
  try replace hNc0 := hNc0.up hshNc2
  try replace hNc1 := hNc1.up hshNc2
  repeat (first | refine SeqS.go cok ?_ | refine CondS.t rfl ?_ | (refine CondS.keep ?_; first | refine CondS.d0 rfl (by omega) ?_))
  refine (zF hNo h3).mono ?_
  rintro r _ - ⟨rfl, rfl⟩
  repeat (first | refine GuardS.yes rfl ?_)
  refine (zF hNn h4).mono ?_
  rintro r _ - ⟨rfl, rfl⟩
  repeat (first | refine SeqS.go cok ?_ | refine CondS.f rfl ?_)
  exact Fin.same ⟨rfl, _, _, _, rfl, hNc2, NatI.zero _, NatI.zero _⟩
theorem sstC1false {I : Ent → Prop} {G : List Ent} {ov vv nv : Value} {o v n : Nat} (hNo : NatI I ov o) (hNv : NatI I vv v) (hNn : NatI I nv n) (h1 : n ≠ v) (h2 : v ≠ o) (h3 : o = 0) (h4 : n = o) :
    CallG Hvaf.prog 404 #[ov, vv, nv, .bool false] ⟨I, G⟩ (SstP G (100, 0 + 19900, 0)) := by
  refine CallG.start (C := mkC Hvaf.prog) cok (args := [ov, vv, nv, .bool false]) Hvaf.func404 rfl Hvaf.ntmps404 (by simp) (by kernel_rfl) ?_
  repeat (first | refine SeqS.go cok ?_)
  refine (nCmpZ hNn hNv h1).mono ?_
  rintro r _ - ⟨rfl, z0, hz0, ha0, hb0, rfl⟩
  repeat (first | refine SeqS.go cok ?_)
  refine (nCmpZ hNv hNo h2).mono ?_
  rintro r _ - ⟨rfl, z1, hz1, ha1, hb1, rfl⟩
  repeat (first | refine SeqS.go cok ?_ | refine GuardS.yes rfl ?_ | (refine GuardS.keep ?_; first | refine GuardS.F0 rfl (by omega) ?_) | (refine CondS.keep ?_; first | refine CondS.nd1 rfl (by omega) ?_))
  refine callN (yNum (n := 100) (by decide)) ?_
  intro rhNc0 I hshNc0 hNc0
  try replace hNo := hNo.up hshNc0
  try replace hNv := hNv.up hshNc0
  try replace hNn := hNn.up hshNc0
  repeat (first | refine SeqS.go cok ?_ | refine CondS.f rfl ?_ | (refine CondS.keep ?_; first | refine CondS.d0 rfl (by omega) ?_))
  refine (zT hNo h3).mono ?_
  rintro r _ - ⟨rfl, rfl⟩
  repeat (first | refine SeqS.go cok ?_ | refine CondS.f rfl ?_)
  refine (nCmpE hNn hNo h4).mono ?_
  rintro r _ - ⟨rfl, rfl⟩
  repeat (first | refine SeqS.go cok ?_ | refine CondS.t rfl ?_)
  refine callN (yNum (n := 19900) (by decide)) ?_
  intro rhNb I hshNb hNb
  try replace hNo := hNo.up hshNb
  try replace hNv := hNv.up hshNb
  try replace hNn := hNn.up hshNb
  try replace hNc0 := hNc0.up hshNb
  repeat (first | refine SeqS.go cok ?_)
  refine (zT hNo h3).mono ?_
  rintro r _ - ⟨rfl, rfl⟩
  repeat (first | refine SeqS.go cok ?_ | refine CondS.f rfl ?_)
  refine callN (nAdd (NatI.zero _) hNb (by decide +kernel)) ?_
  intro rhNp I hshNp hNp
  try replace hNo := hNo.up hshNp
  try replace hNv := hNv.up hshNp
  try replace hNn := hNn.up hshNp
  try replace hNc0 := hNc0.up hshNp
  try replace hNb := hNb.up hshNp
  repeat (first | refine SeqS.go cok ?_)
  exact Fin.same ⟨rfl, _, _, _, rfl, hNc0, hNp, NatI.zero _⟩
theorem sstC1true {I : Ent → Prop} {G : List Ent} {ov vv nv : Value} {o v n : Nat} (hNo : NatI I ov o) (hNv : NatI I vv v) (hNn : NatI I nv n) (h1 : n ≠ v) (h2 : v ≠ o) (h3 : o = 0) (h4 : n = o) :
    CallG Hvaf.prog 404 #[ov, vv, nv, .bool true] ⟨I, G⟩ (SstP G (100 + 2100, 0 + 19900, 0)) := by
  refine CallG.start (C := mkC Hvaf.prog) cok (args := [ov, vv, nv, .bool true]) Hvaf.func404 rfl Hvaf.ntmps404 (by simp) (by kernel_rfl) ?_
  repeat (first | refine SeqS.go cok ?_)
  refine (nCmpZ hNn hNv h1).mono ?_
  rintro r _ - ⟨rfl, z0, hz0, ha0, hb0, rfl⟩
  repeat (first | refine SeqS.go cok ?_)
  refine (nCmpZ hNv hNo h2).mono ?_
  rintro r _ - ⟨rfl, z1, hz1, ha1, hb1, rfl⟩
  repeat (first | refine SeqS.go cok ?_ | refine GuardS.yes rfl ?_ | (refine GuardS.keep ?_; first | refine GuardS.F0 rfl (by omega) ?_) | (refine CondS.keep ?_; first | refine CondS.nd1 rfl (by omega) ?_))
  refine callN (yNum (n := 100) (by decide)) ?_
  intro rhNc0 I hshNc0 hNc0
  try replace hNo := hNo.up hshNc0
  try replace hNv := hNv.up hshNc0
  try replace hNn := hNn.up hshNc0
  repeat (first | refine SeqS.go cok ?_ | refine CondS.t rfl ?_)
  refine callN (yNum (n := 2100) (by decide)) ?_
  intro rhNc1 I hshNc1 hNc1
  try replace hNo := hNo.up hshNc1
  try replace hNv := hNv.up hshNc1
  try replace hNn := hNn.up hshNc1
  try replace hNc0 := hNc0.up hshNc1
  skip
  refine callN (nAdd hNc0 hNc1 (by decide +kernel)) ?_
  intro rhNc2 I hshNc2 hNc2
  try replace hNo := hNo.up hshNc2
  try replace hNv := hNv.up hshNc2
  try replace hNn := hNn.up hshNc2
  try replace hNc0 := hNc0.up hshNc2
  try replace hNc1 := hNc1.up hshNc2
  repeat (first | refine SeqS.go cok ?_ | (refine CondS.keep ?_; first | refine CondS.d0 rfl (by omega) ?_))
  refine (zT hNo h3).mono ?_
  rintro r _ - ⟨rfl, rfl⟩
  repeat (first | refine SeqS.go cok ?_ | refine CondS.f rfl ?_)
  refine (nCmpE hNn hNo h4).mono ?_
  rintro r _ - ⟨rfl, rfl⟩
  repeat (first | refine SeqS.go cok ?_ | refine CondS.t rfl ?_)
  refine callN (yNum (n := 19900) (by decide)) ?_
  intro rhNb I hshNb hNb
  try replace hNo := hNo.up hshNb
  try replace hNv := hNv.up hshNb
  try replace hNn := hNn.up hshNb
  try replace hNc0 := hNc0.up hshNb
  try replace hNc1 := hNc1.up hshNb
  try replace hNc2 := hNc2.up hshNb
  repeat (first | refine SeqS.go cok ?_)
  refine (zT hNo h3).mono ?_
  rintro r _ - ⟨rfl, rfl⟩
  repeat (first | refine SeqS.go cok ?_ | refine CondS.f rfl ?_)
  refine callN (nAdd (NatI.zero _) hNb (by decide +kernel)) ?_
  intro rhNp I hshNp hNp
  try replace hNo := hNo.up hshNp
  try replace hNv := hNv.up hshNp
  try replace hNn := hNn.up hshNp
  try replace hNc0 := hNc0.up hshNp
  try replace hNc1 := hNc1.up hshNp
  try replace hNc2 := hNc2.up hshNp
  try replace hNb := hNb.up hshNp
  repeat (first | refine SeqS.go cok ?_)
  exact Fin.same ⟨rfl, _, _, _, rfl, hNc2, hNp, NatI.zero _⟩
theorem sstC2false {I : Ent → Prop} {G : List Ent} {ov vv nv : Value} {o v n : Nat} (hNo : NatI I ov o) (hNv : NatI I vv v) (hNn : NatI I nv n) (h1 : n ≠ v) (h2 : v ≠ o) (h3 : o = 0) (h4 : n ≠ o) :
    CallG Hvaf.prog 404 #[ov, vv, nv, .bool false] ⟨I, G⟩ (SstP G (100, 0, 0)) := by
  refine CallG.start (C := mkC Hvaf.prog) cok (args := [ov, vv, nv, .bool false]) Hvaf.func404 rfl Hvaf.ntmps404 (by simp) (by kernel_rfl) ?_
  repeat (first | refine SeqS.go cok ?_)
  refine (nCmpZ hNn hNv h1).mono ?_
  rintro r _ - ⟨rfl, z0, hz0, ha0, hb0, rfl⟩
  repeat (first | refine SeqS.go cok ?_)
  refine (nCmpZ hNv hNo h2).mono ?_
  rintro r _ - ⟨rfl, z1, hz1, ha1, hb1, rfl⟩
  repeat (first | refine SeqS.go cok ?_ | refine GuardS.yes rfl ?_ | (refine GuardS.keep ?_; first | refine GuardS.F0 rfl (by omega) ?_) | (refine CondS.keep ?_; first | refine CondS.nd1 rfl (by omega) ?_))
  refine callN (yNum (n := 100) (by decide)) ?_
  intro rhNc0 I hshNc0 hNc0
  try replace hNo := hNo.up hshNc0
  try replace hNv := hNv.up hshNc0
  try replace hNn := hNn.up hshNc0
  repeat (first | refine SeqS.go cok ?_ | refine CondS.f rfl ?_ | (refine CondS.keep ?_; first | refine CondS.d0 rfl (by omega) ?_))
  refine (zT hNo h3).mono ?_
  rintro r _ - ⟨rfl, rfl⟩
  repeat (first | refine SeqS.go cok ?_ | refine CondS.f rfl ?_)
  refine (nCmpZ hNn hNo h4).mono ?_
  rintro r _ - ⟨rfl, z2, hz2, ha2, hb2, rfl⟩
  repeat (first | refine SeqS.go cok ?_ | (refine CondS.keep ?_; first | refine CondS.d0 rfl (by omega) ?_))
  exact Fin.same ⟨rfl, _, _, _, rfl, hNc0, NatI.zero _, NatI.zero _⟩
theorem sstC2true {I : Ent → Prop} {G : List Ent} {ov vv nv : Value} {o v n : Nat} (hNo : NatI I ov o) (hNv : NatI I vv v) (hNn : NatI I nv n) (h1 : n ≠ v) (h2 : v ≠ o) (h3 : o = 0) (h4 : n ≠ o) :
    CallG Hvaf.prog 404 #[ov, vv, nv, .bool true] ⟨I, G⟩ (SstP G (100 + 2100, 0, 0)) := by
  refine CallG.start (C := mkC Hvaf.prog) cok (args := [ov, vv, nv, .bool true]) Hvaf.func404 rfl Hvaf.ntmps404 (by simp) (by kernel_rfl) ?_
  repeat (first | refine SeqS.go cok ?_)
  refine (nCmpZ hNn hNv h1).mono ?_
  rintro r _ - ⟨rfl, z0, hz0, ha0, hb0, rfl⟩
  repeat (first | refine SeqS.go cok ?_)
  refine (nCmpZ hNv hNo h2).mono ?_
  rintro r _ - ⟨rfl, z1, hz1, ha1, hb1, rfl⟩
  repeat (first | refine SeqS.go cok ?_ | refine GuardS.yes rfl ?_ | (refine GuardS.keep ?_; first | refine GuardS.F0 rfl (by omega) ?_) | (refine CondS.keep ?_; first | refine CondS.nd1 rfl (by omega) ?_))
  refine callN (yNum (n := 100) (by decide)) ?_
  intro rhNc0 I hshNc0 hNc0
  try replace hNo := hNo.up hshNc0
  try replace hNv := hNv.up hshNc0
  try replace hNn := hNn.up hshNc0
  repeat (first | refine SeqS.go cok ?_ | refine CondS.t rfl ?_)
  refine callN (yNum (n := 2100) (by decide)) ?_
  intro rhNc1 I hshNc1 hNc1
  try replace hNo := hNo.up hshNc1
  try replace hNv := hNv.up hshNc1
  try replace hNn := hNn.up hshNc1
  try replace hNc0 := hNc0.up hshNc1
  skip
  refine callN (nAdd hNc0 hNc1 (by decide +kernel)) ?_
  intro rhNc2 I hshNc2 hNc2
  try replace hNo := hNo.up hshNc2
  try replace hNv := hNv.up hshNc2
  try replace hNn := hNn.up hshNc2
  try replace hNc0 := hNc0.up hshNc2
  try replace hNc1 := hNc1.up hshNc2
  repeat (first | refine SeqS.go cok ?_ | (refine CondS.keep ?_; first | refine CondS.d0 rfl (by omega) ?_))
  refine (zT hNo h3).mono ?_
  rintro r _ - ⟨rfl, rfl⟩
  repeat (first | refine SeqS.go cok ?_ | refine CondS.f rfl ?_)
  refine (nCmpZ hNn hNo h4).mono ?_
  rintro r _ - ⟨rfl, z2, hz2, ha2, hb2, rfl⟩
  repeat (first | refine SeqS.go cok ?_ | (refine CondS.keep ?_; first | refine CondS.d0 rfl (by omega) ?_))
  exact Fin.same ⟨rfl, _, _, _, rfl, hNc2, NatI.zero _, NatI.zero _⟩
theorem sstD1false {I : Ent → Prop} {G : List Ent} {ov vv nv : Value} {o v n : Nat} (hNo : NatI I ov o) (hNv : NatI I vv v) (hNn : NatI I nv n) (h1 : n ≠ v) (h2 : v ≠ o) (h3 : o ≠ 0) (h5 : v = 0) (h4 : n = o) :
    CallG Hvaf.prog 404 #[ov, vv, nv, .bool false] ⟨I, G⟩ (SstP G (100, 0 + 2800, 4800)) := by
  refine CallG.start (C := mkC Hvaf.prog) cok (args := [ov, vv, nv, .bool false]) Hvaf.func404 rfl Hvaf.ntmps404 (by simp) (by kernel_rfl) ?_
  repeat (first | refine SeqS.go cok ?_)
  refine (nCmpZ hNn hNv h1).mono ?_
  rintro r _ - ⟨rfl, z0, hz0, ha0, hb0, rfl⟩
  repeat (first | refine SeqS.go cok ?_)
  refine (nCmpZ hNv hNo h2).mono ?_
  rintro r _ - ⟨rfl, z1, hz1, ha1, hb1, rfl⟩
  repeat (first | refine SeqS.go cok ?_ | refine GuardS.yes rfl ?_ | (refine GuardS.keep ?_; first | refine GuardS.F0 rfl (by omega) ?_) | (refine CondS.keep ?_; first | refine CondS.nd1 rfl (by omega) ?_))
  refine callN (yNum (n := 100) (by decide)) ?_
  intro rhNc0 I hshNc0 hNc0
  try replace hNo := hNo.up hshNc0
  try replace hNv := hNv.up hshNc0
  try replace hNn := hNn.up hshNc0
  repeat (first | refine SeqS.go cok ?_ | refine CondS.f rfl ?_ | (refine CondS.keep ?_; first | refine CondS.d0 rfl (by omega) ?_))
  refine (zF hNo h3).mono ?_
  rintro r _ - ⟨rfl, rfl⟩
  repeat (first | refine SeqS.go cok ?_ | refine CondS.t rfl ?_)
  refine (zT hNv h5).mono ?_
  rintro r _ - ⟨rfl, rfl⟩
  repeat (first | refine SeqS.go cok ?_ | refine CondS.t rfl ?_)
  refine callN (yNum (n := 4800) (by decide)) ?_
  intro rhNm I hshNm hNm
  try replace hNo := hNo.up hshNm
  try replace hNv := hNv.up hshNm
  try replace hNn := hNn.up hshNm
  try replace hNc0 := hNc0.up hshNm
  repeat (first | refine SeqS.go cok ?_)
  refine (nCmpE hNn hNo h4).mono ?_
  rintro r _ - ⟨rfl, rfl⟩
  repeat (first | refine SeqS.go cok ?_ | refine CondS.t rfl ?_)
  refine callN (yNum (n := 19900) (by decide)) ?_
  intro rhNb I hshNb hNb
  try replace hNo := hNo.up hshNb
  try replace hNv := hNv.up hshNb
  try replace hNn := hNn.up hshNb
  try replace hNc0 := hNc0.up hshNb
  try replace hNm := hNm.up hshNb
  repeat (first | refine SeqS.go cok ?_)
  refine (zF hNo h3).mono ?_
  rintro r _ - ⟨rfl, rfl⟩
  repeat (first | refine SeqS.go cok ?_ | refine CondS.t rfl ?_)
  refine callN (yNum (n := 2800) (by decide)) ?_
  intro rhNd I hshNd hNd
  try replace hNo := hNo.up hshNd
  try replace hNv := hNv.up hshNd
  try replace hNn := hNn.up hshNd
  try replace hNc0 := hNc0.up hshNd
  try replace hNm := hNm.up hshNd
  try replace hNb := hNb.up hshNd
  repeat (first | refine SeqS.go cok ?_)
  refine callN (nAdd (NatI.zero _) hNd (by decide +kernel)) ?_
  intro rhNp I hshNp hNp
  try replace hNo := hNo.up hshNp
  try replace hNv := hNv.up hshNp
  try replace hNn := hNn.up hshNp
  try replace hNc0 := hNc0.up hshNp
  try replace hNm := hNm.up hshNp
  try replace hNb := hNb.up hshNp
  try replace hNd := hNd.up hshNp
  repeat (first | refine SeqS.go cok ?_)
  exact Fin.same ⟨rfl, _, _, _, rfl, hNc0, hNp, hNm⟩
theorem sstD1true {I : Ent → Prop} {G : List Ent} {ov vv nv : Value} {o v n : Nat} (hNo : NatI I ov o) (hNv : NatI I vv v) (hNn : NatI I nv n) (h1 : n ≠ v) (h2 : v ≠ o) (h3 : o ≠ 0) (h5 : v = 0) (h4 : n = o) :
    CallG Hvaf.prog 404 #[ov, vv, nv, .bool true] ⟨I, G⟩ (SstP G (100 + 2100, 0 + 2800, 4800)) := by
  refine CallG.start (C := mkC Hvaf.prog) cok (args := [ov, vv, nv, .bool true]) Hvaf.func404 rfl Hvaf.ntmps404 (by simp) (by kernel_rfl) ?_
  repeat (first | refine SeqS.go cok ?_)
  refine (nCmpZ hNn hNv h1).mono ?_
  rintro r _ - ⟨rfl, z0, hz0, ha0, hb0, rfl⟩
  repeat (first | refine SeqS.go cok ?_)
  refine (nCmpZ hNv hNo h2).mono ?_
  rintro r _ - ⟨rfl, z1, hz1, ha1, hb1, rfl⟩
  repeat (first | refine SeqS.go cok ?_ | refine GuardS.yes rfl ?_ | (refine GuardS.keep ?_; first | refine GuardS.F0 rfl (by omega) ?_) | (refine CondS.keep ?_; first | refine CondS.nd1 rfl (by omega) ?_))
  refine callN (yNum (n := 100) (by decide)) ?_
  intro rhNc0 I hshNc0 hNc0
  try replace hNo := hNo.up hshNc0
  try replace hNv := hNv.up hshNc0
  try replace hNn := hNn.up hshNc0
  repeat (first | refine SeqS.go cok ?_ | refine CondS.t rfl ?_)
  refine callN (yNum (n := 2100) (by decide)) ?_
  intro rhNc1 I hshNc1 hNc1
  try replace hNo := hNo.up hshNc1
  try replace hNv := hNv.up hshNc1
  try replace hNn := hNn.up hshNc1
  try replace hNc0 := hNc0.up hshNc1
  skip
  refine callN (nAdd hNc0 hNc1 (by decide +kernel)) ?_
  intro rhNc2 I hshNc2 hNc2
  try replace hNo := hNo.up hshNc2
  try replace hNv := hNv.up hshNc2
  try replace hNn := hNn.up hshNc2
  try replace hNc0 := hNc0.up hshNc2
  try replace hNc1 := hNc1.up hshNc2
  repeat (first | refine SeqS.go cok ?_ | (refine CondS.keep ?_; first | refine CondS.d0 rfl (by omega) ?_))
  refine (zF hNo h3).mono ?_
  rintro r _ - ⟨rfl, rfl⟩
  repeat (first | refine SeqS.go cok ?_ | refine CondS.t rfl ?_)
  refine (zT hNv h5).mono ?_
  rintro r _ - ⟨rfl, rfl⟩
  repeat (first | refine SeqS.go cok ?_ | refine CondS.t rfl ?_)
  refine callN (yNum (n := 4800) (by decide)) ?_
  intro rhNm I hshNm hNm
  try replace hNo := hNo.up hshNm
  try replace hNv := hNv.up hshNm
  try replace hNn := hNn.up hshNm
  try replace hNc0 := hNc0.up hshNm
  try replace hNc1 := hNc1.up hshNm
  try replace hNc2 := hNc2.up hshNm
  repeat (first | refine SeqS.go cok ?_)
  refine (nCmpE hNn hNo h4).mono ?_
  rintro r _ - ⟨rfl, rfl⟩
  repeat (first | refine SeqS.go cok ?_ | refine CondS.t rfl ?_)
  refine callN (yNum (n := 19900) (by decide)) ?_
  intro rhNb I hshNb hNb
  try replace hNo := hNo.up hshNb
  try replace hNv := hNv.up hshNb
  try replace hNn := hNn.up hshNb
  try replace hNc0 := hNc0.up hshNb
  try replace hNc1 := hNc1.up hshNb
  try replace hNc2 := hNc2.up hshNb
  try replace hNm := hNm.up hshNb
  repeat (first | refine SeqS.go cok ?_)
  refine (zF hNo h3).mono ?_
  rintro r _ - ⟨rfl, rfl⟩
  repeat (first | refine SeqS.go cok ?_ | refine CondS.t rfl ?_)
  refine callN (yNum (n := 2800) (by decide)) ?_
  intro rhNd I hshNd hNd
  try replace hNo := hNo.up hshNd
  try replace hNv := hNv.up hshNd
  try replace hNn := hNn.up hshNd
  try replace hNc0 := hNc0.up hshNd
  try replace hNc1 := hNc1.up hshNd
  try replace hNc2 := hNc2.up hshNd
  try replace hNm := hNm.up hshNd
  try replace hNb := hNb.up hshNd
  repeat (first | refine SeqS.go cok ?_)
  refine callN (nAdd (NatI.zero _) hNd (by decide +kernel)) ?_
  intro rhNp I hshNp hNp
  try replace hNo := hNo.up hshNp
  try replace hNv := hNv.up hshNp
  try replace hNn := hNn.up hshNp
  try replace hNc0 := hNc0.up hshNp
  try replace hNc1 := hNc1.up hshNp
  try replace hNc2 := hNc2.up hshNp
  try replace hNm := hNm.up hshNp
  try replace hNb := hNb.up hshNp
  try replace hNd := hNd.up hshNp
  repeat (first | refine SeqS.go cok ?_)
  exact Fin.same ⟨rfl, _, _, _, rfl, hNc2, hNp, hNm⟩
theorem sstD2false {I : Ent → Prop} {G : List Ent} {ov vv nv : Value} {o v n : Nat} (hNo : NatI I ov o) (hNv : NatI I vv v) (hNn : NatI I nv n) (h1 : n ≠ v) (h2 : v ≠ o) (h3 : o ≠ 0) (h5 : v = 0) (h4 : n ≠ o) :
    CallG Hvaf.prog 404 #[ov, vv, nv, .bool false] ⟨I, G⟩ (SstP G (100, 0, 4800)) := by
  refine CallG.start (C := mkC Hvaf.prog) cok (args := [ov, vv, nv, .bool false]) Hvaf.func404 rfl Hvaf.ntmps404 (by simp) (by kernel_rfl) ?_
  repeat (first | refine SeqS.go cok ?_)
  refine (nCmpZ hNn hNv h1).mono ?_
  rintro r _ - ⟨rfl, z0, hz0, ha0, hb0, rfl⟩
  repeat (first | refine SeqS.go cok ?_)
  refine (nCmpZ hNv hNo h2).mono ?_
  rintro r _ - ⟨rfl, z1, hz1, ha1, hb1, rfl⟩
  repeat (first | refine SeqS.go cok ?_ | refine GuardS.yes rfl ?_ | (refine GuardS.keep ?_; first | refine GuardS.F0 rfl (by omega) ?_) | (refine CondS.keep ?_; first | refine CondS.nd1 rfl (by omega) ?_))
  refine callN (yNum (n := 100) (by decide)) ?_
  intro rhNc0 I hshNc0 hNc0
  try replace hNo := hNo.up hshNc0
  try replace hNv := hNv.up hshNc0
  try replace hNn := hNn.up hshNc0
  repeat (first | refine SeqS.go cok ?_ | refine CondS.f rfl ?_ | (refine CondS.keep ?_; first | refine CondS.d0 rfl (by omega) ?_))
  refine (zF hNo h3).mono ?_
  rintro r _ - ⟨rfl, rfl⟩
  repeat (first | refine SeqS.go cok ?_ | refine CondS.t rfl ?_)
  refine (zT hNv h5).mono ?_
  rintro r _ - ⟨rfl, rfl⟩
  repeat (first | refine SeqS.go cok ?_ | refine CondS.t rfl ?_)
  refine callN (yNum (n := 4800) (by decide)) ?_
  intro rhNm I hshNm hNm
  try replace hNo := hNo.up hshNm
  try replace hNv := hNv.up hshNm
  try replace hNn := hNn.up hshNm
  try replace hNc0 := hNc0.up hshNm
  repeat (first | refine SeqS.go cok ?_)
  refine (nCmpZ hNn hNo h4).mono ?_
  rintro r _ - ⟨rfl, z2, hz2, ha2, hb2, rfl⟩
  repeat (first | refine SeqS.go cok ?_ | (refine CondS.keep ?_; first | refine CondS.d0 rfl (by omega) ?_))
  exact Fin.same ⟨rfl, _, _, _, rfl, hNc0, NatI.zero _, hNm⟩
theorem sstD2true {I : Ent → Prop} {G : List Ent} {ov vv nv : Value} {o v n : Nat} (hNo : NatI I ov o) (hNv : NatI I vv v) (hNn : NatI I nv n) (h1 : n ≠ v) (h2 : v ≠ o) (h3 : o ≠ 0) (h5 : v = 0) (h4 : n ≠ o) :
    CallG Hvaf.prog 404 #[ov, vv, nv, .bool true] ⟨I, G⟩ (SstP G (100 + 2100, 0, 4800)) := by
  refine CallG.start (C := mkC Hvaf.prog) cok (args := [ov, vv, nv, .bool true]) Hvaf.func404 rfl Hvaf.ntmps404 (by simp) (by kernel_rfl) ?_
  repeat (first | refine SeqS.go cok ?_)
  refine (nCmpZ hNn hNv h1).mono ?_
  rintro r _ - ⟨rfl, z0, hz0, ha0, hb0, rfl⟩
  repeat (first | refine SeqS.go cok ?_)
  refine (nCmpZ hNv hNo h2).mono ?_
  rintro r _ - ⟨rfl, z1, hz1, ha1, hb1, rfl⟩
  repeat (first | refine SeqS.go cok ?_ | refine GuardS.yes rfl ?_ | (refine GuardS.keep ?_; first | refine GuardS.F0 rfl (by omega) ?_) | (refine CondS.keep ?_; first | refine CondS.nd1 rfl (by omega) ?_))
  refine callN (yNum (n := 100) (by decide)) ?_
  intro rhNc0 I hshNc0 hNc0
  try replace hNo := hNo.up hshNc0
  try replace hNv := hNv.up hshNc0
  try replace hNn := hNn.up hshNc0
  repeat (first | refine SeqS.go cok ?_ | refine CondS.t rfl ?_)
  refine callN (yNum (n := 2100) (by decide)) ?_
  intro rhNc1 I hshNc1 hNc1
  try replace hNo := hNo.up hshNc1
  try replace hNv := hNv.up hshNc1
  try replace hNn := hNn.up hshNc1
  try replace hNc0 := hNc0.up hshNc1
  skip
  refine callN (nAdd hNc0 hNc1 (by decide +kernel)) ?_
  intro rhNc2 I hshNc2 hNc2
  try replace hNo := hNo.up hshNc2
  try replace hNv := hNv.up hshNc2
  try replace hNn := hNn.up hshNc2
  try replace hNc0 := hNc0.up hshNc2
  try replace hNc1 := hNc1.up hshNc2
  repeat (first | refine SeqS.go cok ?_ | (refine CondS.keep ?_; first | refine CondS.d0 rfl (by omega) ?_))
  refine (zF hNo h3).mono ?_
  rintro r _ - ⟨rfl, rfl⟩
  repeat (first | refine SeqS.go cok ?_ | refine CondS.t rfl ?_)
  refine (zT hNv h5).mono ?_
  rintro r _ - ⟨rfl, rfl⟩
  repeat (first | refine SeqS.go cok ?_ | refine CondS.t rfl ?_)
  refine callN (yNum (n := 4800) (by decide)) ?_
  intro rhNm I hshNm hNm
  try replace hNo := hNo.up hshNm
  try replace hNv := hNv.up hshNm
  try replace hNn := hNn.up hshNm
  try replace hNc0 := hNc0.up hshNm
  try replace hNc1 := hNc1.up hshNm
  try replace hNc2 := hNc2.up hshNm
  repeat (first | refine SeqS.go cok ?_)
  refine (nCmpZ hNn hNo h4).mono ?_
  rintro r _ - ⟨rfl, z2, hz2, ha2, hb2, rfl⟩
  repeat (first | refine SeqS.go cok ?_ | (refine CondS.keep ?_; first | refine CondS.d0 rfl (by omega) ?_))
  exact Fin.same ⟨rfl, _, _, _, rfl, hNc2, NatI.zero _, hNm⟩
theorem sstD3false {I : Ent → Prop} {G : List Ent} {ov vv nv : Value} {o v n : Nat} (hNo : NatI I ov o) (hNv : NatI I vv v) (hNn : NatI I nv n) (h1 : n ≠ v) (h2 : v ≠ o) (h3 : o ≠ 0) (h5 : v ≠ 0) (h6 : n = 0) (h4 : n ≠ o) :
    CallG Hvaf.prog 404 #[ov, vv, nv, .bool false] ⟨I, G⟩ (SstP G (100, 4800, 0)) := by
  refine CallG.start (C := mkC Hvaf.prog) cok (args := [ov, vv, nv, .bool false]) Hvaf.func404 rfl Hvaf.ntmps404 (by simp) (by kernel_rfl) ?_
  repeat (first | refine SeqS.go cok ?_)
  refine (nCmpZ hNn hNv h1).mono ?_
  rintro r _ - ⟨rfl, z0, hz0, ha0, hb0, rfl⟩
  repeat (first | refine SeqS.go cok ?_)
  refine (nCmpZ hNv hNo h2).mono ?_
  rintro r _ - ⟨rfl, z1, hz1, ha1, hb1, rfl⟩
  repeat (first | refine SeqS.go cok ?_ | refine GuardS.yes rfl ?_ | (refine GuardS.keep ?_; first | refine GuardS.F0 rfl (by omega) ?_) | (refine CondS.keep ?_; first | refine CondS.nd1 rfl (by omega) ?_))
  refine callN (yNum (n := 100) (by decide)) ?_
  intro rhNc0 I hshNc0 hNc0
  try replace hNo := hNo.up hshNc0
  try replace hNv := hNv.up hshNc0
  try replace hNn := hNn.up hshNc0
  repeat (first | refine SeqS.go cok ?_ | refine CondS.f rfl ?_ | (refine CondS.keep ?_; first | refine CondS.d0 rfl (by omega) ?_))
  refine (zF hNo h3).mono ?_
  rintro r _ - ⟨rfl, rfl⟩
  repeat (first | refine SeqS.go cok ?_ | refine CondS.t rfl ?_)
  refine (zF hNv h5).mono ?_
  rintro r _ - ⟨rfl, rfl⟩
  repeat (first | refine SeqS.go cok ?_ | refine CondS.f rfl ?_)
  refine (zT hNn h6).mono ?_
  rintro r _ - ⟨rfl, rfl⟩
  repeat (first | refine SeqS.go cok ?_ | refine CondS.t rfl ?_)
  refine callN (yNum (n := 4800) (by decide)) ?_
  intro rhNp I hshNp hNp
  try replace hNo := hNo.up hshNp
  try replace hNv := hNv.up hshNp
  try replace hNn := hNn.up hshNp
  try replace hNc0 := hNc0.up hshNp
  repeat (first | refine SeqS.go cok ?_)
  refine (nCmpZ hNn hNo h4).mono ?_
  rintro r _ - ⟨rfl, z2, hz2, ha2, hb2, rfl⟩
  repeat (first | refine SeqS.go cok ?_ | (refine CondS.keep ?_; first | refine CondS.d0 rfl (by omega) ?_))
  exact Fin.same ⟨rfl, _, _, _, rfl, hNc0, hNp, NatI.zero _⟩
theorem sstD3true {I : Ent → Prop} {G : List Ent} {ov vv nv : Value} {o v n : Nat} (hNo : NatI I ov o) (hNv : NatI I vv v) (hNn : NatI I nv n) (h1 : n ≠ v) (h2 : v ≠ o) (h3 : o ≠ 0) (h5 : v ≠ 0) (h6 : n = 0) (h4 : n ≠ o) :
    CallG Hvaf.prog 404 #[ov, vv, nv, .bool true] ⟨I, G⟩ (SstP G (100 + 2100, 4800, 0)) := by
  refine CallG.start (C := mkC Hvaf.prog) cok (args := [ov, vv, nv, .bool true]) Hvaf.func404 rfl Hvaf.ntmps404 (by simp) (by kernel_rfl) ?_
  repeat (first | refine SeqS.go cok ?_)
  refine (nCmpZ hNn hNv h1).mono ?_
  rintro r _ - ⟨rfl, z0, hz0, ha0, hb0, rfl⟩
  repeat (first | refine SeqS.go cok ?_)
  refine (nCmpZ hNv hNo h2).mono ?_
  rintro r _ - ⟨rfl, z1, hz1, ha1, hb1, rfl⟩
  repeat (first | refine SeqS.go cok ?_ | refine GuardS.yes rfl ?_ | (refine GuardS.keep ?_; first | refine GuardS.F0 rfl (by omega) ?_) | (refine CondS.keep ?_; first | refine CondS.nd1 rfl (by omega) ?_))
  refine callN (yNum (n := 100) (by decide)) ?_
  intro rhNc0 I hshNc0 hNc0
  try replace hNo := hNo.up hshNc0
  try replace hNv := hNv.up hshNc0
  try replace hNn := hNn.up hshNc0
  repeat (first | refine SeqS.go cok ?_ | refine CondS.t rfl ?_)
  refine callN (yNum (n := 2100) (by decide)) ?_
  intro rhNc1 I hshNc1 hNc1
  try replace hNo := hNo.up hshNc1
  try replace hNv := hNv.up hshNc1
  try replace hNn := hNn.up hshNc1
  try replace hNc0 := hNc0.up hshNc1
  skip
  refine callN (nAdd hNc0 hNc1 (by decide +kernel)) ?_
  intro rhNc2 I hshNc2 hNc2
  try replace hNo := hNo.up hshNc2
  try replace hNv := hNv.up hshNc2
  try replace hNn := hNn.up hshNc2
  try replace hNc0 := hNc0.up hshNc2
  try replace hNc1 := hNc1.up hshNc2
  repeat (first | refine SeqS.go cok ?_ | (refine CondS.keep ?_; first | refine CondS.d0 rfl (by omega) ?_))
  refine (zF hNo h3).mono ?_
  rintro r _ - ⟨rfl, rfl⟩
  repeat (first | refine SeqS.go cok ?_ | refine CondS.t rfl ?_)
  refine (zF hNv h5).mono ?_
  rintro r _ - ⟨rfl, rfl⟩
  repeat (first | refine SeqS.go cok ?_ | refine CondS.f rfl ?_)
  refine (zT hNn h6).mono ?_
  rintro r _ - ⟨rfl, rfl⟩
  repeat (first | refine SeqS.go cok ?_ | refine CondS.t rfl ?_)
  refine callN (yNum (n := 4800) (by decide)) ?_
  intro rhNp I hshNp hNp
  try replace hNo := hNo.up hshNp
  try replace hNv := hNv.up hshNp
  try replace hNn := hNn.up hshNp
  try replace hNc0 := hNc0.up hshNp
  try replace hNc1 := hNc1.up hshNp
  try replace hNc2 := hNc2.up hshNp
  repeat (first | refine SeqS.go cok ?_)
  refine (nCmpZ hNn hNo h4).mono ?_
  rintro r _ - ⟨rfl, z2, hz2, ha2, hb2, rfl⟩
  repeat (first | refine SeqS.go cok ?_ | (refine CondS.keep ?_; first | refine CondS.d0 rfl (by omega) ?_))
  exact Fin.same ⟨rfl, _, _, _, rfl, hNc2, hNp, NatI.zero _⟩
theorem sstD4false {I : Ent → Prop} {G : List Ent} {ov vv nv : Value} {o v n : Nat} (hNo : NatI I ov o) (hNv : NatI I vv v) (hNn : NatI I nv n) (h1 : n ≠ v) (h2 : v ≠ o) (h3 : o ≠ 0) (h5 : v ≠ 0) (h6 : n ≠ 0) (h4 : n = o) :
    CallG Hvaf.prog 404 #[ov, vv, nv, .bool false] ⟨I, G⟩ (SstP G (100, 0 + 2800, 0)) := by
  refine CallG.start (C := mkC Hvaf.prog) cok (args := [ov, vv, nv, .bool false]) Hvaf.func404 rfl Hvaf.ntmps404 (by simp) (by kernel_rfl) ?_
  repeat (first | refine SeqS.go cok ?_)
  refine (nCmpZ hNn hNv h1).mono ?_
  rintro r _ - ⟨rfl, z0, hz0, ha0, hb0, rfl⟩
  repeat (first | refine SeqS.go cok ?_)
  refine (nCmpZ hNv hNo h2).mono ?_
  rintro r _ - ⟨rfl, z1, hz1, ha1, hb1, rfl⟩
  repeat (first | refine SeqS.go cok ?_ | refine GuardS.yes rfl ?_ | (refine GuardS.keep ?_; first | refine GuardS.F0 rfl (by omega) ?_) | (refine CondS.keep ?_; first | refine CondS.nd1 rfl (by omega) ?_))
  refine callN (yNum (n := 100) (by decide)) ?_
  intro rhNc0 I hshNc0 hNc0
  try replace hNo := hNo.up hshNc0
  try replace hNv := hNv.up hshNc0
  try replace hNn := hNn.up hshNc0
  repeat (first | refine SeqS.go cok ?_ | refine CondS.f rfl ?_ | (refine CondS.keep ?_; first | refine CondS.d0 rfl (by omega) ?_))
  refine (zF hNo h3).mono ?_
  rintro r _ - ⟨rfl, rfl⟩
  repeat (first | refine SeqS.go cok ?_ | refine CondS.t rfl ?_)
  refine (zF hNv h5).mono ?_
  rintro r _ - ⟨rfl, rfl⟩
  repeat (first | refine SeqS.go cok ?_ | refine CondS.f rfl ?_)
  refine (zF hNn h6).mono ?_
  rintro r _ - ⟨rfl, rfl⟩
  repeat (first | refine SeqS.go cok ?_ | refine CondS.f rfl ?_)
  refine (nCmpE hNn hNo h4).mono ?_
  rintro r _ - ⟨rfl, rfl⟩
  repeat (first | refine SeqS.go cok ?_ | refine CondS.t rfl ?_)
  refine callN (yNum (n := 19900) (by decide)) ?_
  intro rhNb I hshNb hNb
  try replace hNo := hNo.up hshNb
  try replace hNv := hNv.up hshNb
  try replace hNn := hNn.up hshNb
  try replace hNc0 := hNc0.up hshNb
  repeat (first | refine SeqS.go cok ?_)
  refine (zF hNo h3).mono ?_
  rintro r _ - ⟨rfl, rfl⟩
  repeat (first | refine SeqS.go cok ?_ | refine CondS.t rfl ?_)
  refine callN (yNum (n := 2800) (by decide)) ?_
  intro rhNd I hshNd hNd
  try replace hNo := hNo.up hshNd
  try replace hNv := hNv.up hshNd
  try replace hNn := hNn.up hshNd
  try replace hNc0 := hNc0.up hshNd
  try replace hNb := hNb.up hshNd
  repeat (first | refine SeqS.go cok ?_)
  refine callN (nAdd (NatI.zero _) hNd (by decide +kernel)) ?_
  intro rhNp I hshNp hNp
  try replace hNo := hNo.up hshNp
  try replace hNv := hNv.up hshNp
  try replace hNn := hNn.up hshNp
  try replace hNc0 := hNc0.up hshNp
  try replace hNb := hNb.up hshNp
  try replace hNd := hNd.up hshNp
  repeat (first | refine SeqS.go cok ?_)
  exact Fin.same ⟨rfl, _, _, _, rfl, hNc0, hNp, NatI.zero _⟩
theorem sstD4true {I : Ent → Prop} {G : List Ent} {ov vv nv : Value} {o v n : Nat} (hNo : NatI I ov o) (hNv : NatI I vv v) (hNn : NatI I nv n) (h1 : n ≠ v) (h2 : v ≠ o) (h3 : o ≠ 0) (h5 : v ≠ 0) (h6 : n ≠ 0) (h4 : n = o) :
    CallG Hvaf.prog 404 #[ov, vv, nv, .bool true] ⟨I, G⟩ (SstP G (100 + 2100, 0 + 2800, 0)) := by
  refine CallG.start (C := mkC Hvaf.prog) cok (args := [ov, vv, nv, .bool true]) Hvaf.func404 rfl Hvaf.ntmps404 (by simp) (by kernel_rfl) ?_
  repeat (first | refine SeqS.go cok ?_)
  refine (nCmpZ hNn hNv h1).mono ?_
  rintro r _ - ⟨rfl, z0, hz0, ha0, hb0, rfl⟩
  repeat (first | refine SeqS.go cok ?_)
  refine (nCmpZ hNv hNo h2).mono ?_
  rintro r _ - ⟨rfl, z1, hz1, ha1, hb1, rfl⟩
  repeat (first | refine SeqS.go cok ?_ | refine GuardS.yes rfl ?_ | (refine GuardS.keep ?_; first | refine GuardS.F0 rfl (by omega) ?_) | (refine CondS.keep ?_; first | refine CondS.nd1 rfl (by omega) ?_))
  refine callN (yNum (n := 100) (by decide)) ?_
  intro rhNc0 I hshNc0 hNc0
  try replace hNo := hNo.up hshNc0
  try replace hNv := hNv.up hshNc0
  try replace hNn := hNn.up hshNc0
  repeat (first | refine SeqS.go cok ?_ | refine CondS.t rfl ?_)
  refine callN (yNum (n := 2100) (by decide)) ?_
  intro rhNc1 I hshNc1 hNc1
  try replace hNo := hNo.up hshNc1
  try replace hNv := hNv.up hshNc1
  try replace hNn := hNn.up hshNc1
  try replace hNc0 := hNc0.up hshNc1
  skip
  refine callN (nAdd hNc0 hNc1 (by decide +kernel)) ?_
  intro rhNc2 I hshNc2 hNc2
  try replace hNo := hNo.up hshNc2
  try replace hNv := hNv.up hshNc2
  try replace hNn := hNn.up hshNc2
  try replace hNc0 := hNc0.up hshNc2
  try replace hNc1 := hNc1.up hshNc2
  repeat (first | refine SeqS.go cok ?_ | (refine CondS.keep ?_; first | refine CondS.d0 rfl (by omega) ?_))
  refine (zF hNo h3).mono ?_
  rintro r _ - ⟨rfl, rfl⟩
  repeat (first | refine SeqS.go cok ?_ | refine CondS.t rfl ?_)
  refine (zF hNv h5).mono ?_
  rintro r _ - ⟨rfl, rfl⟩
  repeat (first | refine SeqS.go cok ?_ | refine CondS.f rfl ?_)
  refine (zF hNn h6).mono ?_
  rintro r _ - ⟨rfl, rfl⟩
  repeat (first | refine SeqS.go cok ?_ | refine CondS.f rfl ?_)
  refine (nCmpE hNn hNo h4).mono ?_
  rintro r _ - ⟨rfl, rfl⟩
  repeat (first | refine SeqS.go cok ?_ | refine CondS.t rfl ?_)
  refine callN (yNum (n := 19900) (by decide)) ?_
  intro rhNb I hshNb hNb
  try replace hNo := hNo.up hshNb
  try replace hNv := hNv.up hshNb
  try replace hNn := hNn.up hshNb
  try replace hNc0 := hNc0.up hshNb
  try replace hNc1 := hNc1.up hshNb
  try replace hNc2 := hNc2.up hshNb
  repeat (first | refine SeqS.go cok ?_)
  refine (zF hNo h3).mono ?_
  rintro r _ - ⟨rfl, rfl⟩
  repeat (first | refine SeqS.go cok ?_ | refine CondS.t rfl ?_)
  refine callN (yNum (n := 2800) (by decide)) ?_
  intro rhNd I hshNd hNd
  try replace hNo := hNo.up hshNd
  try replace hNv := hNv.up hshNd
  try replace hNn := hNn.up hshNd
  try replace hNc0 := hNc0.up hshNd
  try replace hNc1 := hNc1.up hshNd
  try replace hNc2 := hNc2.up hshNd
  try replace hNb := hNb.up hshNd
  repeat (first | refine SeqS.go cok ?_)
  refine callN (nAdd (NatI.zero _) hNd (by decide +kernel)) ?_
  intro rhNp I hshNp hNp
  try replace hNo := hNo.up hshNp
  try replace hNv := hNv.up hshNp
  try replace hNn := hNn.up hshNp
  try replace hNc0 := hNc0.up hshNp
  try replace hNc1 := hNc1.up hshNp
  try replace hNc2 := hNc2.up hshNp
  try replace hNb := hNb.up hshNp
  try replace hNd := hNd.up hshNp
  repeat (first | refine SeqS.go cok ?_)
  exact Fin.same ⟨rfl, _, _, _, rfl, hNc2, hNp, NatI.zero _⟩
theorem sstD5false {I : Ent → Prop} {G : List Ent} {ov vv nv : Value} {o v n : Nat} (hNo : NatI I ov o) (hNv : NatI I vv v) (hNn : NatI I nv n) (h1 : n ≠ v) (h2 : v ≠ o) (h3 : o ≠ 0) (h5 : v ≠ 0) (h6 : n ≠ 0) (h4 : n ≠ o) :
    CallG Hvaf.prog 404 #[ov, vv, nv, .bool false] ⟨I, G⟩ (SstP G (100, 0, 0)) := by
  refine CallG.start (C := mkC Hvaf.prog) cok (args := [ov, vv, nv, .bool false]) Hvaf.func404 rfl Hvaf.ntmps404 (by simp) (by kernel_rfl) ?_
  repeat (first | refine SeqS.go cok ?_)
  refine (nCmpZ hNn hNv h1).mono ?_
  rintro r _ - ⟨rfl, z0, hz0, ha0, hb0, rfl⟩
  repeat (first | refine SeqS.go cok ?_)
  refine (nCmpZ hNv hNo h2).mono ?_
  rintro r _ - ⟨rfl, z1, hz1, ha1, hb1, rfl⟩
  repeat (first | refine SeqS.go cok ?_ | refine GuardS.yes rfl ?_ | (refine GuardS.keep ?_; first | refine GuardS.F0 rfl (by omega) ?_) | (refine CondS.keep ?_; first | refine CondS.nd1 rfl (by omega) ?_))
  refine callN (yNum (n := 100) (by decide)) ?_
  intro rhNc0 I hshNc0 hNc0
  try replace hNo := hNo.up hshNc0
  try replace hNv := hNv.up hshNc0
  try replace hNn := hNn.up hshNc0
  repeat (first | refine SeqS.go cok ?_ | refine CondS.f rfl ?_ | (refine CondS.keep ?_; first | refine CondS.d0 rfl (by omega) ?_))
  refine (zF hNo h3).mono ?_
  rintro r _ - ⟨rfl, rfl⟩
  repeat (first | refine SeqS.go cok ?_ | refine CondS.t rfl ?_)
  refine (zF hNv h5).mono ?_
  rintro r _ - ⟨rfl, rfl⟩
  repeat (first | refine SeqS.go cok ?_ | refine CondS.f rfl ?_)
  refine (zF hNn h6).mono ?_
  rintro r _ - ⟨rfl, rfl⟩
  repeat (first | refine SeqS.go cok ?_ | refine CondS.f rfl ?_)
  refine (nCmpZ hNn hNo h4).mono ?_
  rintro r _ - ⟨rfl, z2, hz2, ha2, hb2, rfl⟩
  repeat (first | refine SeqS.go cok ?_ | (refine CondS.keep ?_; first | refine CondS.d0 rfl (by omega) ?_))
  exact Fin.same ⟨rfl, _, _, _, rfl, hNc0, NatI.zero _, NatI.zero _⟩
theorem sstD5true {I : Ent → Prop} {G : List Ent} {ov vv nv : Value} {o v n : Nat} (hNo : NatI I ov o) (hNv : NatI I vv v) (hNn : NatI I nv n) (h1 : n ≠ v) (h2 : v ≠ o) (h3 : o ≠ 0) (h5 : v ≠ 0) (h6 : n ≠ 0) (h4 : n ≠ o) :
    CallG Hvaf.prog 404 #[ov, vv, nv, .bool true] ⟨I, G⟩ (SstP G (100 + 2100, 0, 0)) := by
  refine CallG.start (C := mkC Hvaf.prog) cok (args := [ov, vv, nv, .bool true]) Hvaf.func404 rfl Hvaf.ntmps404 (by simp) (by kernel_rfl) ?_
  repeat (first | refine SeqS.go cok ?_)
  refine (nCmpZ hNn hNv h1).mono ?_
  rintro r _ - ⟨rfl, z0, hz0, ha0, hb0, rfl⟩
  repeat (first | refine SeqS.go cok ?_)
  refine (nCmpZ hNv hNo h2).mono ?_
  rintro r _ - ⟨rfl, z1, hz1, ha1, hb1, rfl⟩
  repeat (first | refine SeqS.go cok ?_ | refine GuardS.yes rfl ?_ | (refine GuardS.keep ?_; first | refine GuardS.F0 rfl (by omega) ?_) | (refine CondS.keep ?_; first | refine CondS.nd1 rfl (by omega) ?_))
  refine callN (yNum (n := 100) (by decide)) ?_
  intro rhNc0 I hshNc0 hNc0
  try replace hNo := hNo.up hshNc0
  try replace hNv := hNv.up hshNc0
  try replace hNn := hNn.up hshNc0
  repeat (first | refine SeqS.go cok ?_ | refine CondS.t rfl ?_)
  refine callN (yNum (n := 2100) (by decide)) ?_
  intro rhNc1 I hshNc1 hNc1
  try replace hNo := hNo.up hshNc1
  try replace hNv := hNv.up hshNc1
  try replace hNn := hNn.up hshNc1
  try replace hNc0 := hNc0.up hshNc1
  skip
  refine callN (nAdd hNc0 hNc1 (by decide +kernel)) ?_
  intro rhNc2 I hshNc2 hNc2
  try replace hNo := hNo.up hshNc2
  try replace hNv := hNv.up hshNc2
  try replace hNn := hNn.up hshNc2
  try replace hNc0 := hNc0.up hshNc2
  try replace hNc1 := hNc1.up hshNc2
  repeat (first | refine SeqS.go cok ?_ | (refine CondS.keep ?_; first | refine CondS.d0 rfl (by omega) ?_))
  refine (zF hNo h3).mono ?_
  rintro r _ - ⟨rfl, rfl⟩
  repeat (first | refine SeqS.go cok ?_ | refine CondS.t rfl ?_)
  refine (zF hNv h5).mono ?_
  rintro r _ - ⟨rfl, rfl⟩
  repeat (first | refine SeqS.go cok ?_ | refine CondS.f rfl ?_)
  refine (zF hNn h6).mono ?_
  rintro r _ - ⟨rfl, rfl⟩
  repeat (first | refine SeqS.go cok ?_ | refine CondS.f rfl ?_)
  refine (nCmpZ hNn hNo h4).mono ?_
  rintro r _ - ⟨rfl, z2, hz2, ha2, hb2, rfl⟩
  repeat (first | refine SeqS.go cok ?_ | (refine CondS.keep ?_; first | refine CondS.d0 rfl (by omega) ?_))
  exact Fin.same ⟨rfl, _, _, _, rfl, hNc2, NatI.zero _, NatI.zero _⟩
/-- yp.Sstore -/
theorem ySstore {I : Ent → Prop} {G : List Ent} {ov vv nv : Value} {o v n : Nat} {cold : Bool} (hNo : NatI I ov o) (hNv : NatI I vv v) (hNn : NatI I nv n) :
    CallG Hvaf.prog 404 #[ov, vv, nv, .bool cold] ⟨I, G⟩ (SstP G (sstN o v n cold)) := by
  have key : ∀ t t' : Nat × Nat × Nat, t = t' → CallG Hvaf.prog 404 #[ov, vv, nv, .bool cold] ⟨I, G⟩ (SstP G t) → CallG Hvaf.prog 404 #[ov, vv, nv, .bool cold] ⟨I, G⟩ (SstP G t') := fun t t' h k => h ▸ k
  by_cases h1 : n = v
  · by_cases h2 : v = o
    · cases cold
      · exact key _ _ (by simp [sstN, h1]) (sstA1false hNo hNv hNn h1 h2)
      · exact key _ _ (by simp [sstN, h1]) (sstA1true hNo hNv hNn h1 h2)
    · cases cold
      · exact key _ _ (by simp [sstN, h1]) (sstA2false hNo hNv hNn h1 h2)
      · exact key _ _ (by simp [sstN, h1]) (sstA2true hNo hNv hNn h1 h2)
  · by_cases h2 : v = o
    · by_cases h3 : o = 0
      · cases cold
        · exact key _ _ (by simp [sstN, h1, h2, h3]; omega) (sstB1false hNo hNv hNn h1 h2 h3)
        · exact key _ _ (by simp [sstN, h1, h2, h3]; omega) (sstB1true hNo hNv hNn h1 h2 h3)
      · by_cases h4 : n = 0
        · cases cold
          · exact key _ _ (by unfold sstN; rw [if_neg h1, if_pos h2, if_neg h3, if_neg h1, if_pos h2, if_neg h3, if_pos h4, if_neg h1, if_pos h2]; rfl) (sstB2false hNo hNv hNn h1 h2 h3 h4)
          · exact key _ _ (by unfold sstN; rw [if_neg h1, if_pos h2, if_neg h3, if_neg h1, if_pos h2, if_neg h3, if_pos h4, if_neg h1, if_pos h2]; rfl) (sstB2true hNo hNv hNn h1 h2 h3 h4)
        · cases cold
          · exact key _ _ (by unfold sstN; rw [if_neg h1, if_pos h2, if_neg h3, if_neg h1, if_pos h2, if_neg h3, if_neg h4, if_neg h1, if_pos h2]; rfl) (sstB3false hNo hNv hNn h1 h2 h3 h4)
          · exact key _ _ (by unfold sstN; rw [if_neg h1, if_pos h2, if_neg h3, if_neg h1, if_pos h2, if_neg h3, if_neg h4, if_neg h1, if_pos h2]; rfl) (sstB3true hNo hNv hNn h1 h2 h3 h4)
    · have e1 : ∀ (x y : Nat), (if n = v then x else y) = y := fun x y => if_neg h1
      have e2 : ∀ (x y : Nat), (if v = o then x else y) = y := fun x y => if_neg h2
      by_cases h3 : o = 0
      · by_cases h4 : n = o
        · cases cold
          · exact key _ _ (by unfold sstN; simp only [e1, e2, if_pos h3, if_pos h4]; rfl) (sstC1false hNo hNv hNn h1 h2 h3 h4)
          · exact key _ _ (by unfold sstN; simp only [e1, e2, if_pos h3, if_pos h4]; rfl) (sstC1true hNo hNv hNn h1 h2 h3 h4)
        · cases cold
          · exact key _ _ (by unfold sstN; simp only [e1, e2, if_pos h3, if_neg h4]; rfl) (sstC2false hNo hNv hNn h1 h2 h3 h4)
          · exact key _ _ (by unfold sstN; simp only [e1, e2, if_pos h3, if_neg h4]; rfl) (sstC2true hNo hNv hNn h1 h2 h3 h4)
      · by_cases h5 : v = 0
        · by_cases h4 : n = o
          · cases cold
            · exact key _ _ (by unfold sstN; simp only [e1, e2, if_neg h3, if_pos h5, if_pos h4]; rfl) (sstD1false hNo hNv hNn h1 h2 h3 h5 h4)
            · exact key _ _ (by unfold sstN; simp only [e1, e2, if_neg h3, if_pos h5, if_pos h4]; rfl) (sstD1true hNo hNv hNn h1 h2 h3 h5 h4)
          · cases cold
            · exact key _ _ (by unfold sstN; simp only [e1, e2, if_neg h3, if_pos h5, if_neg h4]; rfl) (sstD2false hNo hNv hNn h1 h2 h3 h5 h4)
            · exact key _ _ (by unfold sstN; simp only [e1, e2, if_neg h3, if_pos h5, if_neg h4]; rfl) (sstD2true hNo hNv hNn h1 h2 h3 h5 h4)
        · by_cases h6 : n = 0
          · have h4 : n ≠ o := by omega
            cases cold
            · exact key _ _ (by unfold sstN; simp only [e1, e2, if_neg h3, if_neg h5, if_pos h6, if_neg h4]; rfl) (sstD3false hNo hNv hNn h1 h2 h3 h5 h6 h4)
            · exact key _ _ (by unfold sstN; simp only [e1, e2, if_neg h3, if_neg h5, if_pos h6, if_neg h4]; rfl) (sstD3true hNo hNv hNn h1 h2 h3 h5 h6 h4)
          · by_cases h4 : n = o
            · cases cold
              · exact key _ _ (by unfold sstN; simp only [e1, e2, if_neg h3, if_neg h5, if_neg h6, if_pos h4]; rfl) (sstD4false hNo hNv hNn h1 h2 h3 h5 h6 h4)
              · exact key _ _ (by unfold sstN; simp only [e1, e2, if_neg h3, if_neg h5, if_neg h6, if_pos h4]; rfl) (sstD4true hNo hNv hNn h1 h2 h3 h5 h6 h4)
            · cases cold
              · exact key _ _ (by unfold sstN; simp only [e1, e2, if_neg h3, if_neg h5, if_neg h6, if_neg h4]; rfl) (sstD5false hNo hNv hNn h1 h2 h3 h5 h6 h4)
              · exact key _ _ (by unfold sstN; simp only [e1, e2, if_neg h3, if_neg h5, if_neg h6, if_neg h4]; rfl) (sstD5true hNo hNv hNn h1 h2 h3 h5 h6 h4)
end Go.Proofs.YgvafwGreat
