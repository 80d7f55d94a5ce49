import Derived.Test.YgvafwGreatNat12
import Derived.Test.YgvafwGreatHR
import Derived.Test.YgvafwGreatNum3
set_option maxRecDepth 100000
set_option maxHeartbeats 4000000
set_option linter.unusedVariables false
set_option linter.unusedSimpArgs false
-- v2
namespace Go.Proofs.YgvafwGreat
open Go.HL Go.Proofs

theorem _root_.Go.HL.NatI.up {I J : Ent → Prop} {v : Value} {n : Nat} (h : NatI I v n) (hs : Sub I J) : NatI J v n := h.mono hs
theorem callN {P : Program} {f : FuncId} {args : Array Value} {I : Ent → Prop} {G : List Ent} {n : Nat} {K : Post} (h : CallG P f args ⟨I, G⟩ fun r S' => S'.G = G ∧ NatI S'.I r n)
    (k : ∀ r J, Sub I J → NatI J r n → K r ⟨J, G⟩) : CallG P f args ⟨I, G⟩ K := by
  refine h.mono ?_
  rintro r ⟨J, G'⟩ hs ⟨h1, h2⟩
  dsimp only at h1 hs h2
  subst h1
  exact k r J hs h2
theorem _root_.Go.HL.NatI.lt {I : Ent → Prop} {v : Value} {n : Nat} (h : NatI I v n) : n < NB := by
  obtain ⟨ds, a, b, c, d⟩ := h
  subst c
  exact Nat.lt_of_lt_of_le (val_lt ds a.1) (Nat.pow_le_pow_right (by decide) d)

theorem nAdd {I : Ent → Prop} {G : List Ent} {v u : Value} {a b : Nat} (h : NatI I v a) (h' : NatI I u b) (hv : a + b < NB) :
    CallG Hvaf.prog 44 #[v, u] ⟨I, G⟩ fun r S' => S'.G = G ∧ NatI S'.I r (a + b) := by
  obtain ⟨da, h1, h2, h3, h4⟩ := h.byt G
  obtain ⟨db, k1, k2, k3, k4⟩ := h'.byt G
  subst h3; subst k3
  exact Add_byt h1 k1 (by omega) (by omega) hv
theorem nMul {I : Ent → Prop} {G : List Ent} {v u : Value} {a b : Nat} (h : NatI I v a) (h' : NatI I u b) (hv : a * b < NB) :
    CallG Hvaf.prog 60 #[v, u] ⟨I, G⟩ fun r S' => S'.G = G ∧ NatI S'.I r (a * b) := by
  obtain ⟨da, h1, h2, h3, h4⟩ := h.byt G
  obtain ⟨db, k1, k2, k3, k4⟩ := h'.byt G
  subst h3; subst k3
  exact Mul_byt h1 k1 (by omega) (by omega) hv
theorem nCmp {I : Ent → Prop} {G : List Ent} {v u : Value} {a b : Nat} (h : NatI I v a) (h' : NatI I u b) :
    CallG Hvaf.prog 131 #[v, u] ⟨I, G⟩ fun r S' => ⟨I, G⟩ = S' ∧ r = .int .i8 (cmpI a b) := by
  obtain ⟨da, h1, h2, h3, h4⟩ := h.byt G
  obtain ⟨db, k1, k2, k3, k4⟩ := h'.byt G
  subst h3; subst k3
  exact Cmp_byt h1 k1
theorem nCmpL {I : Ent → Prop} {G : List Ent} {v u : Value} {a b : Nat} (h : NatI I v a) (h' : NatI I u b) (hab : a < b) :
    CallG Hvaf.prog 131 #[v, u] ⟨I, G⟩ fun r S' => ⟨I, G⟩ = S' ∧ r = .int .i8 (-1) := by
  have := nCmp (G := G) h h'; rwa [cmpI, if_pos hab] at this
theorem nCmpE {I : Ent → Prop} {G : List Ent} {v u : Value} {a b : Nat} (h : NatI I v a) (h' : NatI I u b) (hab : a = b) :
    CallG Hvaf.prog 131 #[v, u] ⟨I, G⟩ fun r S' => ⟨I, G⟩ = S' ∧ r = .int .i8 0 := by
  have := nCmp (G := G) h h'; rwa [cmpI, if_neg (by omega), if_neg (by omega)] at this
theorem nCmpG {I : Ent → Prop} {G : List Ent} {v u : Value} {a b : Nat} (h : NatI I v a) (h' : NatI I u b) (hab : b < a) :
    CallG Hvaf.prog 131 #[v, u] ⟨I, G⟩ fun r S' => ⟨I, G⟩ = S' ∧ r = .int .i8 1 := by
  have := nCmp (G := G) h h'; rwa [cmpI, if_neg (by omega), if_pos hab] at this
theorem nSub {I : Ent → Prop} {G : List Ent} {v u : Value} {a b : Nat} (h : NatI I v a) (h' : NatI I u b) :
    CallG Hvaf.prog 135 #[v, u] ⟨I, G⟩ fun r S' => S'.G = G ∧ ∃ w, r = .tuple #[w, .bool (decide (b ≤ a))] ∧ NatI S'.I w (a - b) := by
  have hlt := h.lt
  obtain ⟨da, h1, h2, h3, h4⟩ := h.byt G
  obtain ⟨db, k1, k2, k3, k4⟩ := h'.byt G
  subst h3; subst k3
  exact Sub_byt h1 k1 (by omega) hlt
theorem nDivMod {I : Ent → Prop} {G : List Ent} {v u : Value} {a b : Nat} (h : NatI I v a) (h' : NatI I u b) :
    CallG Hvaf.prog 165 #[v, u] ⟨I, G⟩ fun r S' => S'.G = G ∧ ∃ q m, r = .tuple #[q, m, .bool (decide (b ≠ 0))] ∧ NatI S'.I q (a / b) ∧ NatI S'.I m (if b = 0 then 0 else a % b) := by
  have hlt := h.lt
  have hlt' := h'.lt
  obtain ⟨da, h1, h2, h3, h4⟩ := h.byt G
  obtain ⟨db, k1, k2, k3, k4⟩ := h'.byt G
  subst h3; subst k3
  exact DivMod_byt h1 k1 (by omega) (by omega) hlt hlt'
theorem nU64 {I : Ent → Prop} {G : List Ent} {v : Value} {a : Nat} (h : NatI I v a) :
    CallG Hvaf.prog 90 #[v] ⟨I, G⟩ fun r S' => ⟨I, G⟩ = S' ∧ r = .tuple #[.int .u64 ((if a < 2 ^ 64 then a else 0 : Nat) : Int), .bool (decide (a < 2 ^ 64))] := by
  obtain ⟨da, h1, h2, h3, h4⟩ := h.byt G
  subst h3
  exact U64_byt h1
theorem nBE32 {I : Ent → Prop} {G : List Ent} {v : Value} {a : Nat} (h : NatI I v a) :
    CallG Hvaf.prog 91 #[v] ⟨I, G⟩ fun r S' => ⟨I, G⟩ = S' ∧ r = .tuple #[bytesV (if a < 2 ^ 256 then be32 a else List.replicate 32 0), .bool (decide (a < 2 ^ 256))] := by
  obtain ⟨da, h1, h2, h3, h4⟩ := h.byt G
  subst h3
  exact BE32_byt h1
theorem nBit {I : Ent → Prop} {G : List Ent} {v : Value} {a i : Nat} (h : NatI I v a) (hi : i < 65536) :
    CallG Hvaf.prog 340 #[v, .int .u16 (i : Nat)] ⟨I, G⟩ fun r S' => ⟨I, G⟩ = S' ∧ r = .bool (a.testBit i) := by
  obtain ⟨da, h1, h2, h3, h4⟩ := h.byt G
  subst h3
  exact Bit_byt h1 hi
theorem nNorm {I : Ent → Prop} {G : List Ent} {v : Value} {a : Nat} (h : NatI I v a) :
    CallG Hvaf.prog 133 #[v] ⟨I, G⟩ fun r S' => S'.G = G ∧ NatI S'.I r a := by
  have hlt := h.lt
  obtain ⟨da, h1, h2, h3, h4⟩ := h.byt G
  subst h3
  exact Norm_spec h1 hlt

/-- yp.num -/
theorem yNum {I : Ent → Prop} {G : List Ent} {n : Nat} (hn : n < 18446744073709551616) :
    CallG Hvaf.prog 42 #[.int .u64 (n : Nat)] ⟨I, G⟩ fun r S' => S'.G = G ∧ NatI S'.I r n := by
  refine CallG.start (C := mkC Hvaf.prog) cok (args := [.int .u64 (n : Nat)]) Hvaf.func42 rfl Hvaf.ntmps42 (by simp) (by kernel_rfl) ?_
  repeat (first | refine SeqS.go cok ?_)
  refine callN (FromU64_spec (S := ⟨I, G⟩) (n := n) hn) ?_
  intro rhN1 I hshN1 hN1
  repeat (first | refine SeqS.go cok ?_)
  exact Fin.same ⟨rfl, hN1⟩
/-- yp.isZero -/
theorem yIsZero {I : Ent → Prop} {G : List Ent} {v : Value} {n : Nat} (hN : NatI I v n) :
    CallG Hvaf.prog 89 #[v] ⟨I, G⟩ fun r S' => ⟨I, G⟩ = S' ∧ r = .bool (decide (n = 0)) := by
  by_cases h : n = 0
  · refine CallG.start (C := mkC Hvaf.prog) cok (args := [v]) Hvaf.func89 rfl Hvaf.ntmps89 (by simp) (by kernel_rfl) ?_
    repeat (first | refine SeqS.go cok ?_)
    refine (nCmpE hN (NatI.zero I) h).mono ?_
    rintro r _ - ⟨rfl, rfl⟩
    repeat (first | refine SeqS.go cok ?_)
    exact Fin.same ⟨rfl, by rw [decide_eq_true h]; rfl⟩
  · refine CallG.start (C := mkC Hvaf.prog) cok (args := [v]) Hvaf.func89 rfl Hvaf.ntmps89 (by simp) (by kernel_rfl) ?_
    repeat (first | refine SeqS.go cok ?_)
    refine (nCmpG hN (NatI.zero I) (by omega)).mono ?_
    rintro r _ - ⟨rfl, rfl⟩
    repeat (first | refine SeqS.go cok ?_)
    exact Fin.same ⟨rfl, by rw [decide_eq_false h]; rfl⟩
/-- yp.minNat -/
theorem yMin {I : Ent → Prop} {G : List Ent} {v u : Value} {a b : Nat} (hN : NatI I v a) (hN2 : NatI I u b) :
    CallG Hvaf.prog 78 #[v, u] ⟨I, G⟩ fun r S' => S'.G = G ∧ NatI S'.I r (min a b) := by
  rcases Nat.lt_trichotomy a b with h | h | h
  · refine CallG.start (C := mkC Hvaf.prog) cok (args := [v, u]) Hvaf.func78 rfl Hvaf.ntmps78 (by simp) (by kernel_rfl) ?_
    repeat (first | refine SeqS.go cok ?_)
    refine (nCmpL hN hN2 h).mono ?_
    rintro r _ - ⟨rfl, rfl⟩
    repeat (first | refine SeqS.go cok ?_ | refine CondS.t rfl ?_)
    exact Fin.same ⟨rfl, by rw [Nat.min_eq_left (by omega)]; exact hN⟩
  · refine CallG.start (C := mkC Hvaf.prog) cok (args := [v, u]) Hvaf.func78 rfl Hvaf.ntmps78 (by simp) (by kernel_rfl) ?_
    repeat (first | refine SeqS.go cok ?_)
    refine (nCmpE hN hN2 h).mono ?_
    rintro r _ - ⟨rfl, rfl⟩
    repeat (first | refine SeqS.go cok ?_ | refine CondS.f rfl ?_)
    exact Fin.same ⟨rfl, by rw [Nat.min_eq_right (by omega)]; exact hN2⟩
  · refine CallG.start (C := mkC Hvaf.prog) cok (args := [v, u]) Hvaf.func78 rfl Hvaf.ntmps78 (by simp) (by kernel_rfl) ?_
    repeat (first | refine SeqS.go cok ?_)
    refine (nCmpG hN hN2 h).mono ?_
    rintro r _ - ⟨rfl, rfl⟩
    repeat (first | refine SeqS.go cok ?_ | refine CondS.f rfl ?_)
    exact Fin.same ⟨rfl, by rw [Nat.min_eq_right (by omega)]; exact hN2⟩
/-- yp.maxNat -/
theorem yMax {I : Ent → Prop} {G : List Ent} {v u : Value} {a b : Nat} (hN : NatI I v a) (hN2 : NatI I u b) :
    CallG Hvaf.prog 155 #[v, u] ⟨I, G⟩ fun r S' => S'.G = G ∧ NatI S'.I r (max a b) := by
  rcases Nat.lt_trichotomy a b with h | h | h
  · refine CallG.start (C := mkC Hvaf.prog) cok (args := [v, u]) Hvaf.func155 rfl Hvaf.ntmps155 (by simp) (by kernel_rfl) ?_
    repeat (first | refine SeqS.go cok ?_)
    refine (nCmpL hN hN2 h).mono ?_
    rintro r _ - ⟨rfl, rfl⟩
    repeat (first | refine SeqS.go cok ?_ | refine CondS.f rfl ?_)
    exact Fin.same ⟨rfl, by rw [Nat.max_eq_right (by omega)]; exact hN2⟩
  · refine CallG.start (C := mkC Hvaf.prog) cok (args := [v, u]) Hvaf.func155 rfl Hvaf.ntmps155 (by simp) (by kernel_rfl) ?_
    repeat (first | refine SeqS.go cok ?_)
    refine (nCmpE hN hN2 h).mono ?_
    rintro r _ - ⟨rfl, rfl⟩
    repeat (first | refine SeqS.go cok ?_ | refine CondS.f rfl ?_)
    exact Fin.same ⟨rfl, by rw [Nat.max_eq_right (by omega)]; exact hN2⟩
  · refine CallG.start (C := mkC Hvaf.prog) cok (args := [v, u]) Hvaf.func155 rfl Hvaf.ntmps155 (by simp) (by kernel_rfl) ?_
    repeat (first | refine SeqS.go cok ?_)
    refine (nCmpG hN hN2 h).mono ?_
    rintro r _ - ⟨rfl, rfl⟩
    repeat (first | refine SeqS.go cok ?_ | refine CondS.t rfl ?_)
    exact Fin.same ⟨rfl, by rw [Nat.max_eq_left (by omega)]; exact hN⟩
/-- yp.less -/
theorem yLess {I : Ent → Prop} {G : List Ent} {v u : Value} {a b : Nat} (hN : NatI I v a) (hN2 : NatI I u b) :
    CallG Hvaf.prog 55 #[v, u] ⟨I, G⟩ fun r S' => S'.G = G ∧ NatI S'.I r (a - b) := by
  refine CallG.start (C := mkC Hvaf.prog) cok (args := [v, u]) Hvaf.func55 rfl Hvaf.ntmps55 (by simp) (by kernel_rfl) ?_
  repeat (first | refine SeqS.go cok ?_)
  refine (nSub hN hN2).mono ?_
  rintro r ⟨J, G'⟩ hs ⟨rfl, w, rfl, hw⟩
  repeat (first | refine SeqS.go cok ?_)
  exact Fin.same ⟨rfl, hw⟩
/-- yp.divided -/
theorem yDivided {I : Ent → Prop} {G : List Ent} {v : Value} {a b : Nat} (hN : NatI I v a) (hb : b < 18446744073709551616) :
    CallG Hvaf.prog 79 #[v, .int .u64 (b : Nat)] ⟨I, G⟩ fun r S' => S'.G = G ∧ NatI S'.I r (a / b) := by
  refine CallG.start (C := mkC Hvaf.prog) cok (args := [v, .int .u64 (b : Nat)]) Hvaf.func79 rfl Hvaf.ntmps79 (by simp) (by kernel_rfl) ?_
  repeat (first | refine SeqS.go cok ?_)
  refine callN (yNum hb) ?_
  intro rhN1 I hshN1 hN1
  try replace hN := hN.up hshN1
  skip
  refine (nDivMod hN hN1).mono ?_
  rintro r ⟨J, G'⟩ hs ⟨rfl, q, m, rfl, hq, hm⟩
  repeat (first | refine SeqS.go cok ?_)
  exact Fin.same ⟨rfl, hq⟩
theorem NB_big {n : Nat} (h : n < 115792089237316195423570985008687907853269984665640564039457584007913129639936 * 115792089237316195423570985008687907853269984665640564039457584007913129639936) : n < NB := Nat.lt_of_lt_of_le h (by decide +kernel)
/-- yp.words -/
theorem yWords {I : Ent → Prop} {G : List Ent} {v : Value} {n : Nat} (hN : NatI I v n) (hn : n + 31 < NB) :
    CallG Hvaf.prog 136 #[v] ⟨I, G⟩ fun r S' => S'.G = G ∧ NatI S'.I r ((n + 31) / 32) := by
  refine CallG.start (C := mkC Hvaf.prog) cok (args := [v]) Hvaf.func136 rfl Hvaf.ntmps136 (by simp) (by kernel_rfl) ?_
  repeat (first | refine SeqS.go cok ?_)
  refine callN (yNum (n := 31) (by decide)) ?_
  intro rhN1 I hshN1 hN1
  try replace hN := hN.up hshN1
  skip
  refine callN (nAdd hN hN1 hn) ?_
  intro rhN2 I hshN2 hN2
  try replace hN := hN.up hshN2
  try replace hN1 := hN1.up hshN2
  skip
  refine callN (yDivided (b := 32) hN2 (by decide)) ?_
  intro rhN3 I hshN3 hN3
  try replace hN := hN.up hshN3
  try replace hN1 := hN1.up hshN3
  try replace hN2 := hN2.up hshN3
  repeat (first | refine SeqS.go cok ?_)
  exact Fin.same ⟨rfl, hN3⟩
/-- What w words of memory cost. -/
def memC (w : Nat) : Nat := 3 * w + w * w / 512
/-- yp.MemCost -/
theorem yMemCost {I : Ent → Prop} {G : List Ent} {v : Value} {w : Nat} (hN : NatI I v w) (h : 3 * w + w * w < NB) :
    CallG Hvaf.prog 234 #[v] ⟨I, G⟩ fun r S' => S'.G = G ∧ NatI S'.I r (memC w) := by
  have hd := Nat.div_le_self (w * w) 512
  refine CallG.start (C := mkC Hvaf.prog) cok (args := [v]) Hvaf.func234 rfl Hvaf.ntmps234 (by simp) (by kernel_rfl) ?_
  repeat (first | refine SeqS.go cok ?_)
  refine callN (yNum (n := 3) (by decide)) ?_
  intro rhN1 I hshN1 hN1
  try replace hN := hN.up hshN1
  skip
  refine callN (nMul hN1 hN (by omega)) ?_
  intro rhN2 I hshN2 hN2
  try replace hN := hN.up hshN2
  try replace hN1 := hN1.up hshN2
  skip
  refine callN (nMul hN hN (by omega)) ?_
  intro rhN3 I hshN3 hN3
  try replace hN := hN.up hshN3
  try replace hN1 := hN1.up hshN3
  try replace hN2 := hN2.up hshN3
  skip
  refine callN (yDivided (b := 512) hN3 (by decide)) ?_
  intro rhN4 I hshN4 hN4
  try replace hN := hN.up hshN4
  try replace hN1 := hN1.up hshN4
  try replace hN2 := hN2.up hshN4
  try replace hN3 := hN3.up hshN4
  skip
  refine callN (nAdd hN2 hN4 (by omega)) ?_
  intro rhN5 I hshN5 hN5
  try replace hN := hN.up hshN5
  try replace hN1 := hN1.up hshN5
  try replace hN2 := hN2.up hshN5
  try replace hN3 := hN3.up hshN5
  try replace hN4 := hN4.up hshN5
  repeat (first | refine SeqS.go cok ?_)
  exact Fin.same ⟨rfl, hN5⟩
/-- yp.CopyCost -/
theorem yCopyCost {I : Ent → Prop} {G : List Ent} {v : Value} {n : Nat} (hN : NatI I v n) (h : 3 * (n + 31) < NB) :
    CallG Hvaf.prog 342 #[v] ⟨I, G⟩ fun r S' => S'.G = G ∧ NatI S'.I r (3 * ((n + 31) / 32)) := by
  have hd := Nat.div_le_self (n + 31) 32
  refine CallG.start (C := mkC Hvaf.prog) cok (args := [v]) Hvaf.func342 rfl Hvaf.ntmps342 (by simp) (by kernel_rfl) ?_
  repeat (first | refine SeqS.go cok ?_)
  refine callN (yNum (n := 3) (by decide)) ?_
  intro rhN1 I hshN1 hN1
  try replace hN := hN.up hshN1
  skip
  refine callN (yWords hN (by omega)) ?_
  intro rhN2 I hshN2 hN2
  try replace hN := hN.up hshN2
  try replace hN1 := hN1.up hshN2
  skip
  refine callN (nMul hN1 hN2 (by omega)) ?_
  intro rhN3 I hshN3 hN3
  try replace hN := hN.up hshN3
  try replace hN1 := hN1.up hshN3
  try replace hN2 := hN2.up hshN3
  repeat (first | refine SeqS.go cok ?_)
  exact Fin.same ⟨rfl, hN3⟩
/-- yp.end -/
theorem yEnd {I : Ent → Prop} {G : List Ent} {v u : Value} {a n : Nat} (hN : NatI I v a) (hN2 : NatI I u n) (h : a + n < NB) :
    CallG Hvaf.prog 154 #[v, u] ⟨I, G⟩ fun r S' => S'.G = G ∧ NatI S'.I r (if n = 0 then 0 else a + n) := by
  by_cases h0 : n = 0
  · rw [if_pos h0]
    refine CallG.start (C := mkC Hvaf.prog) cok (args := [v, u]) Hvaf.func154 rfl Hvaf.ntmps154 (by simp) (by kernel_rfl) ?_
    repeat (first | refine SeqS.go cok ?_)
    refine (yIsZero hN2).mono ?_
    rw [decide_eq_true h0]
    rintro r _ - ⟨rfl, rfl⟩
    repeat (first | refine SeqS.go cok ?_ | refine CondS.t rfl ?_)
    exact Fin.same ⟨rfl, NatI.zero _⟩
  · rw [if_neg h0]
    refine CallG.start (C := mkC Hvaf.prog) cok (args := [v, u]) Hvaf.func154 rfl Hvaf.ntmps154 (by simp) (by kernel_rfl) ?_
    repeat (first | refine SeqS.go cok ?_)
    refine (yIsZero hN2).mono ?_
    rw [decide_eq_false h0]
    rintro r _ - ⟨rfl, rfl⟩
    repeat (first | refine SeqS.go cok ?_ | refine CondS.f rfl ?_)
    refine callN (nAdd hN hN2 h) ?_
    intro rhN3 I hshN3 hN3
    try replace hN := hN.up hshN3
    try replace hN2 := hN2.up hshN3
    repeat (first | refine SeqS.go cok ?_)
    exact Fin.same ⟨rfl, hN3⟩
/-- yp.small -/
theorem ySmall {I : Ent → Prop} {G : List Ent} {v : Value} {n : Nat} (hN : NatI I v n) :
    CallG Hvaf.prog 34 #[v] ⟨I, G⟩ fun r S' => ⟨I, G⟩ = S' ∧ r = .int .u64 ((if n < 2 ^ 64 then n else 0 : Nat) : Int) := by
  refine CallG.start (C := mkC Hvaf.prog) cok (args := [v]) Hvaf.func34 rfl Hvaf.ntmps34 (by simp) (by kernel_rfl) ?_
  repeat (first | refine SeqS.go cok ?_)
  refine (nU64 hN).mono ?_
  rintro r _ - ⟨rfl, rfl⟩
  repeat (first | refine SeqS.go cok ?_)
  exact Fin.same ⟨rfl, rfl⟩
/-- yp.word -/
theorem yWord {I : Ent → Prop} {G : List Ent} {v : Value} {n : Nat} (hN : NatI I v n) (hn : n < 2 ^ 256) :
    CallG Hvaf.prog 35 #[v] ⟨I, G⟩ fun r S' => ⟨I, G⟩ = S' ∧ r = bytesV (be32 n) := by
  have h := fun G => nBE32 (G := G) hN
  simp only [if_pos hn] at h
  refine CallG.start (C := mkC Hvaf.prog) cok (args := [v]) Hvaf.func35 rfl Hvaf.ntmps35 (by simp) (by kernel_rfl) ?_
  skip
  intro b
  repeat (first | refine SeqS.go cok ?_)
  refine (h _).mono ?_
  rintro r _ - ⟨rfl, rfl⟩
  skip
  intro b2
  repeat (first | refine SeqS.go cok ?_ | (refine QuG.keep ?_; first | refine QuG.lN cok 0 rfl rfl rfl rfl rfl (by first | exact Nat.le_of_ble_eq_true rfl | omega | (dsimp only; omega) | (simp only [addS_eq, mulS_eq]; omega)) ?_) | (refine LdG.keep ?_; first | refine LdG.lN cok 1 rfl rfl rfl rfl rfl (by first | exact Nat.le_of_ble_eq_true rfl | omega | (dsimp only; omega) | (simp only [addS_eq, mulS_eq]; omega)) ?_) | (refine OpG.keep ?_; first | refine OpG.sL cok 0 rfl rfl rfl rfl rfl rfl rfl (by first | exact Nat.le_of_ble_eq_true rfl | omega | (dsimp only; omega) | (simp only [addS_eq, mulS_eq]; omega)) ?_ | refine OpG.sL cok 1 rfl rfl rfl rfl rfl rfl rfl (by first | exact Nat.le_of_ble_eq_true rfl | omega | (dsimp only; omega) | (simp only [addS_eq, mulS_eq]; omega)) ?_))
  refine Fin.drop G [_, _] ?_
  exact ⟨rfl, rfl⟩
end Go.Proofs.YgvafwGreat
