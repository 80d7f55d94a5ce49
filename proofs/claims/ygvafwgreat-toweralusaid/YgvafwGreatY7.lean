import Derived.Test.YgvafwGreatY6
import Derived.Test.YgvafwGreatD14
set_option maxRecDepth 100000
set_option maxHeartbeats 4000000
set_option linter.unusedVariables false
set_option linter.unusedSimpArgs false
-- v2
namespace Go.Proofs.YgvafwGreat
open Go.HL Go.Proofs

theorem yAluAdd {I : Ent → Prop} {G : List Ent} {v u w : Value} {a b c : Nat} (hN : NatI I v a) (hN2 : NatI I u b) (hN3 : NatI I w c) (ha : a < 115792089237316195423570985008687907853269984665640564039457584007913129639936) (hb : b < 115792089237316195423570985008687907853269984665640564039457584007913129639936) :
    CallG Hvaf.prog 239 #[.int .u8 1, v, u, w] ⟨I, G⟩ fun r S' => S'.G = G ∧ NatI S'.I r ((a + b) % 2 ^ 256) := by
  have hsum : Hid (a + b < NB) := ⟨NB_big (Nat.lt_of_lt_of_le (Nat.add_lt_add ha hb) (by decide))⟩
  have hmul : Hid (a * b < NB) := ⟨NB_sq ha hb⟩
  replace ha : Hid _ := ⟨ha⟩
  replace hb : Hid _ := ⟨hb⟩
  refine CallG.start (C := mkC Hvaf.prog) cok (args := [.int .u8 1, v, u, w]) Hvaf.func239 rfl Hvaf.ntmps239 (by simp) (by kernel_rfl) ?_
  repeat (first | refine SeqS.go cok ?_ | refine CondS.t rfl ?_)
  refine callN (nAdd hN hN2 hsum.out) ?_
  intro rhN4 I hshN4 hN4
  try replace hN := hN.up hshN4
  try replace hN2 := hN2.up hshN4
  try replace hN3 := hN3.up hshN4
  skip
  refine callN (yWrapped hN4) ?_
  intro rhN5 I hshN5 hN5
  try replace hN := hN.up hshN5
  try replace hN2 := hN2.up hshN5
  try replace hN3 := hN3.up hshN5
  try replace hN4 := hN4.up hshN5
  repeat (first | refine SeqS.go cok ?_)
  exact Fin.same ⟨rfl, hN5⟩
theorem yAluMul {I : Ent → Prop} {G : List Ent} {v u w : Value} {a b c : Nat} (hN : NatI I v a) (hN2 : NatI I u b) (hN3 : NatI I w c) (ha : a < 115792089237316195423570985008687907853269984665640564039457584007913129639936) (hb : b < 115792089237316195423570985008687907853269984665640564039457584007913129639936) :
    CallG Hvaf.prog 239 #[.int .u8 2, v, u, w] ⟨I, G⟩ fun r S' => S'.G = G ∧ NatI S'.I r (a * b % 2 ^ 256) := by
  have hsum : Hid (a + b < NB) := ⟨NB_big (Nat.lt_of_lt_of_le (Nat.add_lt_add ha hb) (by decide))⟩
  have hmul : Hid (a * b < NB) := ⟨NB_sq ha hb⟩
  replace ha : Hid _ := ⟨ha⟩
  replace hb : Hid _ := ⟨hb⟩
  refine CallG.start (C := mkC Hvaf.prog) cok (args := [.int .u8 2, v, u, w]) Hvaf.func239 rfl Hvaf.ntmps239 (by simp) (by kernel_rfl) ?_
  repeat (first | refine SeqS.go cok ?_ | refine CondS.t rfl ?_ | refine CondS.f rfl ?_)
  refine callN (nMul hN hN2 hmul.out) ?_
  intro rhN4 I hshN4 hN4
  try replace hN := hN.up hshN4
  try replace hN2 := hN2.up hshN4
  try replace hN3 := hN3.up hshN4
  skip
  refine callN (yWrapped hN4) ?_
  intro rhN5 I hshN5 hN5
  try replace hN := hN.up hshN5
  try replace hN2 := hN2.up hshN5
  try replace hN3 := hN3.up hshN5
  try replace hN4 := hN4.up hshN5
  repeat (first | refine SeqS.go cok ?_)
  exact Fin.same ⟨rfl, hN5⟩
theorem yAluSub {I : Ent → Prop} {G : List Ent} {v u w : Value} {a b c : Nat} (hN : NatI I v a) (hN2 : NatI I u b) (hN3 : NatI I w c) (ha : a < 115792089237316195423570985008687907853269984665640564039457584007913129639936) (hb : b < 115792089237316195423570985008687907853269984665640564039457584007913129639936) :
    CallG Hvaf.prog 239 #[.int .u8 3, v, u, w] ⟨I, G⟩ fun r S' => S'.G = G ∧ NatI S'.I r ((a + (2 ^ 256 - b) % 2 ^ 256) % 2 ^ 256) := by
  have hneg : Hid (a + (2 ^ 256 - b) % 2 ^ 256 < NB) := ⟨NB_big (Nat.lt_of_lt_of_le (Nat.add_lt_add ha (Nat.mod_lt _ (by decide))) (by decide))⟩
  have hsum : Hid (a + b < NB) := ⟨NB_big (Nat.lt_of_lt_of_le (Nat.add_lt_add ha hb) (by decide))⟩
  have hmul : Hid (a * b < NB) := ⟨NB_sq ha hb⟩
  replace ha : Hid _ := ⟨ha⟩
  replace hb : Hid _ := ⟨hb⟩
  refine CallG.start (C := mkC Hvaf.prog) cok (args := [.int .u8 3, v, u, w]) Hvaf.func239 rfl Hvaf.ntmps239 (by simp) (by kernel_rfl) ?_
  repeat (first | refine SeqS.go cok ?_ | refine CondS.t rfl ?_ | refine CondS.f rfl ?_)
  refine callN (yNegated hN2) ?_
  intro rhN4 I hshN4 hN4
  try replace hN := hN.up hshN4
  try replace hN2 := hN2.up hshN4
  try replace hN3 := hN3.up hshN4
  skip
  refine callN (nAdd hN hN4 hneg.out) ?_
  intro rhN5 I hshN5 hN5
  try replace hN := hN.up hshN5
  try replace hN2 := hN2.up hshN5
  try replace hN3 := hN3.up hshN5
  try replace hN4 := hN4.up hshN5
  skip
  refine callN (yWrapped hN5) ?_
  intro rhN6 I hshN6 hN6
  try replace hN := hN.up hshN6
  try replace hN2 := hN2.up hshN6
  try replace hN3 := hN3.up hshN6
  try replace hN4 := hN4.up hshN6
  try replace hN5 := hN5.up hshN6
  repeat (first | refine SeqS.go cok ?_)
  exact Fin.same ⟨rfl, hN6⟩
theorem yAluDiv {I : Ent → Prop} {G : List Ent} {v u w : Value} {a b c : Nat} (hN : NatI I v a) (hN2 : NatI I u b) (hN3 : NatI I w c) (ha : a < 115792089237316195423570985008687907853269984665640564039457584007913129639936) (hb : b < 115792089237316195423570985008687907853269984665640564039457584007913129639936) :
    CallG Hvaf.prog 239 #[.int .u8 4, v, u, w] ⟨I, G⟩ fun r S' => S'.G = G ∧ NatI S'.I r (a / b) := by
  have hsum : Hid (a + b < NB) := ⟨NB_big (Nat.lt_of_lt_of_le (Nat.add_lt_add ha hb) (by decide))⟩
  have hmul : Hid (a * b < NB) := ⟨NB_sq ha hb⟩
  replace ha : Hid _ := ⟨ha⟩
  replace hb : Hid _ := ⟨hb⟩
  refine CallG.start (C := mkC Hvaf.prog) cok (args := [.int .u8 4, v, u, w]) Hvaf.func239 rfl Hvaf.ntmps239 (by simp) (by kernel_rfl) ?_
  repeat (first | refine SeqS.go cok ?_ | refine CondS.t rfl ?_ | refine CondS.f rfl ?_)
  refine callQ (nDivMod hN hN2) fun q m J hs hq hm => ?_
  repeat (first | refine SeqS.go cok ?_)
  exact Fin.same ⟨rfl, hq⟩
theorem yAluSDiv {I : Ent → Prop} {G : List Ent} {v u w : Value} {a b c : Nat} (hN : NatI I v a) (hN2 : NatI I u b) (hN3 : NatI I w c) (ha : a < 115792089237316195423570985008687907853269984665640564039457584007913129639936) (hb : b < 115792089237316195423570985008687907853269984665640564039457584007913129639936) :
    CallG Hvaf.prog 239 #[.int .u8 5, v, u, w] ⟨I, G⟩ fun r S' => S'.G = G ∧ NatI S'.I r (sgn (mag a / mag b) (a.testBit 255 != b.testBit 255)) := by
  have hsum : Hid (a + b < NB) := ⟨NB_big (Nat.lt_of_lt_of_le (Nat.add_lt_add ha hb) (by decide))⟩
  have hmul : Hid (a * b < NB) := ⟨NB_sq ha hb⟩
  replace ha : Hid _ := ⟨ha⟩
  replace hb : Hid _ := ⟨hb⟩
  refine CallG.start (C := mkC Hvaf.prog) cok (args := [.int .u8 5, v, u, w]) Hvaf.func239 rfl Hvaf.ntmps239 (by simp) (by kernel_rfl) ?_
  repeat (first | refine SeqS.go cok ?_ | refine CondS.t rfl ?_ | refine CondS.f rfl ?_)
  refine callN (yMagnitude hN) ?_
  intro rhN4 I hshN4 hN4
  try replace hN := hN.up hshN4
  try replace hN2 := hN2.up hshN4
  try replace hN3 := hN3.up hshN4
  skip
  refine callN (yMagnitude hN2) ?_
  intro rhN5 I hshN5 hN5
  try replace hN := hN.up hshN5
  try replace hN2 := hN2.up hshN5
  try replace hN3 := hN3.up hshN5
  try replace hN4 := hN4.up hshN5
  skip
  refine callQ (nDivMod hN4 hN5) fun q m J hs hq hm => ?_
  repeat (first | refine SeqS.go cok ?_)
  refine (yIsNeg (hN.up hs)).mono ?_
  rintro r _ - ⟨rfl, rfl⟩
  skip
  refine (yIsNeg (hN2.up hs)).mono ?_
  rintro r _ - ⟨rfl, rfl⟩
  repeat (first | (refine QuG.keep ?_; first | refine QuG.neB cok rfl rfl rfl rfl ?_))
  refine callN (yWithSign hq) fun r6 J6 hs6 hN6 => ?_
  repeat (first | refine SeqS.go cok ?_)
  exact Fin.same ⟨rfl, hN6⟩
theorem yAluMod {I : Ent → Prop} {G : List Ent} {v u w : Value} {a b c : Nat} (hN : NatI I v a) (hN2 : NatI I u b) (hN3 : NatI I w c) (ha : a < 115792089237316195423570985008687907853269984665640564039457584007913129639936) (hb : b < 115792089237316195423570985008687907853269984665640564039457584007913129639936) :
    CallG Hvaf.prog 239 #[.int .u8 6, v, u, w] ⟨I, G⟩ fun r S' => S'.G = G ∧ NatI S'.I r (modZ a b) := by
  have hsum : Hid (a + b < NB) := ⟨NB_big (Nat.lt_of_lt_of_le (Nat.add_lt_add ha hb) (by decide))⟩
  have hmul : Hid (a * b < NB) := ⟨NB_sq ha hb⟩
  replace ha : Hid _ := ⟨ha⟩
  replace hb : Hid _ := ⟨hb⟩
  refine CallG.start (C := mkC Hvaf.prog) cok (args := [.int .u8 6, v, u, w]) Hvaf.func239 rfl Hvaf.ntmps239 (by simp) (by kernel_rfl) ?_
  repeat (first | refine SeqS.go cok ?_ | refine CondS.t rfl ?_ | refine CondS.f rfl ?_)
  refine callQ (nDivMod hN hN2) fun q m J hs hq hm => ?_
  repeat (first | refine SeqS.go cok ?_)
  exact Fin.same ⟨rfl, hm⟩
theorem yAluSMod {I : Ent → Prop} {G : List Ent} {v u w : Value} {a b c : Nat} (hN : NatI I v a) (hN2 : NatI I u b) (hN3 : NatI I w c) (ha : a < 115792089237316195423570985008687907853269984665640564039457584007913129639936) (hb : b < 115792089237316195423570985008687907853269984665640564039457584007913129639936) :
    CallG Hvaf.prog 239 #[.int .u8 7, v, u, w] ⟨I, G⟩ fun r S' => S'.G = G ∧ NatI S'.I r (sgn (modZ (mag a) (mag b)) (a.testBit 255)) := by
  have hsum : Hid (a + b < NB) := ⟨NB_big (Nat.lt_of_lt_of_le (Nat.add_lt_add ha hb) (by decide))⟩
  have hmul : Hid (a * b < NB) := ⟨NB_sq ha hb⟩
  replace ha : Hid _ := ⟨ha⟩
  replace hb : Hid _ := ⟨hb⟩
  refine CallG.start (C := mkC Hvaf.prog) cok (args := [.int .u8 7, v, u, w]) Hvaf.func239 rfl Hvaf.ntmps239 (by simp) (by kernel_rfl) ?_
  repeat (first | refine SeqS.go cok ?_ | refine CondS.t rfl ?_ | refine CondS.f rfl ?_)
  refine callN (yMagnitude hN) ?_
  intro rhN4 I hshN4 hN4
  try replace hN := hN.up hshN4
  try replace hN2 := hN2.up hshN4
  try replace hN3 := hN3.up hshN4
  skip
  refine callN (yMagnitude hN2) ?_
  intro rhN5 I hshN5 hN5
  try replace hN := hN.up hshN5
  try replace hN2 := hN2.up hshN5
  try replace hN3 := hN3.up hshN5
  try replace hN4 := hN4.up hshN5
  skip
  refine callQ (nDivMod hN4 hN5) fun q m J hs hq hm => ?_
  repeat (first | refine SeqS.go cok ?_)
  refine (yIsNeg (hN.up hs)).mono ?_
  rintro r _ - ⟨rfl, rfl⟩
  skip
  refine callN (yWithSign hm) fun r6 J6 hs6 hN6 => ?_
  repeat (first | refine SeqS.go cok ?_)
  exact Fin.same ⟨rfl, hN6⟩
theorem yAluAddMod {I : Ent → Prop} {G : List Ent} {v u w : Value} {a b c : Nat} (hN : NatI I v a) (hN2 : NatI I u b) (hN3 : NatI I w c) (ha : a < 115792089237316195423570985008687907853269984665640564039457584007913129639936) (hb : b < 115792089237316195423570985008687907853269984665640564039457584007913129639936) :
    CallG Hvaf.prog 239 #[.int .u8 8, v, u, w] ⟨I, G⟩ fun r S' => S'.G = G ∧ NatI S'.I r (modZ (a + b) c) := by
  have hsum : Hid (a + b < NB) := ⟨NB_big (Nat.lt_of_lt_of_le (Nat.add_lt_add ha hb) (by decide))⟩
  have hmul : Hid (a * b < NB) := ⟨NB_sq ha hb⟩
  replace ha : Hid _ := ⟨ha⟩
  replace hb : Hid _ := ⟨hb⟩
  refine CallG.start (C := mkC Hvaf.prog) cok (args := [.int .u8 8, v, u, w]) Hvaf.func239 rfl Hvaf.ntmps239 (by simp) (by kernel_rfl) ?_
  repeat (first | refine SeqS.go cok ?_ | refine CondS.t rfl ?_ | refine CondS.f rfl ?_)
  refine callN (nAdd hN hN2 hsum.out) ?_
  intro rhN4 I hshN4 hN4
  try replace hN := hN.up hshN4
  try replace hN2 := hN2.up hshN4
  try replace hN3 := hN3.up hshN4
  skip
  refine callQ (nDivMod hN4 hN3) fun q m J hs hq hm => ?_
  repeat (first | refine SeqS.go cok ?_)
  exact Fin.same ⟨rfl, hm⟩
theorem yAluMulMod {I : Ent → Prop} {G : List Ent} {v u w : Value} {a b c : Nat} (hN : NatI I v a) (hN2 : NatI I u b) (hN3 : NatI I w c) (ha : a < 115792089237316195423570985008687907853269984665640564039457584007913129639936) (hb : b < 115792089237316195423570985008687907853269984665640564039457584007913129639936) :
    CallG Hvaf.prog 239 #[.int .u8 9, v, u, w] ⟨I, G⟩ fun r S' => S'.G = G ∧ NatI S'.I r (modZ (a * b) c) := by
  have hsum : Hid (a + b < NB) := ⟨NB_big (Nat.lt_of_lt_of_le (Nat.add_lt_add ha hb) (by decide))⟩
  have hmul : Hid (a * b < NB) := ⟨NB_sq ha hb⟩
  replace ha : Hid _ := ⟨ha⟩
  replace hb : Hid _ := ⟨hb⟩
  refine CallG.start (C := mkC Hvaf.prog) cok (args := [.int .u8 9, v, u, w]) Hvaf.func239 rfl Hvaf.ntmps239 (by simp) (by kernel_rfl) ?_
  repeat (first | refine SeqS.go cok ?_ | refine CondS.t rfl ?_ | refine CondS.f rfl ?_)
  refine callN (nMul hN hN2 hmul.out) ?_
  intro rhN4 I hshN4 hN4
  try replace hN := hN.up hshN4
  try replace hN2 := hN2.up hshN4
  try replace hN3 := hN3.up hshN4
  skip
  refine callQ (nDivMod hN4 hN3) fun q m J hs hq hm => ?_
  repeat (first | refine SeqS.go cok ?_)
  exact Fin.same ⟨rfl, hm⟩
theorem yAluExp {I : Ent → Prop} {G : List Ent} {v u w : Value} {a b c : Nat} (hN : NatI I v a) (hN2 : NatI I u b) (hN3 : NatI I w c) (ha : a < 115792089237316195423570985008687907853269984665640564039457584007913129639936) (hb : b < 115792089237316195423570985008687907853269984665640564039457584007913129639936) :
    CallG Hvaf.prog 239 #[.int .u8 10, v, u, w] ⟨I, G⟩ fun r S' => S'.G = G ∧ NatI S'.I r (a ^ b % 115792089237316195423570985008687907853269984665640564039457584007913129639936) := by
  have hsum : Hid (a + b < NB) := ⟨NB_big (Nat.lt_of_lt_of_le (Nat.add_lt_add ha hb) (by decide))⟩
  have hmul : Hid (a * b < NB) := ⟨NB_sq ha hb⟩
  replace ha : Hid _ := ⟨ha⟩
  replace hb : Hid _ := ⟨hb⟩
  refine CallG.start (C := mkC Hvaf.prog) cok (args := [.int .u8 10, v, u, w]) Hvaf.func239 rfl Hvaf.ntmps239 (by simp) (by kernel_rfl) ?_
  repeat (first | refine SeqS.go cok ?_ | refine CondS.t rfl ?_ | refine CondS.f rfl ?_)
  refine callN (yPower hN hN2 ha.out hb.out) ?_
  intro rhN4 I hshN4 hN4
  try replace hN := hN.up hshN4
  try replace hN2 := hN2.up hshN4
  try replace hN3 := hN3.up hshN4
  repeat (first | refine SeqS.go cok ?_)
  exact Fin.same ⟨rfl, hN4⟩
theorem yAluSignExt {I : Ent → Prop} {G : List Ent} {v u w : Value} {a b c : Nat} (hN : NatI I v a) (hN2 : NatI I u b) (hN3 : NatI I w c) (ha : a < 115792089237316195423570985008687907853269984665640564039457584007913129639936) (hb : b < 115792089237316195423570985008687907853269984665640564039457584007913129639936) :
    CallG Hvaf.prog 239 #[.int .u8 11, v, u, w] ⟨I, G⟩ fun r S' => S'.G = G ∧ NatI S'.I r (signX a b) := by
  have hsum : Hid (a + b < NB) := ⟨NB_big (Nat.lt_of_lt_of_le (Nat.add_lt_add ha hb) (by decide))⟩
  have hmul : Hid (a * b < NB) := ⟨NB_sq ha hb⟩
  replace ha : Hid _ := ⟨ha⟩
  replace hb : Hid _ := ⟨hb⟩
  refine CallG.start (C := mkC Hvaf.prog) cok (args := [.int .u8 11, v, u, w]) Hvaf.func239 rfl Hvaf.ntmps239 (by simp) (by kernel_rfl) ?_
  repeat (first | refine SeqS.go cok ?_ | refine CondS.t rfl ?_ | refine CondS.f rfl ?_)
  refine callN (ySignExt hN hN2) ?_
  intro rhN4 I hshN4 hN4
  try replace hN := hN.up hshN4
  try replace hN2 := hN2.up hshN4
  try replace hN3 := hN3.up hshN4
  repeat (first | refine SeqS.go cok ?_)
  exact Fin.same ⟨rfl, hN4⟩
theorem yAluSlt {I : Ent → Prop} {G : List Ent} {v u w : Value} {a b c : Nat} (hN : NatI I v a) (hN2 : NatI I u b) (hN3 : NatI I w c) (ha : a < 115792089237316195423570985008687907853269984665640564039457584007913129639936) (hb : b < 115792089237316195423570985008687907853269984665640564039457584007913129639936) :
    CallG Hvaf.prog 239 #[.int .u8 18, v, u, w] ⟨I, G⟩ fun r S' => S'.G = G ∧ NatI S'.I r (if sbelow a b then 1 else 0) := by
  have hsum : Hid (a + b < NB) := ⟨NB_big (Nat.lt_of_lt_of_le (Nat.add_lt_add ha hb) (by decide))⟩
  have hmul : Hid (a * b < NB) := ⟨NB_sq ha hb⟩
  replace ha : Hid _ := ⟨ha⟩
  replace hb : Hid _ := ⟨hb⟩
  refine CallG.start (C := mkC Hvaf.prog) cok (args := [.int .u8 18, v, u, w]) Hvaf.func239 rfl Hvaf.ntmps239 (by simp) (by kernel_rfl) ?_
  repeat (first | refine SeqS.go cok ?_ | refine CondS.t rfl ?_ | refine CondS.f rfl ?_)
  refine (ySignedBelow hN hN2).mono ?_
  rintro r _ - ⟨rfl, rfl⟩
  skip
  refine callN (yTruth) ?_
  intro rhN4 I hshN4 hN4
  try replace hN := hN.up hshN4
  try replace hN2 := hN2.up hshN4
  try replace hN3 := hN3.up hshN4
  repeat (first | refine SeqS.go cok ?_)
  exact Fin.same ⟨rfl, hN4⟩
theorem yAluSgt {I : Ent → Prop} {G : List Ent} {v u w : Value} {a b c : Nat} (hN : NatI I v a) (hN2 : NatI I u b) (hN3 : NatI I w c) (ha : a < 115792089237316195423570985008687907853269984665640564039457584007913129639936) (hb : b < 115792089237316195423570985008687907853269984665640564039457584007913129639936) :
    CallG Hvaf.prog 239 #[.int .u8 19, v, u, w] ⟨I, G⟩ fun r S' => S'.G = G ∧ NatI S'.I r (if sbelow b a then 1 else 0) := by
  have hsum : Hid (a + b < NB) := ⟨NB_big (Nat.lt_of_lt_of_le (Nat.add_lt_add ha hb) (by decide))⟩
  have hmul : Hid (a * b < NB) := ⟨NB_sq ha hb⟩
  replace ha : Hid _ := ⟨ha⟩
  replace hb : Hid _ := ⟨hb⟩
  refine CallG.start (C := mkC Hvaf.prog) cok (args := [.int .u8 19, v, u, w]) Hvaf.func239 rfl Hvaf.ntmps239 (by simp) (by kernel_rfl) ?_
  repeat (first | refine SeqS.go cok ?_ | refine CondS.t rfl ?_ | refine CondS.f rfl ?_)
  refine (ySignedBelow hN2 hN).mono ?_
  rintro r _ - ⟨rfl, rfl⟩
  skip
  refine callN (yTruth) ?_
  intro rhN4 I hshN4 hN4
  try replace hN := hN.up hshN4
  try replace hN2 := hN2.up hshN4
  try replace hN3 := hN3.up hshN4
  repeat (first | refine SeqS.go cok ?_)
  exact Fin.same ⟨rfl, hN4⟩
theorem yAluAnd {I : Ent → Prop} {G : List Ent} {v u w : Value} {a b c : Nat} (hN : NatI I v a) (hN2 : NatI I u b) (hN3 : NatI I w c) (ha : a < 115792089237316195423570985008687907853269984665640564039457584007913129639936) (hb : b < 115792089237316195423570985008687907853269984665640564039457584007913129639936) :
    CallG Hvaf.prog 239 #[.int .u8 22, v, u, w] ⟨I, G⟩ fun r S' => S'.G = G ∧ NatI S'.I r (a &&& b) := by
  have hsum : Hid (a + b < NB) := ⟨NB_big (Nat.lt_of_lt_of_le (Nat.add_lt_add ha hb) (by decide))⟩
  have hmul : Hid (a * b < NB) := ⟨NB_sq ha hb⟩
  replace ha : Hid _ := ⟨ha⟩
  replace hb : Hid _ := ⟨hb⟩
  refine CallG.start (C := mkC Hvaf.prog) cok (args := [.int .u8 22, v, u, w]) Hvaf.func239 rfl Hvaf.ntmps239 (by simp) (by kernel_rfl) ?_
  repeat (first | refine SeqS.go cok ?_ | refine CondS.t rfl ?_ | refine CondS.f rfl ?_)
  refine callN (yAnd hN hN2 ha.out hb.out) ?_
  intro rhN4 I hshN4 hN4
  try replace hN := hN.up hshN4
  try replace hN2 := hN2.up hshN4
  try replace hN3 := hN3.up hshN4
  repeat (first | refine SeqS.go cok ?_)
  exact Fin.same ⟨rfl, hN4⟩
theorem yAluOr {I : Ent → Prop} {G : List Ent} {v u w : Value} {a b c : Nat} (hN : NatI I v a) (hN2 : NatI I u b) (hN3 : NatI I w c) (ha : a < 115792089237316195423570985008687907853269984665640564039457584007913129639936) (hb : b < 115792089237316195423570985008687907853269984665640564039457584007913129639936) :
    CallG Hvaf.prog 239 #[.int .u8 23, v, u, w] ⟨I, G⟩ fun r S' => S'.G = G ∧ NatI S'.I r (a ||| b) := by
  have hsum : Hid (a + b < NB) := ⟨NB_big (Nat.lt_of_lt_of_le (Nat.add_lt_add ha hb) (by decide))⟩
  have hmul : Hid (a * b < NB) := ⟨NB_sq ha hb⟩
  replace ha : Hid _ := ⟨ha⟩
  replace hb : Hid _ := ⟨hb⟩
  refine CallG.start (C := mkC Hvaf.prog) cok (args := [.int .u8 23, v, u, w]) Hvaf.func239 rfl Hvaf.ntmps239 (by simp) (by kernel_rfl) ?_
  repeat (first | refine SeqS.go cok ?_ | refine CondS.t rfl ?_ | refine CondS.f rfl ?_)
  refine callN (yOr hN hN2 ha.out hb.out) ?_
  intro rhN4 I hshN4 hN4
  try replace hN := hN.up hshN4
  try replace hN2 := hN2.up hshN4
  try replace hN3 := hN3.up hshN4
  repeat (first | refine SeqS.go cok ?_)
  exact Fin.same ⟨rfl, hN4⟩
theorem yAluXor {I : Ent → Prop} {G : List Ent} {v u w : Value} {a b c : Nat} (hN : NatI I v a) (hN2 : NatI I u b) (hN3 : NatI I w c) (ha : a < 115792089237316195423570985008687907853269984665640564039457584007913129639936) (hb : b < 115792089237316195423570985008687907853269984665640564039457584007913129639936) :
    CallG Hvaf.prog 239 #[.int .u8 24, v, u, w] ⟨I, G⟩ fun r S' => S'.G = G ∧ NatI S'.I r (a ^^^ b) := by
  have hsum : Hid (a + b < NB) := ⟨NB_big (Nat.lt_of_lt_of_le (Nat.add_lt_add ha hb) (by decide))⟩
  have hmul : Hid (a * b < NB) := ⟨NB_sq ha hb⟩
  replace ha : Hid _ := ⟨ha⟩
  replace hb : Hid _ := ⟨hb⟩
  refine CallG.start (C := mkC Hvaf.prog) cok (args := [.int .u8 24, v, u, w]) Hvaf.func239 rfl Hvaf.ntmps239 (by simp) (by kernel_rfl) ?_
  repeat (first | refine SeqS.go cok ?_ | refine CondS.t rfl ?_ | refine CondS.f rfl ?_)
  refine callN (yXor hN hN2 ha.out hb.out) ?_
  intro rhN4 I hshN4 hN4
  try replace hN := hN.up hshN4
  try replace hN2 := hN2.up hshN4
  try replace hN3 := hN3.up hshN4
  repeat (first | refine SeqS.go cok ?_)
  exact Fin.same ⟨rfl, hN4⟩
theorem yAluByte {I : Ent → Prop} {G : List Ent} {v u w : Value} {a b c : Nat} (hN : NatI I v a) (hN2 : NatI I u b) (hN3 : NatI I w c) (ha : a < 115792089237316195423570985008687907853269984665640564039457584007913129639936) (hb : b < 115792089237316195423570985008687907853269984665640564039457584007913129639936) :
    CallG Hvaf.prog 239 #[.int .u8 26, v, u, w] ⟨I, G⟩ fun r S' => S'.G = G ∧ NatI S'.I r (if a < 32 then b / 2 ^ (8 * (31 - a)) % 256 else 0) := by
  have hsum : Hid (a + b < NB) := ⟨NB_big (Nat.lt_of_lt_of_le (Nat.add_lt_add ha hb) (by decide))⟩
  have hmul : Hid (a * b < NB) := ⟨NB_sq ha hb⟩
  replace ha : Hid _ := ⟨ha⟩
  replace hb : Hid _ := ⟨hb⟩
  refine CallG.start (C := mkC Hvaf.prog) cok (args := [.int .u8 26, v, u, w]) Hvaf.func239 rfl Hvaf.ntmps239 (by simp) (by kernel_rfl) ?_
  repeat (first | refine SeqS.go cok ?_ | refine CondS.t rfl ?_ | refine CondS.f rfl ?_)
  refine callN (yPicked hN hN2) ?_
  intro rhN4 I hshN4 hN4
  try replace hN := hN.up hshN4
  try replace hN2 := hN2.up hshN4
  try replace hN3 := hN3.up hshN4
  repeat (first | refine SeqS.go cok ?_)
  exact Fin.same ⟨rfl, hN4⟩
theorem yAluShl {I : Ent → Prop} {G : List Ent} {v u w : Value} {a b c : Nat} (hN : NatI I v a) (hN2 : NatI I u b) (hN3 : NatI I w c) (ha : a < 115792089237316195423570985008687907853269984665640564039457584007913129639936) (hb : b < 115792089237316195423570985008687907853269984665640564039457584007913129639936) :
    CallG Hvaf.prog 239 #[.int .u8 27, v, u, w] ⟨I, G⟩ fun r S' => S'.G = G ∧ NatI S'.I r (b * 2 ^ (min a 256) % 115792089237316195423570985008687907853269984665640564039457584007913129639936) := by
  have hsum : Hid (a + b < NB) := ⟨NB_big (Nat.lt_of_lt_of_le (Nat.add_lt_add ha hb) (by decide))⟩
  have hmul : Hid (a * b < NB) := ⟨NB_sq ha hb⟩
  replace ha : Hid _ := ⟨ha⟩
  replace hb : Hid _ := ⟨hb⟩
  refine CallG.start (C := mkC Hvaf.prog) cok (args := [.int .u8 27, v, u, w]) Hvaf.func239 rfl Hvaf.ntmps239 (by simp) (by kernel_rfl) ?_
  repeat (first | refine SeqS.go cok ?_ | refine CondS.t rfl ?_ | refine CondS.f rfl ?_)
  refine callN (yShl hN hN2 hb.out) ?_
  intro rhN4 I hshN4 hN4
  try replace hN := hN.up hshN4
  try replace hN2 := hN2.up hshN4
  try replace hN3 := hN3.up hshN4
  repeat (first | refine SeqS.go cok ?_)
  exact Fin.same ⟨rfl, hN4⟩
theorem yAluShr {I : Ent → Prop} {G : List Ent} {v u w : Value} {a b c : Nat} (hN : NatI I v a) (hN2 : NatI I u b) (hN3 : NatI I w c) (ha : a < 115792089237316195423570985008687907853269984665640564039457584007913129639936) (hb : b < 115792089237316195423570985008687907853269984665640564039457584007913129639936) :
    CallG Hvaf.prog 239 #[.int .u8 28, v, u, w] ⟨I, G⟩ fun r S' => S'.G = G ∧ NatI S'.I r (b / 2 ^ (min a 256)) := by
  have hsum : Hid (a + b < NB) := ⟨NB_big (Nat.lt_of_lt_of_le (Nat.add_lt_add ha hb) (by decide))⟩
  have hmul : Hid (a * b < NB) := ⟨NB_sq ha hb⟩
  replace ha : Hid _ := ⟨ha⟩
  replace hb : Hid _ := ⟨hb⟩
  refine CallG.start (C := mkC Hvaf.prog) cok (args := [.int .u8 28, v, u, w]) Hvaf.func239 rfl Hvaf.ntmps239 (by simp) (by kernel_rfl) ?_
  repeat (first | refine SeqS.go cok ?_ | refine CondS.t rfl ?_ | refine CondS.f rfl ?_)
  refine callN (yShr hN hN2) ?_
  intro rhN4 I hshN4 hN4
  try replace hN := hN.up hshN4
  try replace hN2 := hN2.up hshN4
  try replace hN3 := hN3.up hshN4
  repeat (first | refine SeqS.go cok ?_)
  exact Fin.same ⟨rfl, hN4⟩
theorem yAluSar {I : Ent → Prop} {G : List Ent} {v u w : Value} {a b c : Nat} (hN : NatI I v a) (hN2 : NatI I u b) (hN3 : NatI I w c) (ha : a < 115792089237316195423570985008687907853269984665640564039457584007913129639936) (hb : b < 115792089237316195423570985008687907853269984665640564039457584007913129639936) :
    CallG Hvaf.prog 239 #[.int .u8 29, v, u, w] ⟨I, G⟩ fun r S' => S'.G = G ∧ NatI S'.I r (if b.testBit 255 then 115792089237316195423570985008687907853269984665640564039457584007913129639936 - 1 - (115792089237316195423570985008687907853269984665640564039457584007913129639936 - 1 - b) / 2 ^ (min a 256) else b / 2 ^ (min a 256)) := by
  have hsum : Hid (a + b < NB) := ⟨NB_big (Nat.lt_of_lt_of_le (Nat.add_lt_add ha hb) (by decide))⟩
  have hmul : Hid (a * b < NB) := ⟨NB_sq ha hb⟩
  replace ha : Hid _ := ⟨ha⟩
  replace hb : Hid _ := ⟨hb⟩
  refine CallG.start (C := mkC Hvaf.prog) cok (args := [.int .u8 29, v, u, w]) Hvaf.func239 rfl Hvaf.ntmps239 (by simp) (by kernel_rfl) ?_
  repeat (first | refine SeqS.go cok ?_ | refine CondS.t rfl ?_ | refine CondS.f rfl ?_)
  refine callN (ySar hN hN2 hb.out) ?_
  intro rhN4 I hshN4 hN4
  try replace hN := hN.up hshN4
  try replace hN2 := hN2.up hshN4
  try replace hN3 := hN3.up hshN4
  repeat (first | refine SeqS.go cok ?_)
  exact Fin.same ⟨rfl, hN4⟩
theorem yAluLtL {I : Ent → Prop} {G : List Ent} {v u w : Value} {a b : Nat} (hN : NatI I v a) (hN2 : NatI I u b) (h : a < b) :
    CallG Hvaf.prog 239 #[.int .u8 16, v, u, w] ⟨I, G⟩ fun r S' => S'.G = G ∧ NatI S'.I r 1 := by
  refine CallG.start (C := mkC Hvaf.prog) cok (args := [.int .u8 16, v, u, w]) Hvaf.func239 rfl Hvaf.ntmps239 (by simp) (by kernel_rfl) ?_
  repeat (first | refine SeqS.go cok ?_ | refine CondS.t rfl ?_ | refine CondS.f rfl ?_)
  refine (nCmpL hN hN2 h).mono ?_
  rintro r _ - ⟨rfl, rfl⟩
  skip
  refine callN (yTruth) ?_
  intro rhN4 I hshN4 hN4
  try replace hN := hN.up hshN4
  try replace hN2 := hN2.up hshN4
  repeat (first | refine SeqS.go cok ?_)
  exact Fin.same ⟨rfl, hN4⟩
theorem yAluLtE {I : Ent → Prop} {G : List Ent} {v u w : Value} {a b : Nat} (hN : NatI I v a) (hN2 : NatI I u b) (h : a = b) :
    CallG Hvaf.prog 239 #[.int .u8 16, v, u, w] ⟨I, G⟩ fun r S' => S'.G = G ∧ NatI S'.I r 0 := by
  refine CallG.start (C := mkC Hvaf.prog) cok (args := [.int .u8 16, v, u, w]) Hvaf.func239 rfl Hvaf.ntmps239 (by simp) (by kernel_rfl) ?_
  repeat (first | refine SeqS.go cok ?_ | refine CondS.t rfl ?_ | refine CondS.f rfl ?_)
  refine (nCmpE hN hN2 h).mono ?_
  rintro r _ - ⟨rfl, rfl⟩
  skip
  refine callN (yTruth) ?_
  intro rhN4 I hshN4 hN4
  try replace hN := hN.up hshN4
  try replace hN2 := hN2.up hshN4
  repeat (first | refine SeqS.go cok ?_)
  exact Fin.same ⟨rfl, hN4⟩
theorem yAluLtG {I : Ent → Prop} {G : List Ent} {v u w : Value} {a b : Nat} (hN : NatI I v a) (hN2 : NatI I u b) (h : b < a) :
    CallG Hvaf.prog 239 #[.int .u8 16, v, u, w] ⟨I, G⟩ fun r S' => S'.G = G ∧ NatI S'.I r 0 := by
  refine CallG.start (C := mkC Hvaf.prog) cok (args := [.int .u8 16, v, u, w]) Hvaf.func239 rfl Hvaf.ntmps239 (by simp) (by kernel_rfl) ?_
  repeat (first | refine SeqS.go cok ?_ | refine CondS.t rfl ?_ | refine CondS.f rfl ?_)
  refine (nCmpG hN hN2 h).mono ?_
  rintro r _ - ⟨rfl, rfl⟩
  skip
  refine callN (yTruth) ?_
  intro rhN4 I hshN4 hN4
  try replace hN := hN.up hshN4
  try replace hN2 := hN2.up hshN4
  repeat (first | refine SeqS.go cok ?_)
  exact Fin.same ⟨rfl, hN4⟩
theorem yAluLt {I : Ent → Prop} {G : List Ent} {v u w : Value} {a b : Nat} (hN : NatI I v a) (hN2 : NatI I u b) :
    CallG Hvaf.prog 239 #[.int .u8 16, v, u, w] ⟨I, G⟩ fun r S' => S'.G = G ∧ NatI S'.I r (if a < b then 1 else 0) := by
  rcases Nat.lt_trichotomy a b with h | h | h
  · have := yAluLtL (G := G) (w := w) hN hN2 h
    first | (rw [if_pos (by omega)]; exact this)
  · have := yAluLtE (G := G) (w := w) hN hN2 h
    first | (rw [if_neg (by omega)]; exact this)
  · have := yAluLtG (G := G) (w := w) hN hN2 h
    first | (rw [if_neg (by omega)]; exact this)
theorem yAluGtL {I : Ent → Prop} {G : List Ent} {v u w : Value} {a b : Nat} (hN : NatI I v a) (hN2 : NatI I u b) (h : a < b) :
    CallG Hvaf.prog 239 #[.int .u8 17, v, u, w] ⟨I, G⟩ fun r S' => S'.G = G ∧ NatI S'.I r 0 := by
  refine CallG.start (C := mkC Hvaf.prog) cok (args := [.int .u8 17, v, u, w]) Hvaf.func239 rfl Hvaf.ntmps239 (by simp) (by kernel_rfl) ?_
  repeat (first | refine SeqS.go cok ?_ | refine CondS.t rfl ?_ | refine CondS.f rfl ?_)
  refine (nCmpL hN hN2 h).mono ?_
  rintro r _ - ⟨rfl, rfl⟩
  skip
  refine callN (yTruth) ?_
  intro rhN4 I hshN4 hN4
  try replace hN := hN.up hshN4
  try replace hN2 := hN2.up hshN4
  repeat (first | refine SeqS.go cok ?_)
  exact Fin.same ⟨rfl, hN4⟩
theorem yAluGtE {I : Ent → Prop} {G : List Ent} {v u w : Value} {a b : Nat} (hN : NatI I v a) (hN2 : NatI I u b) (h : a = b) :
    CallG Hvaf.prog 239 #[.int .u8 17, v, u, w] ⟨I, G⟩ fun r S' => S'.G = G ∧ NatI S'.I r 0 := by
  refine CallG.start (C := mkC Hvaf.prog) cok (args := [.int .u8 17, v, u, w]) Hvaf.func239 rfl Hvaf.ntmps239 (by simp) (by kernel_rfl) ?_
  repeat (first | refine SeqS.go cok ?_ | refine CondS.t rfl ?_ | refine CondS.f rfl ?_)
  refine (nCmpE hN hN2 h).mono ?_
  rintro r _ - ⟨rfl, rfl⟩
  skip
  refine callN (yTruth) ?_
  intro rhN4 I hshN4 hN4
  try replace hN := hN.up hshN4
  try replace hN2 := hN2.up hshN4
  repeat (first | refine SeqS.go cok ?_)
  exact Fin.same ⟨rfl, hN4⟩
theorem yAluGtG {I : Ent → Prop} {G : List Ent} {v u w : Value} {a b : Nat} (hN : NatI I v a) (hN2 : NatI I u b) (h : b < a) :
    CallG Hvaf.prog 239 #[.int .u8 17, v, u, w] ⟨I, G⟩ fun r S' => S'.G = G ∧ NatI S'.I r 1 := by
  refine CallG.start (C := mkC Hvaf.prog) cok (args := [.int .u8 17, v, u, w]) Hvaf.func239 rfl Hvaf.ntmps239 (by simp) (by kernel_rfl) ?_
  repeat (first | refine SeqS.go cok ?_ | refine CondS.t rfl ?_ | refine CondS.f rfl ?_)
  refine (nCmpG hN hN2 h).mono ?_
  rintro r _ - ⟨rfl, rfl⟩
  skip
  refine callN (yTruth) ?_
  intro rhN4 I hshN4 hN4
  try replace hN := hN.up hshN4
  try replace hN2 := hN2.up hshN4
  repeat (first | refine SeqS.go cok ?_)
  exact Fin.same ⟨rfl, hN4⟩
theorem yAluGt {I : Ent → Prop} {G : List Ent} {v u w : Value} {a b : Nat} (hN : NatI I v a) (hN2 : NatI I u b) :
    CallG Hvaf.prog 239 #[.int .u8 17, v, u, w] ⟨I, G⟩ fun r S' => S'.G = G ∧ NatI S'.I r (if b < a then 1 else 0) := by
  rcases Nat.lt_trichotomy a b with h | h | h
  · have := yAluGtL (G := G) (w := w) hN hN2 h
    first | (rw [if_neg (by omega)]; exact this)
  · have := yAluGtE (G := G) (w := w) hN hN2 h
    first | (rw [if_neg (by omega)]; exact this)
  · have := yAluGtG (G := G) (w := w) hN hN2 h
    first | (rw [if_pos (by omega)]; exact this)
theorem yAluEqL {I : Ent → Prop} {G : List Ent} {v u w : Value} {a b : Nat} (hN : NatI I v a) (hN2 : NatI I u b) (h : a < b) :
    CallG Hvaf.prog 239 #[.int .u8 20, v, u, w] ⟨I, G⟩ fun r S' => S'.G = G ∧ NatI S'.I r 0 := by
  refine CallG.start (C := mkC Hvaf.prog) cok (args := [.int .u8 20, v, u, w]) Hvaf.func239 rfl Hvaf.ntmps239 (by simp) (by kernel_rfl) ?_
  repeat (first | refine SeqS.go cok ?_ | refine CondS.t rfl ?_ | refine CondS.f rfl ?_)
  refine (nCmpL hN hN2 h).mono ?_
  rintro r _ - ⟨rfl, rfl⟩
  skip
  refine callN (yTruth) ?_
  intro rhN4 I hshN4 hN4
  try replace hN := hN.up hshN4
  try replace hN2 := hN2.up hshN4
  repeat (first | refine SeqS.go cok ?_)
  exact Fin.same ⟨rfl, hN4⟩
theorem yAluEqE {I : Ent → Prop} {G : List Ent} {v u w : Value} {a b : Nat} (hN : NatI I v a) (hN2 : NatI I u b) (h : a = b) :
    CallG Hvaf.prog 239 #[.int .u8 20, v, u, w] ⟨I, G⟩ fun r S' => S'.G = G ∧ NatI S'.I r 1 := by
  refine CallG.start (C := mkC Hvaf.prog) cok (args := [.int .u8 20, v, u, w]) Hvaf.func239 rfl Hvaf.ntmps239 (by simp) (by kernel_rfl) ?_
  repeat (first | refine SeqS.go cok ?_ | refine CondS.t rfl ?_ | refine CondS.f rfl ?_)
  refine (nCmpE hN hN2 h).mono ?_
  rintro r _ - ⟨rfl, rfl⟩
  skip
  refine callN (yTruth) ?_
  intro rhN4 I hshN4 hN4
  try replace hN := hN.up hshN4
  try replace hN2 := hN2.up hshN4
  repeat (first | refine SeqS.go cok ?_)
  exact Fin.same ⟨rfl, hN4⟩
theorem yAluEqG {I : Ent → Prop} {G : List Ent} {v u w : Value} {a b : Nat} (hN : NatI I v a) (hN2 : NatI I u b) (h : b < a) :
    CallG Hvaf.prog 239 #[.int .u8 20, v, u, w] ⟨I, G⟩ fun r S' => S'.G = G ∧ NatI S'.I r 0 := by
  refine CallG.start (C := mkC Hvaf.prog) cok (args := [.int .u8 20, v, u, w]) Hvaf.func239 rfl Hvaf.ntmps239 (by simp) (by kernel_rfl) ?_
  repeat (first | refine SeqS.go cok ?_ | refine CondS.t rfl ?_ | refine CondS.f rfl ?_)
  refine (nCmpG hN hN2 h).mono ?_
  rintro r _ - ⟨rfl, rfl⟩
  skip
  refine callN (yTruth) ?_
  intro rhN4 I hshN4 hN4
  try replace hN := hN.up hshN4
  try replace hN2 := hN2.up hshN4
  repeat (first | refine SeqS.go cok ?_)
  exact Fin.same ⟨rfl, hN4⟩
theorem yAluEq {I : Ent → Prop} {G : List Ent} {v u w : Value} {a b : Nat} (hN : NatI I v a) (hN2 : NatI I u b) :
    CallG Hvaf.prog 239 #[.int .u8 20, v, u, w] ⟨I, G⟩ fun r S' => S'.G = G ∧ NatI S'.I r (if a = b then 1 else 0) := by
  rcases Nat.lt_trichotomy a b with h | h | h
  · have := yAluEqL (G := G) (w := w) hN hN2 h
    first | (rw [if_neg (by omega)]; exact this)
  · have := yAluEqE (G := G) (w := w) hN hN2 h
    first | (rw [if_pos (by omega)]; exact this)
  · have := yAluEqG (G := G) (w := w) hN hN2 h
    first | (rw [if_neg (by omega)]; exact this)
theorem yAluIsZeroE {I : Ent → Prop} {G : List Ent} {v u w : Value} {a : Nat} (hN : NatI I v a) (h : a = 0) :
    CallG Hvaf.prog 239 #[.int .u8 21, v, u, w] ⟨I, G⟩ fun r S' => S'.G = G ∧ NatI S'.I r 1 := by
  refine CallG.start (C := mkC Hvaf.prog) cok (args := [.int .u8 21, v, u, w]) Hvaf.func239 rfl Hvaf.ntmps239 (by simp) (by kernel_rfl) ?_
  repeat (first | refine SeqS.go cok ?_ | refine CondS.t rfl ?_ | refine CondS.f rfl ?_)
  refine (nCmpE hN (NatI.zero I) h).mono ?_
  rintro r _ - ⟨rfl, rfl⟩
  skip
  refine callN (yTruth) ?_
  intro rhN4 I hshN4 hN4
  try replace hN := hN.up hshN4
  repeat (first | refine SeqS.go cok ?_)
  exact Fin.same ⟨rfl, hN4⟩
theorem yAluIsZeroG {I : Ent → Prop} {G : List Ent} {v u w : Value} {a : Nat} (hN : NatI I v a) (h : 0 < a) :
    CallG Hvaf.prog 239 #[.int .u8 21, v, u, w] ⟨I, G⟩ fun r S' => S'.G = G ∧ NatI S'.I r 0 := by
  refine CallG.start (C := mkC Hvaf.prog) cok (args := [.int .u8 21, v, u, w]) Hvaf.func239 rfl Hvaf.ntmps239 (by simp) (by kernel_rfl) ?_
  repeat (first | refine SeqS.go cok ?_ | refine CondS.t rfl ?_ | refine CondS.f rfl ?_)
  refine (nCmpG hN (NatI.zero I) h).mono ?_
  rintro r _ - ⟨rfl, rfl⟩
  skip
  refine callN (yTruth) ?_
  intro rhN4 I hshN4 hN4
  try replace hN := hN.up hshN4
  repeat (first | refine SeqS.go cok ?_)
  exact Fin.same ⟨rfl, hN4⟩
theorem yAluIsZero {I : Ent → Prop} {G : List Ent} {v u w : Value} {a : Nat} (hN : NatI I v a) :
    CallG Hvaf.prog 239 #[.int .u8 21, v, u, w] ⟨I, G⟩ fun r S' => S'.G = G ∧ NatI S'.I r (if a = 0 then 1 else 0) := by
  by_cases h : a = 0
  · rw [if_pos h]; exact yAluIsZeroE hN h
  · rw [if_neg h]; exact yAluIsZeroG hN (by omega)
theorem yAluNot {I : Ent → Prop} {G : List Ent} {v w : Value} {a : Nat} (hN : NatI I v a) (ha : a < 115792089237316195423570985008687907853269984665640564039457584007913129639936) :
    CallG Hvaf.prog 239 #[.int .u8 25, v, .slice none 0 0, w] ⟨I, G⟩ fun r S' => S'.G = G ∧ NatI S'.I r (115792089237316195423570985008687907853269984665640564039457584007913129639936 - 1 - a) := by
  replace ha : Hid _ := ⟨ha⟩
  refine CallG.start (C := mkC Hvaf.prog) cok (args := [.int .u8 25, v, .slice none 0 0, w]) Hvaf.func239 rfl Hvaf.ntmps239 (by simp) (by kernel_rfl) ?_
  repeat (first | refine SeqS.go cok ?_ | refine CondS.t rfl ?_ | refine CondS.f rfl ?_)
  refine callN (yNot hN ha.out) ?_
  intro rhN4 I hshN4 hN4
  try replace hN := hN.up hshN4
  repeat (first | refine SeqS.go cok ?_)
  exact Fin.same ⟨rfl, hN4⟩
end Go.Proofs.YgvafwGreat
