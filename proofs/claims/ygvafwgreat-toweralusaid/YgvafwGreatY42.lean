import Derived.Test.YgvafwGreatY41
import Derived.Test.YgvafwGreatY40
set_option exponentiation.threshold 1000
set_option maxRecDepth 100000
set_option maxHeartbeats 4000000
set_option linter.unusedVariables false
set_option linter.unusedSimpArgs false
-- v2
-- v4
-- v5
-- v6
-- v7
namespace Go.Proofs.YgvafwGreat
open Go.HL Go.Proofs

/-- yp.operand past the end -/
theorem yOperandN {I : Ent → Prop} {G : List Ent} {v : Value} {ns : List Nat} {i : Nat} (hN : StkI I v ns) (hlen : ns.length < 2 ^ 30) (hi : i < 2 ^ 30) (h : ¬ i < ns.length) :
    CallG Hvaf.prog 238 #[v, .int .i64 (i : Nat)] ⟨I, G⟩ fun r S' => ⟨I, G⟩ = S' ∧ r = .slice none 0 0 := by
  obtain ⟨vss, hR, hvl, hel⟩ := hN.out
  obtain ⟨ad, cap, rfl⟩ := hR.form
  refine CallG.start (C := mkC Hvaf.prog) cok (args := [.slice ad vss.length cap, .int .i64 (i : Nat)]) Hvaf.func238 rfl Hvaf.ntmps238 (by simp) (by kernel_rfl) ?_
  repeat (first | refine SeqS.go cok ?_ | (refine CondS.keep ?_; first | refine CondS.d0 rfl (by omega) ?_))
  exact Fin.same ⟨rfl, rfl⟩
/-- The arithmetic instructions. -/
def aluN (o a b c : Nat) : Nat :=
  if o = 1 then ((a + b) % 2 ^ 256)
  else if o = 2 then (a * b % 2 ^ 256)
  else if o = 3 then ((a + (2 ^ 256 - b) % 2 ^ 256) % 2 ^ 256)
  else if o = 4 then (a / b)
  else if o = 5 then (sgn (mag a / mag b) (a.testBit 255 != b.testBit 255))
  else if o = 6 then (modZ a b)
  else if o = 7 then (sgn (modZ (mag a) (mag b)) (a.testBit 255))
  else if o = 8 then (modZ (a + b) c)
  else if o = 9 then (modZ (a * b) c)
  else if o = 10 then (a ^ b % 115792089237316195423570985008687907853269984665640564039457584007913129639936)
  else if o = 11 then (signX a b)
  else if o = 16 then (if a < b then 1 else 0)
  else if o = 17 then (if b < a then 1 else 0)
  else if o = 18 then (if sbelow a b then 1 else 0)
  else if o = 19 then (if sbelow b a then 1 else 0)
  else if o = 20 then (if a = b then 1 else 0)
  else if o = 21 then (if a = 0 then 1 else 0)
  else if o = 22 then (a &&& b)
  else if o = 23 then (a ||| b)
  else if o = 24 then (a ^^^ b)
  else if o = 25 then (115792089237316195423570985008687907853269984665640564039457584007913129639936 - 1 - a)
  else if o = 26 then (if a < 32 then b / 2 ^ (8 * (31 - a)) % 256 else 0)
  else if o = 27 then (b * 2 ^ (min a 256) % 115792089237316195423570985008687907853269984665640564039457584007913129639936)
  else if o = 28 then (b / 2 ^ (min a 256))
  else if o = 29 then (if b.testBit 255 then 115792089237316195423570985008687907853269984665640564039457584007913129639936 - 1 - (115792089237316195423570985008687907853269984665640564039457584007913129639936 - 1 - b) / 2 ^ (min a 256) else b / 2 ^ (min a 256))
  else 0
theorem yAluN1 {I : Ent → Prop} {G : List Ent} {v u w : Value} {a b c : Nat} (hN : NatI I v a) (hN2 : NatI I u b) (hN3 : NatI I w c) (ha : a < 115792089237316195423570985008687907853269984665640564039457584007913129639936) (hb : b < 115792089237316195423570985008687907853269984665640564039457584007913129639936) :
    CallG Hvaf.prog 239 #[.int .u8 1, v, u, w] ⟨I, G⟩ fun r S' => S'.G = G ∧ NatI S'.I r (aluN 1 a b c) := yAluAdd hN hN2 hN3 ha hb
theorem yAluN2 {I : Ent → Prop} {G : List Ent} {v u w : Value} {a b c : Nat} (hN : NatI I v a) (hN2 : NatI I u b) (hN3 : NatI I w c) (ha : a < 115792089237316195423570985008687907853269984665640564039457584007913129639936) (hb : b < 115792089237316195423570985008687907853269984665640564039457584007913129639936) :
    CallG Hvaf.prog 239 #[.int .u8 2, v, u, w] ⟨I, G⟩ fun r S' => S'.G = G ∧ NatI S'.I r (aluN 2 a b c) := yAluMul hN hN2 hN3 ha hb
theorem yAluN3 {I : Ent → Prop} {G : List Ent} {v u w : Value} {a b c : Nat} (hN : NatI I v a) (hN2 : NatI I u b) (hN3 : NatI I w c) (ha : a < 115792089237316195423570985008687907853269984665640564039457584007913129639936) (hb : b < 115792089237316195423570985008687907853269984665640564039457584007913129639936) :
    CallG Hvaf.prog 239 #[.int .u8 3, v, u, w] ⟨I, G⟩ fun r S' => S'.G = G ∧ NatI S'.I r (aluN 3 a b c) := yAluSub hN hN2 hN3 ha hb
theorem yAluN4 {I : Ent → Prop} {G : List Ent} {v u w : Value} {a b c : Nat} (hN : NatI I v a) (hN2 : NatI I u b) (hN3 : NatI I w c) (ha : a < 115792089237316195423570985008687907853269984665640564039457584007913129639936) (hb : b < 115792089237316195423570985008687907853269984665640564039457584007913129639936) :
    CallG Hvaf.prog 239 #[.int .u8 4, v, u, w] ⟨I, G⟩ fun r S' => S'.G = G ∧ NatI S'.I r (aluN 4 a b c) := yAluDiv hN hN2 hN3 ha hb
theorem yAluN5 {I : Ent → Prop} {G : List Ent} {v u w : Value} {a b c : Nat} (hN : NatI I v a) (hN2 : NatI I u b) (hN3 : NatI I w c) (ha : a < 115792089237316195423570985008687907853269984665640564039457584007913129639936) (hb : b < 115792089237316195423570985008687907853269984665640564039457584007913129639936) :
    CallG Hvaf.prog 239 #[.int .u8 5, v, u, w] ⟨I, G⟩ fun r S' => S'.G = G ∧ NatI S'.I r (aluN 5 a b c) := yAluSDiv hN hN2 hN3 ha hb
theorem yAluN6 {I : Ent → Prop} {G : List Ent} {v u w : Value} {a b c : Nat} (hN : NatI I v a) (hN2 : NatI I u b) (hN3 : NatI I w c) (ha : a < 115792089237316195423570985008687907853269984665640564039457584007913129639936) (hb : b < 115792089237316195423570985008687907853269984665640564039457584007913129639936) :
    CallG Hvaf.prog 239 #[.int .u8 6, v, u, w] ⟨I, G⟩ fun r S' => S'.G = G ∧ NatI S'.I r (aluN 6 a b c) := yAluMod hN hN2 hN3 ha hb
theorem yAluN7 {I : Ent → Prop} {G : List Ent} {v u w : Value} {a b c : Nat} (hN : NatI I v a) (hN2 : NatI I u b) (hN3 : NatI I w c) (ha : a < 115792089237316195423570985008687907853269984665640564039457584007913129639936) (hb : b < 115792089237316195423570985008687907853269984665640564039457584007913129639936) :
    CallG Hvaf.prog 239 #[.int .u8 7, v, u, w] ⟨I, G⟩ fun r S' => S'.G = G ∧ NatI S'.I r (aluN 7 a b c) := yAluSMod hN hN2 hN3 ha hb
theorem yAluN8 {I : Ent → Prop} {G : List Ent} {v u w : Value} {a b c : Nat} (hN : NatI I v a) (hN2 : NatI I u b) (hN3 : NatI I w c) (ha : a < 115792089237316195423570985008687907853269984665640564039457584007913129639936) (hb : b < 115792089237316195423570985008687907853269984665640564039457584007913129639936) :
    CallG Hvaf.prog 239 #[.int .u8 8, v, u, w] ⟨I, G⟩ fun r S' => S'.G = G ∧ NatI S'.I r (aluN 8 a b c) := yAluAddMod hN hN2 hN3 ha hb
theorem yAluN9 {I : Ent → Prop} {G : List Ent} {v u w : Value} {a b c : Nat} (hN : NatI I v a) (hN2 : NatI I u b) (hN3 : NatI I w c) (ha : a < 115792089237316195423570985008687907853269984665640564039457584007913129639936) (hb : b < 115792089237316195423570985008687907853269984665640564039457584007913129639936) :
    CallG Hvaf.prog 239 #[.int .u8 9, v, u, w] ⟨I, G⟩ fun r S' => S'.G = G ∧ NatI S'.I r (aluN 9 a b c) := yAluMulMod hN hN2 hN3 ha hb
theorem yAluN10 {I : Ent → Prop} {G : List Ent} {v u w : Value} {a b c : Nat} (hN : NatI I v a) (hN2 : NatI I u b) (hN3 : NatI I w c) (ha : a < 115792089237316195423570985008687907853269984665640564039457584007913129639936) (hb : b < 115792089237316195423570985008687907853269984665640564039457584007913129639936) :
    CallG Hvaf.prog 239 #[.int .u8 10, v, u, w] ⟨I, G⟩ fun r S' => S'.G = G ∧ NatI S'.I r (aluN 10 a b c) := yAluExp hN hN2 hN3 ha hb
theorem yAluN11 {I : Ent → Prop} {G : List Ent} {v u w : Value} {a b c : Nat} (hN : NatI I v a) (hN2 : NatI I u b) (hN3 : NatI I w c) (ha : a < 115792089237316195423570985008687907853269984665640564039457584007913129639936) (hb : b < 115792089237316195423570985008687907853269984665640564039457584007913129639936) :
    CallG Hvaf.prog 239 #[.int .u8 11, v, u, w] ⟨I, G⟩ fun r S' => S'.G = G ∧ NatI S'.I r (aluN 11 a b c) := yAluSignExt hN hN2 hN3 ha hb
theorem yAluN16 {I : Ent → Prop} {G : List Ent} {v u w : Value} {a b c : Nat} (hN : NatI I v a) (hN2 : NatI I u b) (hN3 : NatI I w c) (ha : a < 115792089237316195423570985008687907853269984665640564039457584007913129639936) (hb : b < 115792089237316195423570985008687907853269984665640564039457584007913129639936) :
    CallG Hvaf.prog 239 #[.int .u8 16, v, u, w] ⟨I, G⟩ fun r S' => S'.G = G ∧ NatI S'.I r (aluN 16 a b c) := yAluLt hN hN2
theorem yAluN17 {I : Ent → Prop} {G : List Ent} {v u w : Value} {a b c : Nat} (hN : NatI I v a) (hN2 : NatI I u b) (hN3 : NatI I w c) (ha : a < 115792089237316195423570985008687907853269984665640564039457584007913129639936) (hb : b < 115792089237316195423570985008687907853269984665640564039457584007913129639936) :
    CallG Hvaf.prog 239 #[.int .u8 17, v, u, w] ⟨I, G⟩ fun r S' => S'.G = G ∧ NatI S'.I r (aluN 17 a b c) := yAluGt hN hN2
theorem yAluN18 {I : Ent → Prop} {G : List Ent} {v u w : Value} {a b c : Nat} (hN : NatI I v a) (hN2 : NatI I u b) (hN3 : NatI I w c) (ha : a < 115792089237316195423570985008687907853269984665640564039457584007913129639936) (hb : b < 115792089237316195423570985008687907853269984665640564039457584007913129639936) :
    CallG Hvaf.prog 239 #[.int .u8 18, v, u, w] ⟨I, G⟩ fun r S' => S'.G = G ∧ NatI S'.I r (aluN 18 a b c) := yAluSlt hN hN2 hN3 ha hb
theorem yAluN19 {I : Ent → Prop} {G : List Ent} {v u w : Value} {a b c : Nat} (hN : NatI I v a) (hN2 : NatI I u b) (hN3 : NatI I w c) (ha : a < 115792089237316195423570985008687907853269984665640564039457584007913129639936) (hb : b < 115792089237316195423570985008687907853269984665640564039457584007913129639936) :
    CallG Hvaf.prog 239 #[.int .u8 19, v, u, w] ⟨I, G⟩ fun r S' => S'.G = G ∧ NatI S'.I r (aluN 19 a b c) := yAluSgt hN hN2 hN3 ha hb
theorem yAluN20 {I : Ent → Prop} {G : List Ent} {v u w : Value} {a b c : Nat} (hN : NatI I v a) (hN2 : NatI I u b) (hN3 : NatI I w c) (ha : a < 115792089237316195423570985008687907853269984665640564039457584007913129639936) (hb : b < 115792089237316195423570985008687907853269984665640564039457584007913129639936) :
    CallG Hvaf.prog 239 #[.int .u8 20, v, u, w] ⟨I, G⟩ fun r S' => S'.G = G ∧ NatI S'.I r (aluN 20 a b c) := yAluEq hN hN2
theorem yAluN21 {I : Ent → Prop} {G : List Ent} {v u w : Value} {a b c : Nat} (hN : NatI I v a) (hN2 : NatI I u b) (hN3 : NatI I w c) (ha : a < 115792089237316195423570985008687907853269984665640564039457584007913129639936) (hb : b < 115792089237316195423570985008687907853269984665640564039457584007913129639936) :
    CallG Hvaf.prog 239 #[.int .u8 21, v, u, w] ⟨I, G⟩ fun r S' => S'.G = G ∧ NatI S'.I r (aluN 21 a b c) := yAluIsZero hN
theorem yAluN22 {I : Ent → Prop} {G : List Ent} {v u w : Value} {a b c : Nat} (hN : NatI I v a) (hN2 : NatI I u b) (hN3 : NatI I w c) (ha : a < 115792089237316195423570985008687907853269984665640564039457584007913129639936) (hb : b < 115792089237316195423570985008687907853269984665640564039457584007913129639936) :
    CallG Hvaf.prog 239 #[.int .u8 22, v, u, w] ⟨I, G⟩ fun r S' => S'.G = G ∧ NatI S'.I r (aluN 22 a b c) := yAluAnd hN hN2 hN3 ha hb
theorem yAluN23 {I : Ent → Prop} {G : List Ent} {v u w : Value} {a b c : Nat} (hN : NatI I v a) (hN2 : NatI I u b) (hN3 : NatI I w c) (ha : a < 115792089237316195423570985008687907853269984665640564039457584007913129639936) (hb : b < 115792089237316195423570985008687907853269984665640564039457584007913129639936) :
    CallG Hvaf.prog 239 #[.int .u8 23, v, u, w] ⟨I, G⟩ fun r S' => S'.G = G ∧ NatI S'.I r (aluN 23 a b c) := yAluOr hN hN2 hN3 ha hb
theorem yAluN24 {I : Ent → Prop} {G : List Ent} {v u w : Value} {a b c : Nat} (hN : NatI I v a) (hN2 : NatI I u b) (hN3 : NatI I w c) (ha : a < 115792089237316195423570985008687907853269984665640564039457584007913129639936) (hb : b < 115792089237316195423570985008687907853269984665640564039457584007913129639936) :
    CallG Hvaf.prog 239 #[.int .u8 24, v, u, w] ⟨I, G⟩ fun r S' => S'.G = G ∧ NatI S'.I r (aluN 24 a b c) := yAluXor hN hN2 hN3 ha hb
theorem yAluN25 {I : Ent → Prop} {G : List Ent} {v w : Value} {a b c : Nat} (hN : NatI I v a) (ha : a < 115792089237316195423570985008687907853269984665640564039457584007913129639936) :
    CallG Hvaf.prog 239 #[.int .u8 25, v, .slice none 0 0, w] ⟨I, G⟩ fun r S' => S'.G = G ∧ NatI S'.I r (aluN 25 a b c) := yAluNot hN ha
theorem yAluN26 {I : Ent → Prop} {G : List Ent} {v u w : Value} {a b c : Nat} (hN : NatI I v a) (hN2 : NatI I u b) (hN3 : NatI I w c) (ha : a < 115792089237316195423570985008687907853269984665640564039457584007913129639936) (hb : b < 115792089237316195423570985008687907853269984665640564039457584007913129639936) :
    CallG Hvaf.prog 239 #[.int .u8 26, v, u, w] ⟨I, G⟩ fun r S' => S'.G = G ∧ NatI S'.I r (aluN 26 a b c) := yAluByte hN hN2 hN3 ha hb
theorem yAluN27 {I : Ent → Prop} {G : List Ent} {v u w : Value} {a b c : Nat} (hN : NatI I v a) (hN2 : NatI I u b) (hN3 : NatI I w c) (ha : a < 115792089237316195423570985008687907853269984665640564039457584007913129639936) (hb : b < 115792089237316195423570985008687907853269984665640564039457584007913129639936) :
    CallG Hvaf.prog 239 #[.int .u8 27, v, u, w] ⟨I, G⟩ fun r S' => S'.G = G ∧ NatI S'.I r (aluN 27 a b c) := yAluShl hN hN2 hN3 ha hb
theorem yAluN28 {I : Ent → Prop} {G : List Ent} {v u w : Value} {a b c : Nat} (hN : NatI I v a) (hN2 : NatI I u b) (hN3 : NatI I w c) (ha : a < 115792089237316195423570985008687907853269984665640564039457584007913129639936) (hb : b < 115792089237316195423570985008687907853269984665640564039457584007913129639936) :
    CallG Hvaf.prog 239 #[.int .u8 28, v, u, w] ⟨I, G⟩ fun r S' => S'.G = G ∧ NatI S'.I r (aluN 28 a b c) := yAluShr hN hN2 hN3 ha hb
theorem yAluN29 {I : Ent → Prop} {G : List Ent} {v u w : Value} {a b c : Nat} (hN : NatI I v a) (hN2 : NatI I u b) (hN3 : NatI I w c) (ha : a < 115792089237316195423570985008687907853269984665640564039457584007913129639936) (hb : b < 115792089237316195423570985008687907853269984665640564039457584007913129639936) :
    CallG Hvaf.prog 239 #[.int .u8 29, v, u, w] ⟨I, G⟩ fun r S' => S'.G = G ∧ NatI S'.I r (aluN 29 a b c) := yAluSar hN hN2 hN3 ha hb
theorem yVal1 {I : Ent → Prop} {G : List Ent} {sb fb : Nat} {av : Value} {as' : List Nat} (hA : StkI I av as') (hlen : as'.length < 100) (ha : as'.getD 0 0 < 115792089237316195423570985008687907853269984665640564039457584007913129639936) (hb : as'.getD 1 0 < 115792089237316195423570985008687907853269984665640564039457584007913129639936) :
    CallG Hvaf.prog 162 #[ptr sb 0, ptr fb 0, .int .u8 (1 : Nat), av] ⟨I, G⟩ fun r S' => S'.G = G ∧ NatI S'.I r (aluN 1 (as'.getD 0 0) (as'.getD 1 0) (as'.getD 2 0)) := by
  have hf : ∀ S, CallG Hvaf.prog 75 #[.int .u8 (1 : Nat)] S fun r S' => S = S' ∧ r = .int .u8 (1 : Nat) := fun S => Family_spec (S := S) (o := 1) (by decide)
  refine CallG.start (C := mkC Hvaf.prog) cok (args := [ptr sb 0, ptr fb 0, .int .u8 ((1 : Nat) : Int), av]) Hvaf.func162 rfl Hvaf.ntmps162 (by simp) (by kernel_rfl) ?_
  repeat (first | refine SeqS.go cok ?_)
  refine (yOperand (i := 0) hA (by omega) (by decide)).mono ?_
  rintro v _ - ⟨rfl, hv⟩
  repeat (first | refine SeqS.go cok ?_)
  refine (yOperand (i := 1) hA (by omega) (by decide)).mono ?_
  rintro u _ - ⟨rfl, hu⟩
  repeat (first | refine SeqS.go cok ?_ | refine CondS.f rfl ?_)
  refine (hf _).mono ?_
  rintro r _ - ⟨rfl, rfl⟩
  repeat (first | refine SeqS.go cok ?_ | refine CondS.t rfl ?_)
  refine (yOperand (i := 2) hA (by omega) (by decide)).mono ?_
  rintro w _ - ⟨rfl, hw⟩
  skip
  refine callN (yAluN1 hv hu hw ha hb) fun x J hs hx => ?_
  repeat (first | refine SeqS.go cok ?_)
  exact Fin.same ⟨rfl, hx⟩
theorem yVal2 {I : Ent → Prop} {G : List Ent} {sb fb : Nat} {av : Value} {as' : List Nat} (hA : StkI I av as') (hlen : as'.length < 100) (ha : as'.getD 0 0 < 115792089237316195423570985008687907853269984665640564039457584007913129639936) (hb : as'.getD 1 0 < 115792089237316195423570985008687907853269984665640564039457584007913129639936) :
    CallG Hvaf.prog 162 #[ptr sb 0, ptr fb 0, .int .u8 (2 : Nat), av] ⟨I, G⟩ fun r S' => S'.G = G ∧ NatI S'.I r (aluN 2 (as'.getD 0 0) (as'.getD 1 0) (as'.getD 2 0)) := by
  have hf : ∀ S, CallG Hvaf.prog 75 #[.int .u8 (2 : Nat)] S fun r S' => S = S' ∧ r = .int .u8 (1 : Nat) := fun S => Family_spec (S := S) (o := 2) (by decide)
  refine CallG.start (C := mkC Hvaf.prog) cok (args := [ptr sb 0, ptr fb 0, .int .u8 ((2 : Nat) : Int), av]) Hvaf.func162 rfl Hvaf.ntmps162 (by simp) (by kernel_rfl) ?_
  repeat (first | refine SeqS.go cok ?_)
  refine (yOperand (i := 0) hA (by omega) (by decide)).mono ?_
  rintro v _ - ⟨rfl, hv⟩
  repeat (first | refine SeqS.go cok ?_)
  refine (yOperand (i := 1) hA (by omega) (by decide)).mono ?_
  rintro u _ - ⟨rfl, hu⟩
  repeat (first | refine SeqS.go cok ?_ | refine CondS.f rfl ?_)
  refine (hf _).mono ?_
  rintro r _ - ⟨rfl, rfl⟩
  repeat (first | refine SeqS.go cok ?_ | refine CondS.t rfl ?_)
  refine (yOperand (i := 2) hA (by omega) (by decide)).mono ?_
  rintro w _ - ⟨rfl, hw⟩
  skip
  refine callN (yAluN2 hv hu hw ha hb) fun x J hs hx => ?_
  repeat (first | refine SeqS.go cok ?_)
  exact Fin.same ⟨rfl, hx⟩
theorem yVal3 {I : Ent → Prop} {G : List Ent} {sb fb : Nat} {av : Value} {as' : List Nat} (hA : StkI I av as') (hlen : as'.length < 100) (ha : as'.getD 0 0 < 115792089237316195423570985008687907853269984665640564039457584007913129639936) (hb : as'.getD 1 0 < 115792089237316195423570985008687907853269984665640564039457584007913129639936) :
    CallG Hvaf.prog 162 #[ptr sb 0, ptr fb 0, .int .u8 (3 : Nat), av] ⟨I, G⟩ fun r S' => S'.G = G ∧ NatI S'.I r (aluN 3 (as'.getD 0 0) (as'.getD 1 0) (as'.getD 2 0)) := by
  have hf : ∀ S, CallG Hvaf.prog 75 #[.int .u8 (3 : Nat)] S fun r S' => S = S' ∧ r = .int .u8 (1 : Nat) := fun S => Family_spec (S := S) (o := 3) (by decide)
  refine CallG.start (C := mkC Hvaf.prog) cok (args := [ptr sb 0, ptr fb 0, .int .u8 ((3 : Nat) : Int), av]) Hvaf.func162 rfl Hvaf.ntmps162 (by simp) (by kernel_rfl) ?_
  repeat (first | refine SeqS.go cok ?_)
  refine (yOperand (i := 0) hA (by omega) (by decide)).mono ?_
  rintro v _ - ⟨rfl, hv⟩
  repeat (first | refine SeqS.go cok ?_)
  refine (yOperand (i := 1) hA (by omega) (by decide)).mono ?_
  rintro u _ - ⟨rfl, hu⟩
  repeat (first | refine SeqS.go cok ?_ | refine CondS.f rfl ?_)
  refine (hf _).mono ?_
  rintro r _ - ⟨rfl, rfl⟩
  repeat (first | refine SeqS.go cok ?_ | refine CondS.t rfl ?_)
  refine (yOperand (i := 2) hA (by omega) (by decide)).mono ?_
  rintro w _ - ⟨rfl, hw⟩
  skip
  refine callN (yAluN3 hv hu hw ha hb) fun x J hs hx => ?_
  repeat (first | refine SeqS.go cok ?_)
  exact Fin.same ⟨rfl, hx⟩
theorem yVal4 {I : Ent → Prop} {G : List Ent} {sb fb : Nat} {av : Value} {as' : List Nat} (hA : StkI I av as') (hlen : as'.length < 100) (ha : as'.getD 0 0 < 115792089237316195423570985008687907853269984665640564039457584007913129639936) (hb : as'.getD 1 0 < 115792089237316195423570985008687907853269984665640564039457584007913129639936) :
    CallG Hvaf.prog 162 #[ptr sb 0, ptr fb 0, .int .u8 (4 : Nat), av] ⟨I, G⟩ fun r S' => S'.G = G ∧ NatI S'.I r (aluN 4 (as'.getD 0 0) (as'.getD 1 0) (as'.getD 2 0)) := by
  have hf : ∀ S, CallG Hvaf.prog 75 #[.int .u8 (4 : Nat)] S fun r S' => S = S' ∧ r = .int .u8 (1 : Nat) := fun S => Family_spec (S := S) (o := 4) (by decide)
  refine CallG.start (C := mkC Hvaf.prog) cok (args := [ptr sb 0, ptr fb 0, .int .u8 ((4 : Nat) : Int), av]) Hvaf.func162 rfl Hvaf.ntmps162 (by simp) (by kernel_rfl) ?_
  repeat (first | refine SeqS.go cok ?_)
  refine (yOperand (i := 0) hA (by omega) (by decide)).mono ?_
  rintro v _ - ⟨rfl, hv⟩
  repeat (first | refine SeqS.go cok ?_)
  refine (yOperand (i := 1) hA (by omega) (by decide)).mono ?_
  rintro u _ - ⟨rfl, hu⟩
  repeat (first | refine SeqS.go cok ?_ | refine CondS.f rfl ?_)
  refine (hf _).mono ?_
  rintro r _ - ⟨rfl, rfl⟩
  repeat (first | refine SeqS.go cok ?_ | refine CondS.t rfl ?_)
  refine (yOperand (i := 2) hA (by omega) (by decide)).mono ?_
  rintro w _ - ⟨rfl, hw⟩
  skip
  refine callN (yAluN4 hv hu hw ha hb) fun x J hs hx => ?_
  repeat (first | refine SeqS.go cok ?_)
  exact Fin.same ⟨rfl, hx⟩
theorem yVal5 {I : Ent → Prop} {G : List Ent} {sb fb : Nat} {av : Value} {as' : List Nat} (hA : StkI I av as') (hlen : as'.length < 100) (ha : as'.getD 0 0 < 115792089237316195423570985008687907853269984665640564039457584007913129639936) (hb : as'.getD 1 0 < 115792089237316195423570985008687907853269984665640564039457584007913129639936) :
    CallG Hvaf.prog 162 #[ptr sb 0, ptr fb 0, .int .u8 (5 : Nat), av] ⟨I, G⟩ fun r S' => S'.G = G ∧ NatI S'.I r (aluN 5 (as'.getD 0 0) (as'.getD 1 0) (as'.getD 2 0)) := by
  have hf : ∀ S, CallG Hvaf.prog 75 #[.int .u8 (5 : Nat)] S fun r S' => S = S' ∧ r = .int .u8 (1 : Nat) := fun S => Family_spec (S := S) (o := 5) (by decide)
  refine CallG.start (C := mkC Hvaf.prog) cok (args := [ptr sb 0, ptr fb 0, .int .u8 ((5 : Nat) : Int), av]) Hvaf.func162 rfl Hvaf.ntmps162 (by simp) (by kernel_rfl) ?_
  repeat (first | refine SeqS.go cok ?_)
  refine (yOperand (i := 0) hA (by omega) (by decide)).mono ?_
  rintro v _ - ⟨rfl, hv⟩
  repeat (first | refine SeqS.go cok ?_)
  refine (yOperand (i := 1) hA (by omega) (by decide)).mono ?_
  rintro u _ - ⟨rfl, hu⟩
  repeat (first | refine SeqS.go cok ?_ | refine CondS.f rfl ?_)
  refine (hf _).mono ?_
  rintro r _ - ⟨rfl, rfl⟩
  repeat (first | refine SeqS.go cok ?_ | refine CondS.t rfl ?_)
  refine (yOperand (i := 2) hA (by omega) (by decide)).mono ?_
  rintro w _ - ⟨rfl, hw⟩
  skip
  refine callN (yAluN5 hv hu hw ha hb) fun x J hs hx => ?_
  repeat (first | refine SeqS.go cok ?_)
  exact Fin.same ⟨rfl, hx⟩
theorem yVal6 {I : Ent → Prop} {G : List Ent} {sb fb : Nat} {av : Value} {as' : List Nat} (hA : StkI I av as') (hlen : as'.length < 100) (ha : as'.getD 0 0 < 115792089237316195423570985008687907853269984665640564039457584007913129639936) (hb : as'.getD 1 0 < 115792089237316195423570985008687907853269984665640564039457584007913129639936) :
    CallG Hvaf.prog 162 #[ptr sb 0, ptr fb 0, .int .u8 (6 : Nat), av] ⟨I, G⟩ fun r S' => S'.G = G ∧ NatI S'.I r (aluN 6 (as'.getD 0 0) (as'.getD 1 0) (as'.getD 2 0)) := by
  have hf : ∀ S, CallG Hvaf.prog 75 #[.int .u8 (6 : Nat)] S fun r S' => S = S' ∧ r = .int .u8 (1 : Nat) := fun S => Family_spec (S := S) (o := 6) (by decide)
  refine CallG.start (C := mkC Hvaf.prog) cok (args := [ptr sb 0, ptr fb 0, .int .u8 ((6 : Nat) : Int), av]) Hvaf.func162 rfl Hvaf.ntmps162 (by simp) (by kernel_rfl) ?_
  repeat (first | refine SeqS.go cok ?_)
  refine (yOperand (i := 0) hA (by omega) (by decide)).mono ?_
  rintro v _ - ⟨rfl, hv⟩
  repeat (first | refine SeqS.go cok ?_)
  refine (yOperand (i := 1) hA (by omega) (by decide)).mono ?_
  rintro u _ - ⟨rfl, hu⟩
  repeat (first | refine SeqS.go cok ?_ | refine CondS.f rfl ?_)
  refine (hf _).mono ?_
  rintro r _ - ⟨rfl, rfl⟩
  repeat (first | refine SeqS.go cok ?_ | refine CondS.t rfl ?_)
  refine (yOperand (i := 2) hA (by omega) (by decide)).mono ?_
  rintro w _ - ⟨rfl, hw⟩
  skip
  refine callN (yAluN6 hv hu hw ha hb) fun x J hs hx => ?_
  repeat (first | refine SeqS.go cok ?_)
  exact Fin.same ⟨rfl, hx⟩
theorem yVal7 {I : Ent → Prop} {G : List Ent} {sb fb : Nat} {av : Value} {as' : List Nat} (hA : StkI I av as') (hlen : as'.length < 100) (ha : as'.getD 0 0 < 115792089237316195423570985008687907853269984665640564039457584007913129639936) (hb : as'.getD 1 0 < 115792089237316195423570985008687907853269984665640564039457584007913129639936) :
    CallG Hvaf.prog 162 #[ptr sb 0, ptr fb 0, .int .u8 (7 : Nat), av] ⟨I, G⟩ fun r S' => S'.G = G ∧ NatI S'.I r (aluN 7 (as'.getD 0 0) (as'.getD 1 0) (as'.getD 2 0)) := by
  have hf : ∀ S, CallG Hvaf.prog 75 #[.int .u8 (7 : Nat)] S fun r S' => S = S' ∧ r = .int .u8 (1 : Nat) := fun S => Family_spec (S := S) (o := 7) (by decide)
  refine CallG.start (C := mkC Hvaf.prog) cok (args := [ptr sb 0, ptr fb 0, .int .u8 ((7 : Nat) : Int), av]) Hvaf.func162 rfl Hvaf.ntmps162 (by simp) (by kernel_rfl) ?_
  repeat (first | refine SeqS.go cok ?_)
  refine (yOperand (i := 0) hA (by omega) (by decide)).mono ?_
  rintro v _ - ⟨rfl, hv⟩
  repeat (first | refine SeqS.go cok ?_)
  refine (yOperand (i := 1) hA (by omega) (by decide)).mono ?_
  rintro u _ - ⟨rfl, hu⟩
  repeat (first | refine SeqS.go cok ?_ | refine CondS.f rfl ?_)
  refine (hf _).mono ?_
  rintro r _ - ⟨rfl, rfl⟩
  repeat (first | refine SeqS.go cok ?_ | refine CondS.t rfl ?_)
  refine (yOperand (i := 2) hA (by omega) (by decide)).mono ?_
  rintro w _ - ⟨rfl, hw⟩
  skip
  refine callN (yAluN7 hv hu hw ha hb) fun x J hs hx => ?_
  repeat (first | refine SeqS.go cok ?_)
  exact Fin.same ⟨rfl, hx⟩
theorem yVal8 {I : Ent → Prop} {G : List Ent} {sb fb : Nat} {av : Value} {as' : List Nat} (hA : StkI I av as') (hlen : as'.length < 100) (ha : as'.getD 0 0 < 115792089237316195423570985008687907853269984665640564039457584007913129639936) (hb : as'.getD 1 0 < 115792089237316195423570985008687907853269984665640564039457584007913129639936) :
    CallG Hvaf.prog 162 #[ptr sb 0, ptr fb 0, .int .u8 (8 : Nat), av] ⟨I, G⟩ fun r S' => S'.G = G ∧ NatI S'.I r (aluN 8 (as'.getD 0 0) (as'.getD 1 0) (as'.getD 2 0)) := by
  have hf : ∀ S, CallG Hvaf.prog 75 #[.int .u8 (8 : Nat)] S fun r S' => S = S' ∧ r = .int .u8 (1 : Nat) := fun S => Family_spec (S := S) (o := 8) (by decide)
  refine CallG.start (C := mkC Hvaf.prog) cok (args := [ptr sb 0, ptr fb 0, .int .u8 ((8 : Nat) : Int), av]) Hvaf.func162 rfl Hvaf.ntmps162 (by simp) (by kernel_rfl) ?_
  repeat (first | refine SeqS.go cok ?_)
  refine (yOperand (i := 0) hA (by omega) (by decide)).mono ?_
  rintro v _ - ⟨rfl, hv⟩
  repeat (first | refine SeqS.go cok ?_)
  refine (yOperand (i := 1) hA (by omega) (by decide)).mono ?_
  rintro u _ - ⟨rfl, hu⟩
  repeat (first | refine SeqS.go cok ?_ | refine CondS.f rfl ?_)
  refine (hf _).mono ?_
  rintro r _ - ⟨rfl, rfl⟩
  repeat (first | refine SeqS.go cok ?_ | refine CondS.t rfl ?_)
  refine (yOperand (i := 2) hA (by omega) (by decide)).mono ?_
  rintro w _ - ⟨rfl, hw⟩
  skip
  refine callN (yAluN8 hv hu hw ha hb) fun x J hs hx => ?_
  repeat (first | refine SeqS.go cok ?_)
  exact Fin.same ⟨rfl, hx⟩
theorem yVal9 {I : Ent → Prop} {G : List Ent} {sb fb : Nat} {av : Value} {as' : List Nat} (hA : StkI I av as') (hlen : as'.length < 100) (ha : as'.getD 0 0 < 115792089237316195423570985008687907853269984665640564039457584007913129639936) (hb : as'.getD 1 0 < 115792089237316195423570985008687907853269984665640564039457584007913129639936) :
    CallG Hvaf.prog 162 #[ptr sb 0, ptr fb 0, .int .u8 (9 : Nat), av] ⟨I, G⟩ fun r S' => S'.G = G ∧ NatI S'.I r (aluN 9 (as'.getD 0 0) (as'.getD 1 0) (as'.getD 2 0)) := by
  have hf : ∀ S, CallG Hvaf.prog 75 #[.int .u8 (9 : Nat)] S fun r S' => S = S' ∧ r = .int .u8 (1 : Nat) := fun S => Family_spec (S := S) (o := 9) (by decide)
  refine CallG.start (C := mkC Hvaf.prog) cok (args := [ptr sb 0, ptr fb 0, .int .u8 ((9 : Nat) : Int), av]) Hvaf.func162 rfl Hvaf.ntmps162 (by simp) (by kernel_rfl) ?_
  repeat (first | refine SeqS.go cok ?_)
  refine (yOperand (i := 0) hA (by omega) (by decide)).mono ?_
  rintro v _ - ⟨rfl, hv⟩
  repeat (first | refine SeqS.go cok ?_)
  refine (yOperand (i := 1) hA (by omega) (by decide)).mono ?_
  rintro u _ - ⟨rfl, hu⟩
  repeat (first | refine SeqS.go cok ?_ | refine CondS.f rfl ?_)
  refine (hf _).mono ?_
  rintro r _ - ⟨rfl, rfl⟩
  repeat (first | refine SeqS.go cok ?_ | refine CondS.t rfl ?_)
  refine (yOperand (i := 2) hA (by omega) (by decide)).mono ?_
  rintro w _ - ⟨rfl, hw⟩
  skip
  refine callN (yAluN9 hv hu hw ha hb) fun x J hs hx => ?_
  repeat (first | refine SeqS.go cok ?_)
  exact Fin.same ⟨rfl, hx⟩
theorem yVal10 {I : Ent → Prop} {G : List Ent} {sb fb : Nat} {av : Value} {as' : List Nat} (hA : StkI I av as') (hlen : as'.length < 100) (ha : as'.getD 0 0 < 115792089237316195423570985008687907853269984665640564039457584007913129639936) (hb : as'.getD 1 0 < 115792089237316195423570985008687907853269984665640564039457584007913129639936) :
    CallG Hvaf.prog 162 #[ptr sb 0, ptr fb 0, .int .u8 (10 : Nat), av] ⟨I, G⟩ fun r S' => S'.G = G ∧ NatI S'.I r (aluN 10 (as'.getD 0 0) (as'.getD 1 0) (as'.getD 2 0)) := by
  have hf : ∀ S, CallG Hvaf.prog 75 #[.int .u8 (10 : Nat)] S fun r S' => S = S' ∧ r = .int .u8 (1 : Nat) := fun S => Family_spec (S := S) (o := 10) (by decide)
  refine CallG.start (C := mkC Hvaf.prog) cok (args := [ptr sb 0, ptr fb 0, .int .u8 ((10 : Nat) : Int), av]) Hvaf.func162 rfl Hvaf.ntmps162 (by simp) (by kernel_rfl) ?_
  repeat (first | refine SeqS.go cok ?_)
  refine (yOperand (i := 0) hA (by omega) (by decide)).mono ?_
  rintro v _ - ⟨rfl, hv⟩
  repeat (first | refine SeqS.go cok ?_)
  refine (yOperand (i := 1) hA (by omega) (by decide)).mono ?_
  rintro u _ - ⟨rfl, hu⟩
  repeat (first | refine SeqS.go cok ?_ | refine CondS.f rfl ?_)
  refine (hf _).mono ?_
  rintro r _ - ⟨rfl, rfl⟩
  repeat (first | refine SeqS.go cok ?_ | refine CondS.t rfl ?_)
  refine (yOperand (i := 2) hA (by omega) (by decide)).mono ?_
  rintro w _ - ⟨rfl, hw⟩
  skip
  refine callN (yAluN10 hv hu hw ha hb) fun x J hs hx => ?_
  repeat (first | refine SeqS.go cok ?_)
  exact Fin.same ⟨rfl, hx⟩
theorem yVal11 {I : Ent → Prop} {G : List Ent} {sb fb : Nat} {av : Value} {as' : List Nat} (hA : StkI I av as') (hlen : as'.length < 100) (ha : as'.getD 0 0 < 115792089237316195423570985008687907853269984665640564039457584007913129639936) (hb : as'.getD 1 0 < 115792089237316195423570985008687907853269984665640564039457584007913129639936) :
    CallG Hvaf.prog 162 #[ptr sb 0, ptr fb 0, .int .u8 (11 : Nat), av] ⟨I, G⟩ fun r S' => S'.G = G ∧ NatI S'.I r (aluN 11 (as'.getD 0 0) (as'.getD 1 0) (as'.getD 2 0)) := by
  have hf : ∀ S, CallG Hvaf.prog 75 #[.int .u8 (11 : Nat)] S fun r S' => S = S' ∧ r = .int .u8 (1 : Nat) := fun S => Family_spec (S := S) (o := 11) (by decide)
  refine CallG.start (C := mkC Hvaf.prog) cok (args := [ptr sb 0, ptr fb 0, .int .u8 ((11 : Nat) : Int), av]) Hvaf.func162 rfl Hvaf.ntmps162 (by simp) (by kernel_rfl) ?_
  repeat (first | refine SeqS.go cok ?_)
  refine (yOperand (i := 0) hA (by omega) (by decide)).mono ?_
  rintro v _ - ⟨rfl, hv⟩
  repeat (first | refine SeqS.go cok ?_)
  refine (yOperand (i := 1) hA (by omega) (by decide)).mono ?_
  rintro u _ - ⟨rfl, hu⟩
  repeat (first | refine SeqS.go cok ?_ | refine CondS.f rfl ?_)
  refine (hf _).mono ?_
  rintro r _ - ⟨rfl, rfl⟩
  repeat (first | refine SeqS.go cok ?_ | refine CondS.t rfl ?_)
  refine (yOperand (i := 2) hA (by omega) (by decide)).mono ?_
  rintro w _ - ⟨rfl, hw⟩
  skip
  refine callN (yAluN11 hv hu hw ha hb) fun x J hs hx => ?_
  repeat (first | refine SeqS.go cok ?_)
  exact Fin.same ⟨rfl, hx⟩
theorem yVal16 {I : Ent → Prop} {G : List Ent} {sb fb : Nat} {av : Value} {as' : List Nat} (hA : StkI I av as') (hlen : as'.length < 100) (ha : as'.getD 0 0 < 115792089237316195423570985008687907853269984665640564039457584007913129639936) (hb : as'.getD 1 0 < 115792089237316195423570985008687907853269984665640564039457584007913129639936) :
    CallG Hvaf.prog 162 #[ptr sb 0, ptr fb 0, .int .u8 (16 : Nat), av] ⟨I, G⟩ fun r S' => S'.G = G ∧ NatI S'.I r (aluN 16 (as'.getD 0 0) (as'.getD 1 0) (as'.getD 2 0)) := by
  have hf : ∀ S, CallG Hvaf.prog 75 #[.int .u8 (16 : Nat)] S fun r S' => S = S' ∧ r = .int .u8 (1 : Nat) := fun S => Family_spec (S := S) (o := 16) (by decide)
  refine CallG.start (C := mkC Hvaf.prog) cok (args := [ptr sb 0, ptr fb 0, .int .u8 ((16 : Nat) : Int), av]) Hvaf.func162 rfl Hvaf.ntmps162 (by simp) (by kernel_rfl) ?_
  repeat (first | refine SeqS.go cok ?_)
  refine (yOperand (i := 0) hA (by omega) (by decide)).mono ?_
  rintro v _ - ⟨rfl, hv⟩
  repeat (first | refine SeqS.go cok ?_)
  refine (yOperand (i := 1) hA (by omega) (by decide)).mono ?_
  rintro u _ - ⟨rfl, hu⟩
  repeat (first | refine SeqS.go cok ?_ | refine CondS.f rfl ?_)
  refine (hf _).mono ?_
  rintro r _ - ⟨rfl, rfl⟩
  repeat (first | refine SeqS.go cok ?_ | refine CondS.t rfl ?_)
  refine (yOperand (i := 2) hA (by omega) (by decide)).mono ?_
  rintro w _ - ⟨rfl, hw⟩
  skip
  refine callN (yAluN16 hv hu hw ha hb) fun x J hs hx => ?_
  repeat (first | refine SeqS.go cok ?_)
  exact Fin.same ⟨rfl, hx⟩
theorem yVal17 {I : Ent → Prop} {G : List Ent} {sb fb : Nat} {av : Value} {as' : List Nat} (hA : StkI I av as') (hlen : as'.length < 100) (ha : as'.getD 0 0 < 115792089237316195423570985008687907853269984665640564039457584007913129639936) (hb : as'.getD 1 0 < 115792089237316195423570985008687907853269984665640564039457584007913129639936) :
    CallG Hvaf.prog 162 #[ptr sb 0, ptr fb 0, .int .u8 (17 : Nat), av] ⟨I, G⟩ fun r S' => S'.G = G ∧ NatI S'.I r (aluN 17 (as'.getD 0 0) (as'.getD 1 0) (as'.getD 2 0)) := by
  have hf : ∀ S, CallG Hvaf.prog 75 #[.int .u8 (17 : Nat)] S fun r S' => S = S' ∧ r = .int .u8 (1 : Nat) := fun S => Family_spec (S := S) (o := 17) (by decide)
  refine CallG.start (C := mkC Hvaf.prog) cok (args := [ptr sb 0, ptr fb 0, .int .u8 ((17 : Nat) : Int), av]) Hvaf.func162 rfl Hvaf.ntmps162 (by simp) (by kernel_rfl) ?_
  repeat (first | refine SeqS.go cok ?_)
  refine (yOperand (i := 0) hA (by omega) (by decide)).mono ?_
  rintro v _ - ⟨rfl, hv⟩
  repeat (first | refine SeqS.go cok ?_)
  refine (yOperand (i := 1) hA (by omega) (by decide)).mono ?_
  rintro u _ - ⟨rfl, hu⟩
  repeat (first | refine SeqS.go cok ?_ | refine CondS.f rfl ?_)
  refine (hf _).mono ?_
  rintro r _ - ⟨rfl, rfl⟩
  repeat (first | refine SeqS.go cok ?_ | refine CondS.t rfl ?_)
  refine (yOperand (i := 2) hA (by omega) (by decide)).mono ?_
  rintro w _ - ⟨rfl, hw⟩
  skip
  refine callN (yAluN17 hv hu hw ha hb) fun x J hs hx => ?_
  repeat (first | refine SeqS.go cok ?_)
  exact Fin.same ⟨rfl, hx⟩
theorem yVal18 {I : Ent → Prop} {G : List Ent} {sb fb : Nat} {av : Value} {as' : List Nat} (hA : StkI I av as') (hlen : as'.length < 100) (ha : as'.getD 0 0 < 115792089237316195423570985008687907853269984665640564039457584007913129639936) (hb : as'.getD 1 0 < 115792089237316195423570985008687907853269984665640564039457584007913129639936) :
    CallG Hvaf.prog 162 #[ptr sb 0, ptr fb 0, .int .u8 (18 : Nat), av] ⟨I, G⟩ fun r S' => S'.G = G ∧ NatI S'.I r (aluN 18 (as'.getD 0 0) (as'.getD 1 0) (as'.getD 2 0)) := by
  have hf : ∀ S, CallG Hvaf.prog 75 #[.int .u8 (18 : Nat)] S fun r S' => S = S' ∧ r = .int .u8 (1 : Nat) := fun S => Family_spec (S := S) (o := 18) (by decide)
  refine CallG.start (C := mkC Hvaf.prog) cok (args := [ptr sb 0, ptr fb 0, .int .u8 ((18 : Nat) : Int), av]) Hvaf.func162 rfl Hvaf.ntmps162 (by simp) (by kernel_rfl) ?_
  repeat (first | refine SeqS.go cok ?_)
  refine (yOperand (i := 0) hA (by omega) (by decide)).mono ?_
  rintro v _ - ⟨rfl, hv⟩
  repeat (first | refine SeqS.go cok ?_)
  refine (yOperand (i := 1) hA (by omega) (by decide)).mono ?_
  rintro u _ - ⟨rfl, hu⟩
  repeat (first | refine SeqS.go cok ?_ | refine CondS.f rfl ?_)
  refine (hf _).mono ?_
  rintro r _ - ⟨rfl, rfl⟩
  repeat (first | refine SeqS.go cok ?_ | refine CondS.t rfl ?_)
  refine (yOperand (i := 2) hA (by omega) (by decide)).mono ?_
  rintro w _ - ⟨rfl, hw⟩
  skip
  refine callN (yAluN18 hv hu hw ha hb) fun x J hs hx => ?_
  repeat (first | refine SeqS.go cok ?_)
  exact Fin.same ⟨rfl, hx⟩
theorem yVal19 {I : Ent → Prop} {G : List Ent} {sb fb : Nat} {av : Value} {as' : List Nat} (hA : StkI I av as') (hlen : as'.length < 100) (ha : as'.getD 0 0 < 115792089237316195423570985008687907853269984665640564039457584007913129639936) (hb : as'.getD 1 0 < 115792089237316195423570985008687907853269984665640564039457584007913129639936) :
    CallG Hvaf.prog 162 #[ptr sb 0, ptr fb 0, .int .u8 (19 : Nat), av] ⟨I, G⟩ fun r S' => S'.G = G ∧ NatI S'.I r (aluN 19 (as'.getD 0 0) (as'.getD 1 0) (as'.getD 2 0)) := by
  have hf : ∀ S, CallG Hvaf.prog 75 #[.int .u8 (19 : Nat)] S fun r S' => S = S' ∧ r = .int .u8 (1 : Nat) := fun S => Family_spec (S := S) (o := 19) (by decide)
  refine CallG.start (C := mkC Hvaf.prog) cok (args := [ptr sb 0, ptr fb 0, .int .u8 ((19 : Nat) : Int), av]) Hvaf.func162 rfl Hvaf.ntmps162 (by simp) (by kernel_rfl) ?_
  repeat (first | refine SeqS.go cok ?_)
  refine (yOperand (i := 0) hA (by omega) (by decide)).mono ?_
  rintro v _ - ⟨rfl, hv⟩
  repeat (first | refine SeqS.go cok ?_)
  refine (yOperand (i := 1) hA (by omega) (by decide)).mono ?_
  rintro u _ - ⟨rfl, hu⟩
  repeat (first | refine SeqS.go cok ?_ | refine CondS.f rfl ?_)
  refine (hf _).mono ?_
  rintro r _ - ⟨rfl, rfl⟩
  repeat (first | refine SeqS.go cok ?_ | refine CondS.t rfl ?_)
  refine (yOperand (i := 2) hA (by omega) (by decide)).mono ?_
  rintro w _ - ⟨rfl, hw⟩
  skip
  refine callN (yAluN19 hv hu hw ha hb) fun x J hs hx => ?_
  repeat (first | refine SeqS.go cok ?_)
  exact Fin.same ⟨rfl, hx⟩
theorem yVal20 {I : Ent → Prop} {G : List Ent} {sb fb : Nat} {av : Value} {as' : List Nat} (hA : StkI I av as') (hlen : as'.length < 100) (ha : as'.getD 0 0 < 115792089237316195423570985008687907853269984665640564039457584007913129639936) (hb : as'.getD 1 0 < 115792089237316195423570985008687907853269984665640564039457584007913129639936) :
    CallG Hvaf.prog 162 #[ptr sb 0, ptr fb 0, .int .u8 (20 : Nat), av] ⟨I, G⟩ fun r S' => S'.G = G ∧ NatI S'.I r (aluN 20 (as'.getD 0 0) (as'.getD 1 0) (as'.getD 2 0)) := by
  have hf : ∀ S, CallG Hvaf.prog 75 #[.int .u8 (20 : Nat)] S fun r S' => S = S' ∧ r = .int .u8 (1 : Nat) := fun S => Family_spec (S := S) (o := 20) (by decide)
  refine CallG.start (C := mkC Hvaf.prog) cok (args := [ptr sb 0, ptr fb 0, .int .u8 ((20 : Nat) : Int), av]) Hvaf.func162 rfl Hvaf.ntmps162 (by simp) (by kernel_rfl) ?_
  repeat (first | refine SeqS.go cok ?_)
  refine (yOperand (i := 0) hA (by omega) (by decide)).mono ?_
  rintro v _ - ⟨rfl, hv⟩
  repeat (first | refine SeqS.go cok ?_)
  refine (yOperand (i := 1) hA (by omega) (by decide)).mono ?_
  rintro u _ - ⟨rfl, hu⟩
  repeat (first | refine SeqS.go cok ?_ | refine CondS.f rfl ?_)
  refine (hf _).mono ?_
  rintro r _ - ⟨rfl, rfl⟩
  repeat (first | refine SeqS.go cok ?_ | refine CondS.t rfl ?_)
  refine (yOperand (i := 2) hA (by omega) (by decide)).mono ?_
  rintro w _ - ⟨rfl, hw⟩
  skip
  refine callN (yAluN20 hv hu hw ha hb) fun x J hs hx => ?_
  repeat (first | refine SeqS.go cok ?_)
  exact Fin.same ⟨rfl, hx⟩
theorem yVal21 {I : Ent → Prop} {G : List Ent} {sb fb : Nat} {av : Value} {as' : List Nat} (hA : StkI I av as') (hlen : as'.length < 100) (ha : as'.getD 0 0 < 115792089237316195423570985008687907853269984665640564039457584007913129639936) (hb : as'.getD 1 0 < 115792089237316195423570985008687907853269984665640564039457584007913129639936) :
    CallG Hvaf.prog 162 #[ptr sb 0, ptr fb 0, .int .u8 (21 : Nat), av] ⟨I, G⟩ fun r S' => S'.G = G ∧ NatI S'.I r (aluN 21 (as'.getD 0 0) (as'.getD 1 0) (as'.getD 2 0)) := by
  have hf : ∀ S, CallG Hvaf.prog 75 #[.int .u8 (21 : Nat)] S fun r S' => S = S' ∧ r = .int .u8 (1 : Nat) := fun S => Family_spec (S := S) (o := 21) (by decide)
  refine CallG.start (C := mkC Hvaf.prog) cok (args := [ptr sb 0, ptr fb 0, .int .u8 ((21 : Nat) : Int), av]) Hvaf.func162 rfl Hvaf.ntmps162 (by simp) (by kernel_rfl) ?_
  repeat (first | refine SeqS.go cok ?_)
  refine (yOperand (i := 0) hA (by omega) (by decide)).mono ?_
  rintro v _ - ⟨rfl, hv⟩
  repeat (first | refine SeqS.go cok ?_)
  refine (yOperand (i := 1) hA (by omega) (by decide)).mono ?_
  rintro u _ - ⟨rfl, hu⟩
  repeat (first | refine SeqS.go cok ?_ | refine CondS.f rfl ?_)
  refine (hf _).mono ?_
  rintro r _ - ⟨rfl, rfl⟩
  repeat (first | refine SeqS.go cok ?_ | refine CondS.t rfl ?_)
  refine (yOperand (i := 2) hA (by omega) (by decide)).mono ?_
  rintro w _ - ⟨rfl, hw⟩
  skip
  refine callN (yAluN21 hv hu hw ha hb) fun x J hs hx => ?_
  repeat (first | refine SeqS.go cok ?_)
  exact Fin.same ⟨rfl, hx⟩
theorem yVal22 {I : Ent → Prop} {G : List Ent} {sb fb : Nat} {av : Value} {as' : List Nat} (hA : StkI I av as') (hlen : as'.length < 100) (ha : as'.getD 0 0 < 115792089237316195423570985008687907853269984665640564039457584007913129639936) (hb : as'.getD 1 0 < 115792089237316195423570985008687907853269984665640564039457584007913129639936) :
    CallG Hvaf.prog 162 #[ptr sb 0, ptr fb 0, .int .u8 (22 : Nat), av] ⟨I, G⟩ fun r S' => S'.G = G ∧ NatI S'.I r (aluN 22 (as'.getD 0 0) (as'.getD 1 0) (as'.getD 2 0)) := by
  have hf : ∀ S, CallG Hvaf.prog 75 #[.int .u8 (22 : Nat)] S fun r S' => S = S' ∧ r = .int .u8 (1 : Nat) := fun S => Family_spec (S := S) (o := 22) (by decide)
  refine CallG.start (C := mkC Hvaf.prog) cok (args := [ptr sb 0, ptr fb 0, .int .u8 ((22 : Nat) : Int), av]) Hvaf.func162 rfl Hvaf.ntmps162 (by simp) (by kernel_rfl) ?_
  repeat (first | refine SeqS.go cok ?_)
  refine (yOperand (i := 0) hA (by omega) (by decide)).mono ?_
  rintro v _ - ⟨rfl, hv⟩
  repeat (first | refine SeqS.go cok ?_)
  refine (yOperand (i := 1) hA (by omega) (by decide)).mono ?_
  rintro u _ - ⟨rfl, hu⟩
  repeat (first | refine SeqS.go cok ?_ | refine CondS.f rfl ?_)
  refine (hf _).mono ?_
  rintro r _ - ⟨rfl, rfl⟩
  repeat (first | refine SeqS.go cok ?_ | refine CondS.t rfl ?_)
  refine (yOperand (i := 2) hA (by omega) (by decide)).mono ?_
  rintro w _ - ⟨rfl, hw⟩
  skip
  refine callN (yAluN22 hv hu hw ha hb) fun x J hs hx => ?_
  repeat (first | refine SeqS.go cok ?_)
  exact Fin.same ⟨rfl, hx⟩
theorem yVal23 {I : Ent → Prop} {G : List Ent} {sb fb : Nat} {av : Value} {as' : List Nat} (hA : StkI I av as') (hlen : as'.length < 100) (ha : as'.getD 0 0 < 115792089237316195423570985008687907853269984665640564039457584007913129639936) (hb : as'.getD 1 0 < 115792089237316195423570985008687907853269984665640564039457584007913129639936) :
    CallG Hvaf.prog 162 #[ptr sb 0, ptr fb 0, .int .u8 (23 : Nat), av] ⟨I, G⟩ fun r S' => S'.G = G ∧ NatI S'.I r (aluN 23 (as'.getD 0 0) (as'.getD 1 0) (as'.getD 2 0)) := by
  have hf : ∀ S, CallG Hvaf.prog 75 #[.int .u8 (23 : Nat)] S fun r S' => S = S' ∧ r = .int .u8 (1 : Nat) := fun S => Family_spec (S := S) (o := 23) (by decide)
  refine CallG.start (C := mkC Hvaf.prog) cok (args := [ptr sb 0, ptr fb 0, .int .u8 ((23 : Nat) : Int), av]) Hvaf.func162 rfl Hvaf.ntmps162 (by simp) (by kernel_rfl) ?_
  repeat (first | refine SeqS.go cok ?_)
  refine (yOperand (i := 0) hA (by omega) (by decide)).mono ?_
  rintro v _ - ⟨rfl, hv⟩
  repeat (first | refine SeqS.go cok ?_)
  refine (yOperand (i := 1) hA (by omega) (by decide)).mono ?_
  rintro u _ - ⟨rfl, hu⟩
  repeat (first | refine SeqS.go cok ?_ | refine CondS.f rfl ?_)
  refine (hf _).mono ?_
  rintro r _ - ⟨rfl, rfl⟩
  repeat (first | refine SeqS.go cok ?_ | refine CondS.t rfl ?_)
  refine (yOperand (i := 2) hA (by omega) (by decide)).mono ?_
  rintro w _ - ⟨rfl, hw⟩
  skip
  refine callN (yAluN23 hv hu hw ha hb) fun x J hs hx => ?_
  repeat (first | refine SeqS.go cok ?_)
  exact Fin.same ⟨rfl, hx⟩
theorem yVal24 {I : Ent → Prop} {G : List Ent} {sb fb : Nat} {av : Value} {as' : List Nat} (hA : StkI I av as') (hlen : as'.length < 100) (ha : as'.getD 0 0 < 115792089237316195423570985008687907853269984665640564039457584007913129639936) (hb : as'.getD 1 0 < 115792089237316195423570985008687907853269984665640564039457584007913129639936) :
    CallG Hvaf.prog 162 #[ptr sb 0, ptr fb 0, .int .u8 (24 : Nat), av] ⟨I, G⟩ fun r S' => S'.G = G ∧ NatI S'.I r (aluN 24 (as'.getD 0 0) (as'.getD 1 0) (as'.getD 2 0)) := by
  have hf : ∀ S, CallG Hvaf.prog 75 #[.int .u8 (24 : Nat)] S fun r S' => S = S' ∧ r = .int .u8 (1 : Nat) := fun S => Family_spec (S := S) (o := 24) (by decide)
  refine CallG.start (C := mkC Hvaf.prog) cok (args := [ptr sb 0, ptr fb 0, .int .u8 ((24 : Nat) : Int), av]) Hvaf.func162 rfl Hvaf.ntmps162 (by simp) (by kernel_rfl) ?_
  repeat (first | refine SeqS.go cok ?_)
  refine (yOperand (i := 0) hA (by omega) (by decide)).mono ?_
  rintro v _ - ⟨rfl, hv⟩
  repeat (first | refine SeqS.go cok ?_)
  refine (yOperand (i := 1) hA (by omega) (by decide)).mono ?_
  rintro u _ - ⟨rfl, hu⟩
  repeat (first | refine SeqS.go cok ?_ | refine CondS.f rfl ?_)
  refine (hf _).mono ?_
  rintro r _ - ⟨rfl, rfl⟩
  repeat (first | refine SeqS.go cok ?_ | refine CondS.t rfl ?_)
  refine (yOperand (i := 2) hA (by omega) (by decide)).mono ?_
  rintro w _ - ⟨rfl, hw⟩
  skip
  refine callN (yAluN24 hv hu hw ha hb) fun x J hs hx => ?_
  repeat (first | refine SeqS.go cok ?_)
  exact Fin.same ⟨rfl, hx⟩
theorem yVal25 {I : Ent → Prop} {G : List Ent} {sb fb : Nat} {av : Value} {as' : List Nat} (hA : StkI I av as') (hlen : as'.length < 100) (ha : as'.getD 0 0 < 115792089237316195423570985008687907853269984665640564039457584007913129639936) (hb : as'.getD 1 0 < 115792089237316195423570985008687907853269984665640564039457584007913129639936) (hl1 : as'.length ≤ 1) :
    CallG Hvaf.prog 162 #[ptr sb 0, ptr fb 0, .int .u8 (25 : Nat), av] ⟨I, G⟩ fun r S' => S'.G = G ∧ NatI S'.I r (aluN 25 (as'.getD 0 0) (as'.getD 1 0) (as'.getD 2 0)) := by
  have hf : ∀ S, CallG Hvaf.prog 75 #[.int .u8 (25 : Nat)] S fun r S' => S = S' ∧ r = .int .u8 (1 : Nat) := fun S => Family_spec (S := S) (o := 25) (by decide)
  refine CallG.start (C := mkC Hvaf.prog) cok (args := [ptr sb 0, ptr fb 0, .int .u8 ((25 : Nat) : Int), av]) Hvaf.func162 rfl Hvaf.ntmps162 (by simp) (by kernel_rfl) ?_
  repeat (first | refine SeqS.go cok ?_)
  refine (yOperand (i := 0) hA (by omega) (by decide)).mono ?_
  rintro v _ - ⟨rfl, hv⟩
  repeat (first | refine SeqS.go cok ?_)
  refine (yOperandN (i := 1) hA (by omega) (by decide) (by omega)).mono ?_
  rintro u _ - ⟨rfl, rfl⟩
  repeat (first | refine SeqS.go cok ?_ | refine CondS.f rfl ?_)
  refine (hf _).mono ?_
  rintro r _ - ⟨rfl, rfl⟩
  repeat (first | refine SeqS.go cok ?_ | refine CondS.t rfl ?_)
  refine (yOperand (i := 2) hA (by omega) (by decide)).mono ?_
  rintro w _ - ⟨rfl, hw⟩
  skip
  refine callN (yAluN25 (b := as'.getD 1 0) (c := as'.getD 2 0) hv ha) fun x J hs hx => ?_
  repeat (first | refine SeqS.go cok ?_)
  exact Fin.same ⟨rfl, hx⟩
theorem yVal26 {I : Ent → Prop} {G : List Ent} {sb fb : Nat} {av : Value} {as' : List Nat} (hA : StkI I av as') (hlen : as'.length < 100) (ha : as'.getD 0 0 < 115792089237316195423570985008687907853269984665640564039457584007913129639936) (hb : as'.getD 1 0 < 115792089237316195423570985008687907853269984665640564039457584007913129639936) :
    CallG Hvaf.prog 162 #[ptr sb 0, ptr fb 0, .int .u8 (26 : Nat), av] ⟨I, G⟩ fun r S' => S'.G = G ∧ NatI S'.I r (aluN 26 (as'.getD 0 0) (as'.getD 1 0) (as'.getD 2 0)) := by
  have hf : ∀ S, CallG Hvaf.prog 75 #[.int .u8 (26 : Nat)] S fun r S' => S = S' ∧ r = .int .u8 (1 : Nat) := fun S => Family_spec (S := S) (o := 26) (by decide)
  refine CallG.start (C := mkC Hvaf.prog) cok (args := [ptr sb 0, ptr fb 0, .int .u8 ((26 : Nat) : Int), av]) Hvaf.func162 rfl Hvaf.ntmps162 (by simp) (by kernel_rfl) ?_
  repeat (first | refine SeqS.go cok ?_)
  refine (yOperand (i := 0) hA (by omega) (by decide)).mono ?_
  rintro v _ - ⟨rfl, hv⟩
  repeat (first | refine SeqS.go cok ?_)
  refine (yOperand (i := 1) hA (by omega) (by decide)).mono ?_
  rintro u _ - ⟨rfl, hu⟩
  repeat (first | refine SeqS.go cok ?_ | refine CondS.f rfl ?_)
  refine (hf _).mono ?_
  rintro r _ - ⟨rfl, rfl⟩
  repeat (first | refine SeqS.go cok ?_ | refine CondS.t rfl ?_)
  refine (yOperand (i := 2) hA (by omega) (by decide)).mono ?_
  rintro w _ - ⟨rfl, hw⟩
  skip
  refine callN (yAluN26 hv hu hw ha hb) fun x J hs hx => ?_
  repeat (first | refine SeqS.go cok ?_)
  exact Fin.same ⟨rfl, hx⟩
theorem yVal27 {I : Ent → Prop} {G : List Ent} {sb fb : Nat} {av : Value} {as' : List Nat} (hA : StkI I av as') (hlen : as'.length < 100) (ha : as'.getD 0 0 < 115792089237316195423570985008687907853269984665640564039457584007913129639936) (hb : as'.getD 1 0 < 115792089237316195423570985008687907853269984665640564039457584007913129639936) :
    CallG Hvaf.prog 162 #[ptr sb 0, ptr fb 0, .int .u8 (27 : Nat), av] ⟨I, G⟩ fun r S' => S'.G = G ∧ NatI S'.I r (aluN 27 (as'.getD 0 0) (as'.getD 1 0) (as'.getD 2 0)) := by
  have hf : ∀ S, CallG Hvaf.prog 75 #[.int .u8 (27 : Nat)] S fun r S' => S = S' ∧ r = .int .u8 (1 : Nat) := fun S => Family_spec (S := S) (o := 27) (by decide)
  refine CallG.start (C := mkC Hvaf.prog) cok (args := [ptr sb 0, ptr fb 0, .int .u8 ((27 : Nat) : Int), av]) Hvaf.func162 rfl Hvaf.ntmps162 (by simp) (by kernel_rfl) ?_
  repeat (first | refine SeqS.go cok ?_)
  refine (yOperand (i := 0) hA (by omega) (by decide)).mono ?_
  rintro v _ - ⟨rfl, hv⟩
  repeat (first | refine SeqS.go cok ?_)
  refine (yOperand (i := 1) hA (by omega) (by decide)).mono ?_
  rintro u _ - ⟨rfl, hu⟩
  repeat (first | refine SeqS.go cok ?_ | refine CondS.f rfl ?_)
  refine (hf _).mono ?_
  rintro r _ - ⟨rfl, rfl⟩
  repeat (first | refine SeqS.go cok ?_ | refine CondS.t rfl ?_)
  refine (yOperand (i := 2) hA (by omega) (by decide)).mono ?_
  rintro w _ - ⟨rfl, hw⟩
  skip
  refine callN (yAluN27 hv hu hw ha hb) fun x J hs hx => ?_
  repeat (first | refine SeqS.go cok ?_)
  exact Fin.same ⟨rfl, hx⟩
theorem yVal28 {I : Ent → Prop} {G : List Ent} {sb fb : Nat} {av : Value} {as' : List Nat} (hA : StkI I av as') (hlen : as'.length < 100) (ha : as'.getD 0 0 < 115792089237316195423570985008687907853269984665640564039457584007913129639936) (hb : as'.getD 1 0 < 115792089237316195423570985008687907853269984665640564039457584007913129639936) :
    CallG Hvaf.prog 162 #[ptr sb 0, ptr fb 0, .int .u8 (28 : Nat), av] ⟨I, G⟩ fun r S' => S'.G = G ∧ NatI S'.I r (aluN 28 (as'.getD 0 0) (as'.getD 1 0) (as'.getD 2 0)) := by
  have hf : ∀ S, CallG Hvaf.prog 75 #[.int .u8 (28 : Nat)] S fun r S' => S = S' ∧ r = .int .u8 (1 : Nat) := fun S => Family_spec (S := S) (o := 28) (by decide)
  refine CallG.start (C := mkC Hvaf.prog) cok (args := [ptr sb 0, ptr fb 0, .int .u8 ((28 : Nat) : Int), av]) Hvaf.func162 rfl Hvaf.ntmps162 (by simp) (by kernel_rfl) ?_
  repeat (first | refine SeqS.go cok ?_)
  refine (yOperand (i := 0) hA (by omega) (by decide)).mono ?_
  rintro v _ - ⟨rfl, hv⟩
  repeat (first | refine SeqS.go cok ?_)
  refine (yOperand (i := 1) hA (by omega) (by decide)).mono ?_
  rintro u _ - ⟨rfl, hu⟩
  repeat (first | refine SeqS.go cok ?_ | refine CondS.f rfl ?_)
  refine (hf _).mono ?_
  rintro r _ - ⟨rfl, rfl⟩
  repeat (first | refine SeqS.go cok ?_ | refine CondS.t rfl ?_)
  refine (yOperand (i := 2) hA (by omega) (by decide)).mono ?_
  rintro w _ - ⟨rfl, hw⟩
  skip
  refine callN (yAluN28 hv hu hw ha hb) fun x J hs hx => ?_
  repeat (first | refine SeqS.go cok ?_)
  exact Fin.same ⟨rfl, hx⟩
theorem yVal29 {I : Ent → Prop} {G : List Ent} {sb fb : Nat} {av : Value} {as' : List Nat} (hA : StkI I av as') (hlen : as'.length < 100) (ha : as'.getD 0 0 < 115792089237316195423570985008687907853269984665640564039457584007913129639936) (hb : as'.getD 1 0 < 115792089237316195423570985008687907853269984665640564039457584007913129639936) :
    CallG Hvaf.prog 162 #[ptr sb 0, ptr fb 0, .int .u8 (29 : Nat), av] ⟨I, G⟩ fun r S' => S'.G = G ∧ NatI S'.I r (aluN 29 (as'.getD 0 0) (as'.getD 1 0) (as'.getD 2 0)) := by
  have hf : ∀ S, CallG Hvaf.prog 75 #[.int .u8 (29 : Nat)] S fun r S' => S = S' ∧ r = .int .u8 (1 : Nat) := fun S => Family_spec (S := S) (o := 29) (by decide)
  refine CallG.start (C := mkC Hvaf.prog) cok (args := [ptr sb 0, ptr fb 0, .int .u8 ((29 : Nat) : Int), av]) Hvaf.func162 rfl Hvaf.ntmps162 (by simp) (by kernel_rfl) ?_
  repeat (first | refine SeqS.go cok ?_)
  refine (yOperand (i := 0) hA (by omega) (by decide)).mono ?_
  rintro v _ - ⟨rfl, hv⟩
  repeat (first | refine SeqS.go cok ?_)
  refine (yOperand (i := 1) hA (by omega) (by decide)).mono ?_
  rintro u _ - ⟨rfl, hu⟩
  repeat (first | refine SeqS.go cok ?_ | refine CondS.f rfl ?_)
  refine (hf _).mono ?_
  rintro r _ - ⟨rfl, rfl⟩
  repeat (first | refine SeqS.go cok ?_ | refine CondS.t rfl ?_)
  refine (yOperand (i := 2) hA (by omega) (by decide)).mono ?_
  rintro w _ - ⟨rfl, hw⟩
  skip
  refine callN (yAluN29 hv hu hw ha hb) fun x J hs hx => ?_
  repeat (first | refine SeqS.go cok ?_)
  exact Fin.same ⟨rfl, hx⟩
end Go.Proofs.YgvafwGreat
