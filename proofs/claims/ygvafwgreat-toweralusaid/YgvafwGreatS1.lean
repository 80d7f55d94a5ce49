import Derived.Test.YgvafwGreatY39
import Derived.Test.YgvafwGreatY42
import Derived.Test.YgvafwGreatY51
import Derived.Test.YgvafwGreatY65
set_option exponentiation.threshold 1000
set_option maxRecDepth 100000
set_option maxHeartbeats 4000000
set_option linter.unusedVariables false
set_option linter.unusedSimpArgs false
-- v2
namespace Go.Proofs.YgvafwGreat
open Go.HL Go.Proofs

/-! ### One step, with no Go in sight -/
/-- A running transaction. -/
structure NS where
  pc : Nat
  gas : Nat
  s : List Nat
  mem : List Nat
  w : YW
/-- A transaction that has ended: status, gas left, output, world. -/
structure NE where
  st : Nat
  gas : Nat
  out : List Nat
  w : YW
/-- The word that an instruction gives. -/
def valN (kec : List Nat → List Nat) (K : YK) (pc gas : Nat) (mem : List Nat) (w : YW) (s : List Nat) (o : Nat) : Nat :=
  if o = 32 then bev (kec (cutL mem (argN s 0) (argN s 1)))
  else if 1 ≤ o ∧ o ≤ 29 then aluN o (argN s 0) (argN s 1) (argN s 2)
  else if 95 ≤ o ∧ o ≤ 127 then bev (cutL K.code (pc + 1) (o - 95))
  else if o = 48 then bev K.self
  else if o = 50 ∨ o = 51 then bev K.caller
  else if o = 53 then bev (cutL K.data (argN s 0) 32)
  else if o = 54 then K.data.length
  else if o = 56 then K.code.length
  else if o = 71 then (getA w.al K.self).bal
  else if o = 81 then bev (cutL mem (argN s 0) 32)
  else if o = 84 then loadS (getA w.al K.self).slots (argN s 0)
  else if o = 92 then valT (findT K.self (argN s 0) w.tp)
  else if o = 88 then pc
  else if o = 89 then mem.length
  else if o = 90 then gas
  else if o = 49 then (getA w.al (adN (argN s 0))).bal
  else if o = 59 then (getA w.al (adN (argN s 0))).code.length
  else if o = 63 then (if emptyA (getA w.al (adN (argN s 0))) = true then 0 else bev (kec (getA w.al (adN (argN s 0))).code))
  else if o = 65 then bev (adNo 192)
  else if o = 69 then 1048576
  else 0
/-- The world behind an instruction. -/
def wrlN (K : YK) (mem : List Nat) (w : YW) (s : List Nat) (o : Nat) : YW :=
  if o = 49 ∨ o = 59 ∨ o = 63 ∨ o = 60 then { w with wa := withA (adN (argN s 0)) w.wa }
  else if o = 84 then { w with ms := warmM (K.self, argN s 0, 0) w.ms }
  else if o = 85 then { w with rf := w.rf - (sstoreN K w s).2.2 + (sstoreN K w s).2.1, ms := warmM (K.self, argN s 0, 0) w.ms, al := putA { getA w.al K.self with slots := storeS (argN s 0) (argN s 1) (decide (argN s 1 = 0)) (getA w.al K.self).slots } w.al }
  else if o = 93 then { w with tp := tstT (K.self, argN s 0, argN s 1) (decide (argN s 1 = 0)) w.tp }
  else if 160 ≤ o ∧ o ≤ 164 then { w with lg := w.lg ++ [(K.self, (argsN s (o - 158)).drop 2, cutL mem (argN s 0) (argN s 1))] }
  else w
def cpyL (mem src : List Nat) (d o n : Nat) : List Nat := if n = 0 then mem else writeL mem d (cutL src o n)
/-- The memory behind an instruction. -/
def memN (K : YK) (mem : List Nat) (w : YW) (s : List Nat) (o : Nat) : List Nat :=
  if o = 82 then writeL mem (argN s 0) (be32 (argN s 1))
  else if o = 83 then writeL mem (argN s 0) [argN s 1 % 256]
  else if o = 55 then cpyL mem K.data (argN s 0) (argN s 1) (argN s 2)
  else if o = 57 then cpyL mem K.code (argN s 0) (argN s 1) (argN s 2)
  else if o = 94 then cpyL mem mem (argN s 0) (argN s 1) (argN s 2)
  else if o = 60 then cpyL mem (getA w.al (adN (argN s 0))).code (argN s 1) (argN s 2) (argN s 3)
  else mem
def nextN (K : YK) (pc : Nat) (s : List Nat) (o : Nat) : Nat :=
  if o = 86 ∨ o = 87 ∧ argN s 1 ≠ 0 then argN s 0 else pc + (1 + immN o)
def stkN (kec : List Nat → List Nat) (K : YK) (pc gas : Nat) (mem : List Nat) (w : YW) (s : List Nat) (o : Nat) : List Nat :=
  if 128 ≤ o ∧ o ≤ 143 then s ++ [argN s (o - 128)]
  else if 144 ≤ o ∧ o ≤ 159 then swN s (o - 142)
  else if (arN o).2.1 = 1 then s.take (s.length - (arN o).1) ++ [valN kec K pc gas mem w s o]
  else s.take (s.length - (arN o).1)
/-- An instruction that neither ends the frame nor enters another, paid and with its memory grown. -/
def plainN (kec : List Nat → List Nat) (K : YK) (σ : NS) (o : Nat) : NS :=
  ⟨nextN K σ.pc σ.s o, σ.gas, stkN kec K σ.pc σ.gas σ.mem σ.w σ.s o, memN K σ.mem σ.w σ.s o, wrlN K σ.mem σ.w σ.s o⟩
/-- The state behind payment and growth. -/
def paidN (K : YK) (σ : NS) (o : Nat) : NS :=
  { σ with gas := σ.gas - costN K σ.w σ.s σ.mem.length o, mem := growL σ.mem ((reachN σ.s o + 31) / 32) }
/-- One step. -/
def stepN (kec : List Nat → List Nat) (K : YK) (σ : NS) : NS ⊕ NE :=
  let o := K.code.getD σ.pc 0
  let r := refN K σ.w σ.s σ.gas σ.mem.length o
  let τ := paidN K σ o
  if r ≠ 0 then .inr ⟨r, 0, [], K.w0⟩
  else if o = 0 then .inr ⟨0, τ.gas, [], σ.w⟩
  else if o = 243 then .inr ⟨0, τ.gas, cutL τ.mem (argN σ.s 0) (argN σ.s 1), σ.w⟩
  else if o = 253 then .inr ⟨1, τ.gas, cutL τ.mem (argN σ.s 0) (argN σ.s 1), K.w0⟩
  else .inl (plainN kec K τ o)
end Go.Proofs.YgvafwGreat
