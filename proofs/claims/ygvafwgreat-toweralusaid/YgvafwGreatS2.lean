import Derived.Test.YgvafwGreatS1
import Derived.Test.YgvafwGreatY83
import Derived.Test.YgvafwGreatY82
import Derived.Test.YgvafwGreatK18
set_option exponentiation.threshold 1000
set_option maxRecDepth 100000
set_option maxHeartbeats 4000000
set_option linter.unusedVariables false
set_option linter.unusedSimpArgs false
-- v2
namespace Go.Proofs.YgvafwGreat
open Go.HL Go.Proofs

/-! ### The step with CREATE and SELFDESTRUCT -/
/-- What SELFDESTRUCT costs where the own balance is 0. -/
def dstN (w : YW) (s : List Nat) : Nat := if adN (argN s 0) ∈ w.wa then 5000 else 7600
/-- What CREATE costs. -/
def crcN (s : List Nat) (m : Nat) : Nat :=
  if (endN (argN s 1) (argN s 2) + 31) / 32 ≤ m / 32 then 32000 + 2 * ((argN s 2 + 31) / 32) else 32000 + 2 * ((argN s 2 + 31) / 32) + (memC ((endN (argN s 1) (argN s 2) + 31) / 32) - memC (m / 32))
/-- The world behind a creation. -/
def crW (K : YK) (w : YW) : YW :=
  { w with al := putA { getA (putA { getA w.al K.self with nonce := 2 } w.al) crAd with nonce := 1 } (putA { getA w.al K.self with nonce := 2 } w.al), wa := withA crAd w.wa, md := withA crAd w.md }
/-- The state behind CREATE: of a child's part nothing is left but the new account. -/
def crS (K : YK) (σ : NS) : NS :=
  ⟨σ.pc + 1, σ.gas - crcN σ.s σ.mem.length, σ.s.take (σ.s.length - 3) ++ [if argN σ.s 0 = 0 then bev crAd else 0], growL σ.mem ((endN (argN σ.s 1) (argN σ.s 2) + 31) / 32), if argN σ.s 0 = 0 then crW K σ.w else σ.w⟩
/-- One step. -/
def stepA (K : YK) (σ : NS) : NS ⊕ NE :=
  if famN (K.code.getD σ.pc 0) ≠ 16 ∨ σ.s.length < (arN (K.code.getD σ.pc 0)).1 then stepN kecN K σ
  else if K.code.getD σ.pc 0 = 255 then .inr ⟨0, σ.gas - dstN σ.w σ.s, [], { σ.w with wa := withA (adN (argN σ.s 0)) σ.w.wa }⟩
  else if 512 < argN σ.s 2 then .inr ⟨9, 0, [], K.w0⟩
  else if σ.gas < crcN σ.s σ.mem.length then .inr ⟨2, 0, [], K.w0⟩
  else .inl (crS K σ)
/-! ### The program -/
/-- What TowerAlu runs: an opcode and three words. -/
structure AQ where
  o : Nat
  a : List Nat
  b : List Nat
  c : List Nat
structure AQ.Ok (q : AQ) : Prop where
  o : q.o < 256
  a : q.a.length = 32 ∧ ∀ d ∈ q.a, d < 256
  b : q.b.length = 32 ∧ ∀ d ∈ q.b, d < 256
  c : q.c.length = 32 ∧ ∀ d ∈ q.c, d < 256
def AQ.code (q : AQ) : List Nat := 127 :: (q.c ++ 127 :: (q.b ++ 127 :: (q.a ++ [q.o, 95, 82, 96, 32, 95, 243])))
def AQ.K (q : AQ) : YK := K0 q.code [] waN
/-- The states up to the opcode. -/
def AQ.s0 (q : AQ) : NS := ⟨0, 179000, [], [], W0 q.code waN⟩
def AQ.s1 (q : AQ) : NS := ⟨33, 178997, [bev q.c], [], W0 q.code waN⟩
def AQ.s2 (q : AQ) : NS := ⟨66, 178994, [bev q.c, bev q.b], [], W0 q.code waN⟩
def AQ.s3 (q : AQ) : NS := ⟨99, 178991, [bev q.c, bev q.b, bev q.a], [], W0 q.code waN⟩
end Go.Proofs.YgvafwGreat
