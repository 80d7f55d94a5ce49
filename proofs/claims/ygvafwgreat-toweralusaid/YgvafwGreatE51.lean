import Derived.Test.YgvafwGreatE50
import Derived.Test.YgvafwGreatE9
import Derived.Test.YgvafwGreatE10
import Derived.Test.YgvafwGreatE11
import Derived.Test.YgvafwGreatE12
import Derived.Test.YgvafwGreatE13
import Derived.Test.YgvafwGreatE14
import Derived.Test.YgvafwGreatE15
import Derived.Test.YgvafwGreatE16
import Derived.Test.YgvafwGreatE18
import Derived.Test.YgvafwGreatE19
import Derived.Test.YgvafwGreatE20
import Derived.Test.YgvafwGreatE21
import Derived.Test.YgvafwGreatE22
import Derived.Test.YgvafwGreatE26
import Derived.Test.YgvafwGreatE26b
import Derived.Test.YgvafwGreatE27
import Derived.Test.YgvafwGreatE33
set_option exponentiation.threshold 1000
set_option maxRecDepth 100000
set_option maxHeartbeats 4000000
set_option linter.unusedVariables false
set_option linter.unusedSimpArgs false
-- v2
-- v4
-- v5
-- v6
-- v7
namespace Go.Proofs.YgvafwGreat
open Go.HL Go.Proofs
theorem EI.s2 {I : Ent → Prop} {cb sz : Nat} {c : Nat → Value} {K : YK} {V : Vl} {pc gas : Nat} {s mem : List Nat} {M G : List Ent} (h : EI I cb sz c K V pc gas s mem M G) : 2435 ≤ sz := by have := h.eS; omega
theorem t0 {s : List Nat} {v v' : Nat} (h : v = v') : s.take (s.length - 0) ++ [v] = s ++ [v'] := by rw [Nat.sub_zero, List.take_length, h]
theorem OpP.ofSetP2 {I : Ent → Prop} {cb sz : Nat} {T : TypeId} {c : Nat → Value} {K : YK} {V : Vl} {w : YW} {pc gas : Nat} {s mem : List Nat} {M G : List Ent} (h : EI I cb sz c K V pc gas s mem M G) (hR : RJ K V w) {σ : NS} (hw : σ.w = w) (hm : σ.mem = mem) {p1 g1 : Nat} {s1 : List Nat} (hpc : σ.pc = p1) (hg : σ.gas = g1) (hs : σ.s = s1) {f : FuncId} {args : Array Value} (hx : CallG Hvaf.prog f args ⟨I, ⟨cb, sz, T, c⟩ :: (M ++ G)⟩ (SetP I (M ++ G) cb sz T c p1 g1 s1)) : CallG Hvaf.prog f args ⟨I, ⟨cb, sz, T, c⟩ :: (M ++ G)⟩ (OpP cb sz T c K V 0 0 0 0 0 0 σ) := by
  subst hpc hg hs; exact OpP.ofSetP h hR hw hm hx
theorem s91 {kec : List Nat → List Nat} {K : YK} {pc gas : Nat} {mem : List Nat} {w : YW} {s : List Nat} : stkN kec K pc gas mem w s 91 = s := by
  show s.take (s.length - 0) = s
  rw [Nat.sub_zero, List.take_length]
theorem ex1 {I : Ent → Prop} {cb sz : Nat} {T : TypeId} {c : Nat → Value} {K : YK} {V : Vl} {w : YW} {pc gas : Nat} {s mem : List Nat} {M G : List Ent} (h : EI I cb sz c K V pc gas s mem M G) (hR : RJ K V w) (hp1 : pc + 1 < 60000) (ho : K.code.getD pc 0 = 1) (h2 : 2 ≤ s.length) :
    CallG Hvaf.prog 121 #[ptr cb 0, .int .u8 ((1 : Nat) : Int)] ⟨I, ⟨cb, sz, T, c⟩ :: (M ++ G)⟩ fun _ S' => ∃ r, OpP cb sz T c K V 0 0 0 0 0 0 (plainN kecN K ⟨pc, gas, s, mem, w⟩ 1) r S' :=
  mExOpArith (by decide) (OpP.ofSetP h hR rfl rfl (σ := plainN kecN K ⟨pc, gas, s, mem, w⟩ 1) (mAr1 h.s2 h.eK h.eM hp1 ho h2))
theorem ex2 {I : Ent → Prop} {cb sz : Nat} {T : TypeId} {c : Nat → Value} {K : YK} {V : Vl} {w : YW} {pc gas : Nat} {s mem : List Nat} {M G : List Ent} (h : EI I cb sz c K V pc gas s mem M G) (hR : RJ K V w) (hp1 : pc + 1 < 60000) (ho : K.code.getD pc 0 = 2) (h2 : 2 ≤ s.length) :
    CallG Hvaf.prog 121 #[ptr cb 0, .int .u8 ((2 : Nat) : Int)] ⟨I, ⟨cb, sz, T, c⟩ :: (M ++ G)⟩ fun _ S' => ∃ r, OpP cb sz T c K V 0 0 0 0 0 0 (plainN kecN K ⟨pc, gas, s, mem, w⟩ 2) r S' :=
  mExOpArith (by decide) (OpP.ofSetP h hR rfl rfl (σ := plainN kecN K ⟨pc, gas, s, mem, w⟩ 2) (mAr2 h.s2 h.eK h.eM hp1 ho h2))
theorem ex3 {I : Ent → Prop} {cb sz : Nat} {T : TypeId} {c : Nat → Value} {K : YK} {V : Vl} {w : YW} {pc gas : Nat} {s mem : List Nat} {M G : List Ent} (h : EI I cb sz c K V pc gas s mem M G) (hR : RJ K V w) (hp1 : pc + 1 < 60000) (ho : K.code.getD pc 0 = 3) (h2 : 2 ≤ s.length) :
    CallG Hvaf.prog 121 #[ptr cb 0, .int .u8 ((3 : Nat) : Int)] ⟨I, ⟨cb, sz, T, c⟩ :: (M ++ G)⟩ fun _ S' => ∃ r, OpP cb sz T c K V 0 0 0 0 0 0 (plainN kecN K ⟨pc, gas, s, mem, w⟩ 3) r S' :=
  mExOpArith (by decide) (OpP.ofSetP h hR rfl rfl (σ := plainN kecN K ⟨pc, gas, s, mem, w⟩ 3) (mAr3 h.s2 h.eK h.eM hp1 ho h2))
theorem ex4 {I : Ent → Prop} {cb sz : Nat} {T : TypeId} {c : Nat → Value} {K : YK} {V : Vl} {w : YW} {pc gas : Nat} {s mem : List Nat} {M G : List Ent} (h : EI I cb sz c K V pc gas s mem M G) (hR : RJ K V w) (hp1 : pc + 1 < 60000) (ho : K.code.getD pc 0 = 4) (h2 : 2 ≤ s.length) :
    CallG Hvaf.prog 121 #[ptr cb 0, .int .u8 ((4 : Nat) : Int)] ⟨I, ⟨cb, sz, T, c⟩ :: (M ++ G)⟩ fun _ S' => ∃ r, OpP cb sz T c K V 0 0 0 0 0 0 (plainN kecN K ⟨pc, gas, s, mem, w⟩ 4) r S' :=
  mExOpArith (by decide) (OpP.ofSetP h hR rfl rfl (σ := plainN kecN K ⟨pc, gas, s, mem, w⟩ 4) (mAr4 h.s2 h.eK h.eM hp1 ho h2))
theorem ex5 {I : Ent → Prop} {cb sz : Nat} {T : TypeId} {c : Nat → Value} {K : YK} {V : Vl} {w : YW} {pc gas : Nat} {s mem : List Nat} {M G : List Ent} (h : EI I cb sz c K V pc gas s mem M G) (hR : RJ K V w) (hp1 : pc + 1 < 60000) (ho : K.code.getD pc 0 = 5) (h2 : 2 ≤ s.length) :
    CallG Hvaf.prog 121 #[ptr cb 0, .int .u8 ((5 : Nat) : Int)] ⟨I, ⟨cb, sz, T, c⟩ :: (M ++ G)⟩ fun _ S' => ∃ r, OpP cb sz T c K V 0 0 0 0 0 0 (plainN kecN K ⟨pc, gas, s, mem, w⟩ 5) r S' :=
  mExOpArith (by decide) (OpP.ofSetP h hR rfl rfl (σ := plainN kecN K ⟨pc, gas, s, mem, w⟩ 5) (mAr5 h.s2 h.eK h.eM hp1 ho h2))
theorem ex6 {I : Ent → Prop} {cb sz : Nat} {T : TypeId} {c : Nat → Value} {K : YK} {V : Vl} {w : YW} {pc gas : Nat} {s mem : List Nat} {M G : List Ent} (h : EI I cb sz c K V pc gas s mem M G) (hR : RJ K V w) (hp1 : pc + 1 < 60000) (ho : K.code.getD pc 0 = 6) (h2 : 2 ≤ s.length) :
    CallG Hvaf.prog 121 #[ptr cb 0, .int .u8 ((6 : Nat) : Int)] ⟨I, ⟨cb, sz, T, c⟩ :: (M ++ G)⟩ fun _ S' => ∃ r, OpP cb sz T c K V 0 0 0 0 0 0 (plainN kecN K ⟨pc, gas, s, mem, w⟩ 6) r S' :=
  mExOpArith (by decide) (OpP.ofSetP h hR rfl rfl (σ := plainN kecN K ⟨pc, gas, s, mem, w⟩ 6) (mAr6 h.s2 h.eK h.eM hp1 ho h2))
theorem ex7 {I : Ent → Prop} {cb sz : Nat} {T : TypeId} {c : Nat → Value} {K : YK} {V : Vl} {w : YW} {pc gas : Nat} {s mem : List Nat} {M G : List Ent} (h : EI I cb sz c K V pc gas s mem M G) (hR : RJ K V w) (hp1 : pc + 1 < 60000) (ho : K.code.getD pc 0 = 7) (h2 : 2 ≤ s.length) :
    CallG Hvaf.prog 121 #[ptr cb 0, .int .u8 ((7 : Nat) : Int)] ⟨I, ⟨cb, sz, T, c⟩ :: (M ++ G)⟩ fun _ S' => ∃ r, OpP cb sz T c K V 0 0 0 0 0 0 (plainN kecN K ⟨pc, gas, s, mem, w⟩ 7) r S' :=
  mExOpArith (by decide) (OpP.ofSetP h hR rfl rfl (σ := plainN kecN K ⟨pc, gas, s, mem, w⟩ 7) (mAr7 h.s2 h.eK h.eM hp1 ho h2))
theorem ex8 {I : Ent → Prop} {cb sz : Nat} {T : TypeId} {c : Nat → Value} {K : YK} {V : Vl} {w : YW} {pc gas : Nat} {s mem : List Nat} {M G : List Ent} (h : EI I cb sz c K V pc gas s mem M G) (hR : RJ K V w) (hp1 : pc + 1 < 60000) (ho : K.code.getD pc 0 = 8) (h2 : 3 ≤ s.length) :
    CallG Hvaf.prog 121 #[ptr cb 0, .int .u8 ((8 : Nat) : Int)] ⟨I, ⟨cb, sz, T, c⟩ :: (M ++ G)⟩ fun _ S' => ∃ r, OpP cb sz T c K V 0 0 0 0 0 0 (plainN kecN K ⟨pc, gas, s, mem, w⟩ 8) r S' :=
  mExOpArith (by decide) (OpP.ofSetP h hR rfl rfl (σ := plainN kecN K ⟨pc, gas, s, mem, w⟩ 8) (mAr8 h.s2 h.eK h.eM hp1 ho h2))
theorem ex9 {I : Ent → Prop} {cb sz : Nat} {T : TypeId} {c : Nat → Value} {K : YK} {V : Vl} {w : YW} {pc gas : Nat} {s mem : List Nat} {M G : List Ent} (h : EI I cb sz c K V pc gas s mem M G) (hR : RJ K V w) (hp1 : pc + 1 < 60000) (ho : K.code.getD pc 0 = 9) (h2 : 3 ≤ s.length) :
    CallG Hvaf.prog 121 #[ptr cb 0, .int .u8 ((9 : Nat) : Int)] ⟨I, ⟨cb, sz, T, c⟩ :: (M ++ G)⟩ fun _ S' => ∃ r, OpP cb sz T c K V 0 0 0 0 0 0 (plainN kecN K ⟨pc, gas, s, mem, w⟩ 9) r S' :=
  mExOpArith (by decide) (OpP.ofSetP h hR rfl rfl (σ := plainN kecN K ⟨pc, gas, s, mem, w⟩ 9) (mAr9 h.s2 h.eK h.eM hp1 ho h2))
theorem ex10 {I : Ent → Prop} {cb sz : Nat} {T : TypeId} {c : Nat → Value} {K : YK} {V : Vl} {w : YW} {pc gas : Nat} {s mem : List Nat} {M G : List Ent} (h : EI I cb sz c K V pc gas s mem M G) (hR : RJ K V w) (hp1 : pc + 1 < 60000) (ho : K.code.getD pc 0 = 10) (h2 : 2 ≤ s.length) :
    CallG Hvaf.prog 121 #[ptr cb 0, .int .u8 ((10 : Nat) : Int)] ⟨I, ⟨cb, sz, T, c⟩ :: (M ++ G)⟩ fun _ S' => ∃ r, OpP cb sz T c K V 0 0 0 0 0 0 (plainN kecN K ⟨pc, gas, s, mem, w⟩ 10) r S' :=
  mExOpArith (by decide) (OpP.ofSetP h hR rfl rfl (σ := plainN kecN K ⟨pc, gas, s, mem, w⟩ 10) (mAr10 h.s2 h.eK h.eM hp1 ho h2))
theorem ex11 {I : Ent → Prop} {cb sz : Nat} {T : TypeId} {c : Nat → Value} {K : YK} {V : Vl} {w : YW} {pc gas : Nat} {s mem : List Nat} {M G : List Ent} (h : EI I cb sz c K V pc gas s mem M G) (hR : RJ K V w) (hp1 : pc + 1 < 60000) (ho : K.code.getD pc 0 = 11) (h2 : 2 ≤ s.length) :
    CallG Hvaf.prog 121 #[ptr cb 0, .int .u8 ((11 : Nat) : Int)] ⟨I, ⟨cb, sz, T, c⟩ :: (M ++ G)⟩ fun _ S' => ∃ r, OpP cb sz T c K V 0 0 0 0 0 0 (plainN kecN K ⟨pc, gas, s, mem, w⟩ 11) r S' :=
  mExOpArith (by decide) (OpP.ofSetP h hR rfl rfl (σ := plainN kecN K ⟨pc, gas, s, mem, w⟩ 11) (mAr11 h.s2 h.eK h.eM hp1 ho h2))
theorem ex16 {I : Ent → Prop} {cb sz : Nat} {T : TypeId} {c : Nat → Value} {K : YK} {V : Vl} {w : YW} {pc gas : Nat} {s mem : List Nat} {M G : List Ent} (h : EI I cb sz c K V pc gas s mem M G) (hR : RJ K V w) (hp1 : pc + 1 < 60000) (ho : K.code.getD pc 0 = 16) (h2 : 2 ≤ s.length) :
    CallG Hvaf.prog 121 #[ptr cb 0, .int .u8 ((16 : Nat) : Int)] ⟨I, ⟨cb, sz, T, c⟩ :: (M ++ G)⟩ fun _ S' => ∃ r, OpP cb sz T c K V 0 0 0 0 0 0 (plainN kecN K ⟨pc, gas, s, mem, w⟩ 16) r S' :=
  mExOpCompare (by decide) (OpP.ofSetP h hR rfl rfl (σ := plainN kecN K ⟨pc, gas, s, mem, w⟩ 16) (mCo16 h.s2 h.eK h.eM hp1 ho h2))
theorem ex17 {I : Ent → Prop} {cb sz : Nat} {T : TypeId} {c : Nat → Value} {K : YK} {V : Vl} {w : YW} {pc gas : Nat} {s mem : List Nat} {M G : List Ent} (h : EI I cb sz c K V pc gas s mem M G) (hR : RJ K V w) (hp1 : pc + 1 < 60000) (ho : K.code.getD pc 0 = 17) (h2 : 2 ≤ s.length) :
    CallG Hvaf.prog 121 #[ptr cb 0, .int .u8 ((17 : Nat) : Int)] ⟨I, ⟨cb, sz, T, c⟩ :: (M ++ G)⟩ fun _ S' => ∃ r, OpP cb sz T c K V 0 0 0 0 0 0 (plainN kecN K ⟨pc, gas, s, mem, w⟩ 17) r S' :=
  mExOpCompare (by decide) (OpP.ofSetP h hR rfl rfl (σ := plainN kecN K ⟨pc, gas, s, mem, w⟩ 17) (mCo17 h.s2 h.eK h.eM hp1 ho h2))
theorem ex18 {I : Ent → Prop} {cb sz : Nat} {T : TypeId} {c : Nat → Value} {K : YK} {V : Vl} {w : YW} {pc gas : Nat} {s mem : List Nat} {M G : List Ent} (h : EI I cb sz c K V pc gas s mem M G) (hR : RJ K V w) (hp1 : pc + 1 < 60000) (ho : K.code.getD pc 0 = 18) (h2 : 2 ≤ s.length) :
    CallG Hvaf.prog 121 #[ptr cb 0, .int .u8 ((18 : Nat) : Int)] ⟨I, ⟨cb, sz, T, c⟩ :: (M ++ G)⟩ fun _ S' => ∃ r, OpP cb sz T c K V 0 0 0 0 0 0 (plainN kecN K ⟨pc, gas, s, mem, w⟩ 18) r S' :=
  mExOpCompare (by decide) (OpP.ofSetP h hR rfl rfl (σ := plainN kecN K ⟨pc, gas, s, mem, w⟩ 18) (mCo18 h.s2 h.eK h.eM hp1 ho h2))
theorem ex19 {I : Ent → Prop} {cb sz : Nat} {T : TypeId} {c : Nat → Value} {K : YK} {V : Vl} {w : YW} {pc gas : Nat} {s mem : List Nat} {M G : List Ent} (h : EI I cb sz c K V pc gas s mem M G) (hR : RJ K V w) (hp1 : pc + 1 < 60000) (ho : K.code.getD pc 0 = 19) (h2 : 2 ≤ s.length) :
    CallG Hvaf.prog 121 #[ptr cb 0, .int .u8 ((19 : Nat) : Int)] ⟨I, ⟨cb, sz, T, c⟩ :: (M ++ G)⟩ fun _ S' => ∃ r, OpP cb sz T c K V 0 0 0 0 0 0 (plainN kecN K ⟨pc, gas, s, mem, w⟩ 19) r S' :=
  mExOpCompare (by decide) (OpP.ofSetP h hR rfl rfl (σ := plainN kecN K ⟨pc, gas, s, mem, w⟩ 19) (mCo19 h.s2 h.eK h.eM hp1 ho h2))
theorem ex20 {I : Ent → Prop} {cb sz : Nat} {T : TypeId} {c : Nat → Value} {K : YK} {V : Vl} {w : YW} {pc gas : Nat} {s mem : List Nat} {M G : List Ent} (h : EI I cb sz c K V pc gas s mem M G) (hR : RJ K V w) (hp1 : pc + 1 < 60000) (ho : K.code.getD pc 0 = 20) (h2 : 2 ≤ s.length) :
    CallG Hvaf.prog 121 #[ptr cb 0, .int .u8 ((20 : Nat) : Int)] ⟨I, ⟨cb, sz, T, c⟩ :: (M ++ G)⟩ fun _ S' => ∃ r, OpP cb sz T c K V 0 0 0 0 0 0 (plainN kecN K ⟨pc, gas, s, mem, w⟩ 20) r S' :=
  mExOpCompare (by decide) (OpP.ofSetP h hR rfl rfl (σ := plainN kecN K ⟨pc, gas, s, mem, w⟩ 20) (mCo20 h.s2 h.eK h.eM hp1 ho h2))
theorem ex21 {I : Ent → Prop} {cb sz : Nat} {T : TypeId} {c : Nat → Value} {K : YK} {V : Vl} {w : YW} {pc gas : Nat} {s mem : List Nat} {M G : List Ent} (h : EI I cb sz c K V pc gas s mem M G) (hR : RJ K V w) (hp1 : pc + 1 < 60000) (ho : K.code.getD pc 0 = 21) (h2 : 1 ≤ s.length) :
    CallG Hvaf.prog 121 #[ptr cb 0, .int .u8 ((21 : Nat) : Int)] ⟨I, ⟨cb, sz, T, c⟩ :: (M ++ G)⟩ fun _ S' => ∃ r, OpP cb sz T c K V 0 0 0 0 0 0 (plainN kecN K ⟨pc, gas, s, mem, w⟩ 21) r S' :=
  mExOpCompare (by decide) (OpP.ofSetP h hR rfl rfl (σ := plainN kecN K ⟨pc, gas, s, mem, w⟩ 21) (mCo21 h.s2 h.eK h.eM hp1 ho h2))
theorem ex22 {I : Ent → Prop} {cb sz : Nat} {T : TypeId} {c : Nat → Value} {K : YK} {V : Vl} {w : YW} {pc gas : Nat} {s mem : List Nat} {M G : List Ent} (h : EI I cb sz c K V pc gas s mem M G) (hR : RJ K V w) (hp1 : pc + 1 < 60000) (ho : K.code.getD pc 0 = 22) (h2 : 2 ≤ s.length) :
    CallG Hvaf.prog 121 #[ptr cb 0, .int .u8 ((22 : Nat) : Int)] ⟨I, ⟨cb, sz, T, c⟩ :: (M ++ G)⟩ fun _ S' => ∃ r, OpP cb sz T c K V 0 0 0 0 0 0 (plainN kecN K ⟨pc, gas, s, mem, w⟩ 22) r S' :=
  mExOpBits (by decide) (OpP.ofSetP h hR rfl rfl (σ := plainN kecN K ⟨pc, gas, s, mem, w⟩ 22) (mBi22 h.s2 h.eK h.eM hp1 ho h2))
theorem ex23 {I : Ent → Prop} {cb sz : Nat} {T : TypeId} {c : Nat → Value} {K : YK} {V : Vl} {w : YW} {pc gas : Nat} {s mem : List Nat} {M G : List Ent} (h : EI I cb sz c K V pc gas s mem M G) (hR : RJ K V w) (hp1 : pc + 1 < 60000) (ho : K.code.getD pc 0 = 23) (h2 : 2 ≤ s.length) :
    CallG Hvaf.prog 121 #[ptr cb 0, .int .u8 ((23 : Nat) : Int)] ⟨I, ⟨cb, sz, T, c⟩ :: (M ++ G)⟩ fun _ S' => ∃ r, OpP cb sz T c K V 0 0 0 0 0 0 (plainN kecN K ⟨pc, gas, s, mem, w⟩ 23) r S' :=
  mExOpBits (by decide) (OpP.ofSetP h hR rfl rfl (σ := plainN kecN K ⟨pc, gas, s, mem, w⟩ 23) (mBi23 h.s2 h.eK h.eM hp1 ho h2))
theorem ex24 {I : Ent → Prop} {cb sz : Nat} {T : TypeId} {c : Nat → Value} {K : YK} {V : Vl} {w : YW} {pc gas : Nat} {s mem : List Nat} {M G : List Ent} (h : EI I cb sz c K V pc gas s mem M G) (hR : RJ K V w) (hp1 : pc + 1 < 60000) (ho : K.code.getD pc 0 = 24) (h2 : 2 ≤ s.length) :
    CallG Hvaf.prog 121 #[ptr cb 0, .int .u8 ((24 : Nat) : Int)] ⟨I, ⟨cb, sz, T, c⟩ :: (M ++ G)⟩ fun _ S' => ∃ r, OpP cb sz T c K V 0 0 0 0 0 0 (plainN kecN K ⟨pc, gas, s, mem, w⟩ 24) r S' :=
  mExOpBits (by decide) (OpP.ofSetP h hR rfl rfl (σ := plainN kecN K ⟨pc, gas, s, mem, w⟩ 24) (mBi24 h.s2 h.eK h.eM hp1 ho h2))
theorem ex25 {I : Ent → Prop} {cb sz : Nat} {T : TypeId} {c : Nat → Value} {K : YK} {V : Vl} {w : YW} {pc gas : Nat} {s mem : List Nat} {M G : List Ent} (h : EI I cb sz c K V pc gas s mem M G) (hR : RJ K V w) (hp1 : pc + 1 < 60000) (ho : K.code.getD pc 0 = 25) (h2 : 1 ≤ s.length) :
    CallG Hvaf.prog 121 #[ptr cb 0, .int .u8 ((25 : Nat) : Int)] ⟨I, ⟨cb, sz, T, c⟩ :: (M ++ G)⟩ fun _ S' => ∃ r, OpP cb sz T c K V 0 0 0 0 0 0 (plainN kecN K ⟨pc, gas, s, mem, w⟩ 25) r S' :=
  mExOpBits (by decide) (OpP.ofSetP h hR rfl rfl (σ := plainN kecN K ⟨pc, gas, s, mem, w⟩ 25) (mBi25 h.s2 h.eK h.eM hp1 ho h2))
theorem ex26 {I : Ent → Prop} {cb sz : Nat} {T : TypeId} {c : Nat → Value} {K : YK} {V : Vl} {w : YW} {pc gas : Nat} {s mem : List Nat} {M G : List Ent} (h : EI I cb sz c K V pc gas s mem M G) (hR : RJ K V w) (hp1 : pc + 1 < 60000) (ho : K.code.getD pc 0 = 26) (h2 : 2 ≤ s.length) :
    CallG Hvaf.prog 121 #[ptr cb 0, .int .u8 ((26 : Nat) : Int)] ⟨I, ⟨cb, sz, T, c⟩ :: (M ++ G)⟩ fun _ S' => ∃ r, OpP cb sz T c K V 0 0 0 0 0 0 (plainN kecN K ⟨pc, gas, s, mem, w⟩ 26) r S' :=
  mExOpBits (by decide) (OpP.ofSetP h hR rfl rfl (σ := plainN kecN K ⟨pc, gas, s, mem, w⟩ 26) (mBi26 h.s2 h.eK h.eM hp1 ho h2))
theorem ex27 {I : Ent → Prop} {cb sz : Nat} {T : TypeId} {c : Nat → Value} {K : YK} {V : Vl} {w : YW} {pc gas : Nat} {s mem : List Nat} {M G : List Ent} (h : EI I cb sz c K V pc gas s mem M G) (hR : RJ K V w) (hp1 : pc + 1 < 60000) (ho : K.code.getD pc 0 = 27) (h2 : 2 ≤ s.length) :
    CallG Hvaf.prog 121 #[ptr cb 0, .int .u8 ((27 : Nat) : Int)] ⟨I, ⟨cb, sz, T, c⟩ :: (M ++ G)⟩ fun _ S' => ∃ r, OpP cb sz T c K V 0 0 0 0 0 0 (plainN kecN K ⟨pc, gas, s, mem, w⟩ 27) r S' :=
  mExOpBits (by decide) (OpP.ofSetP h hR rfl rfl (σ := plainN kecN K ⟨pc, gas, s, mem, w⟩ 27) (mBi27 h.s2 h.eK h.eM hp1 ho h2))
theorem ex28 {I : Ent → Prop} {cb sz : Nat} {T : TypeId} {c : Nat → Value} {K : YK} {V : Vl} {w : YW} {pc gas : Nat} {s mem : List Nat} {M G : List Ent} (h : EI I cb sz c K V pc gas s mem M G) (hR : RJ K V w) (hp1 : pc + 1 < 60000) (ho : K.code.getD pc 0 = 28) (h2 : 2 ≤ s.length) :
    CallG Hvaf.prog 121 #[ptr cb 0, .int .u8 ((28 : Nat) : Int)] ⟨I, ⟨cb, sz, T, c⟩ :: (M ++ G)⟩ fun _ S' => ∃ r, OpP cb sz T c K V 0 0 0 0 0 0 (plainN kecN K ⟨pc, gas, s, mem, w⟩ 28) r S' :=
  mExOpBits (by decide) (OpP.ofSetP h hR rfl rfl (σ := plainN kecN K ⟨pc, gas, s, mem, w⟩ 28) (mBi28 h.s2 h.eK h.eM hp1 ho h2))
theorem ex29 {I : Ent → Prop} {cb sz : Nat} {T : TypeId} {c : Nat → Value} {K : YK} {V : Vl} {w : YW} {pc gas : Nat} {s mem : List Nat} {M G : List Ent} (h : EI I cb sz c K V pc gas s mem M G) (hR : RJ K V w) (hp1 : pc + 1 < 60000) (ho : K.code.getD pc 0 = 29) (h2 : 2 ≤ s.length) :
    CallG Hvaf.prog 121 #[ptr cb 0, .int .u8 ((29 : Nat) : Int)] ⟨I, ⟨cb, sz, T, c⟩ :: (M ++ G)⟩ fun _ S' => ∃ r, OpP cb sz T c K V 0 0 0 0 0 0 (plainN kecN K ⟨pc, gas, s, mem, w⟩ 29) r S' :=
  mExOpBits (by decide) (OpP.ofSetP h hR rfl rfl (σ := plainN kecN K ⟨pc, gas, s, mem, w⟩ 29) (mBi29 h.s2 h.eK h.eM hp1 ho h2))
theorem ex80 {I : Ent → Prop} {cb sz : Nat} {T : TypeId} {c : Nat → Value} {K : YK} {V : Vl} {w : YW} {pc gas : Nat} {s mem : List Nat} {M G : List Ent} (h : EI I cb sz c K V pc gas s mem M G) (hR : RJ K V w) (hp1 : pc + 1 < 60000) (ho : K.code.getD pc 0 = 80) (h2 : 1 ≤ s.length) :
    CallG Hvaf.prog 121 #[ptr cb 0, .int .u8 ((80 : Nat) : Int)] ⟨I, ⟨cb, sz, T, c⟩ :: (M ++ G)⟩ fun _ S' => ∃ r, OpP cb sz T c K V 0 0 0 0 0 0 (plainN kecN K ⟨pc, gas, s, mem, w⟩ 80) r S' :=
  mExOpPop (by decide) (OpP.ofSetP h hR rfl rfl (σ := plainN kecN K ⟨pc, gas, s, mem, w⟩ 80) (mPop h.s2 h.eK h.eM hp1 h2))
theorem ex50 {I : Ent → Prop} {cb sz : Nat} {T : TypeId} {c : Nat → Value} {K : YK} {V : Vl} {w : YW} {pc gas : Nat} {s mem : List Nat} {M G : List Ent} (h : EI I cb sz c K V pc gas s mem M G) (hR : RJ K V w) (hp1 : pc + 1 < 60000) (ho : K.code.getD pc 0 = 50) (h64 : s.length < 64) (hcal : K.caller = adNo 240) :
    CallG Hvaf.prog 121 #[ptr cb 0, .int .u8 ((50 : Nat) : Int)] ⟨I, ⟨cb, sz, T, c⟩ :: (M ++ G)⟩ fun _ S' => ∃ r, OpP cb sz T c K V 0 0 0 0 0 0 (plainN kecN K ⟨pc, gas, s, mem, w⟩ 50) r S' :=
  mExOpSurround (by decide) (OpP.ofSetP2 h hR rfl rfl (σ := plainN kecN K ⟨pc, gas, s, mem, w⟩ 50) rfl rfl (t0 (s := s) (show bev K.caller = bev (adNo 240) by rw [hcal])) (mSu50 h.s2 h.eK h.eM hp1 ho h64))
theorem ex88 {I : Ent → Prop} {cb sz : Nat} {T : TypeId} {c : Nat → Value} {K : YK} {V : Vl} {w : YW} {pc gas : Nat} {s mem : List Nat} {M G : List Ent} (h : EI I cb sz c K V pc gas s mem M G) (hR : RJ K V w) (hp1 : pc + 1 < 60000) (ho : K.code.getD pc 0 = 88) (h64 : s.length < 64) :
    CallG Hvaf.prog 121 #[ptr cb 0, .int .u8 ((88 : Nat) : Int)] ⟨I, ⟨cb, sz, T, c⟩ :: (M ++ G)⟩ fun _ S' => ∃ r, OpP cb sz T c K V 0 0 0 0 0 0 (plainN kecN K ⟨pc, gas, s, mem, w⟩ 88) r S' :=
  mExOpSurround (by decide) (OpP.ofSetP2 h hR rfl rfl (σ := plainN kecN K ⟨pc, gas, s, mem, w⟩ 88) rfl rfl (t0 (s := s) rfl) (mSu88 h.s2 h.eK h.eM hp1 ho h64))
theorem ex90 {I : Ent → Prop} {cb sz : Nat} {T : TypeId} {c : Nat → Value} {K : YK} {V : Vl} {w : YW} {pc gas : Nat} {s mem : List Nat} {M G : List Ent} (h : EI I cb sz c K V pc gas s mem M G) (hR : RJ K V w) (hp1 : pc + 1 < 60000) (ho : K.code.getD pc 0 = 90) (h64 : s.length < 64) :
    CallG Hvaf.prog 121 #[ptr cb 0, .int .u8 ((90 : Nat) : Int)] ⟨I, ⟨cb, sz, T, c⟩ :: (M ++ G)⟩ fun _ S' => ∃ r, OpP cb sz T c K V 0 0 0 0 0 0 (plainN kecN K ⟨pc, gas, s, mem, w⟩ 90) r S' :=
  mExOpSurround (by decide) (OpP.ofSetP2 h hR rfl rfl (σ := plainN kecN K ⟨pc, gas, s, mem, w⟩ 90) rfl rfl (t0 (s := s) rfl) (mSu90 h.s2 h.eK h.eM hp1 ho h64))
theorem ex54 {I : Ent → Prop} {cb sz : Nat} {T : TypeId} {c : Nat → Value} {K : YK} {V : Vl} {w : YW} {pc gas : Nat} {s mem : List Nat} {M G : List Ent} (h : EI I cb sz c K V pc gas s mem M G) (hR : RJ K V w) (hp1 : pc + 1 < 60000) (ho : K.code.getD pc 0 = 54) (h64 : s.length < 64) :
    CallG Hvaf.prog 121 #[ptr cb 0, .int .u8 ((54 : Nat) : Int)] ⟨I, ⟨cb, sz, T, c⟩ :: (M ++ G)⟩ fun _ S' => ∃ r, OpP cb sz T c K V 0 0 0 0 0 0 (plainN kecN K ⟨pc, gas, s, mem, w⟩ 54) r S' :=
  mExOpSurround (by decide) (OpP.ofSetP2 h hR rfl rfl (σ := plainN kecN K ⟨pc, gas, s, mem, w⟩ 54) rfl rfl (t0 (s := s) rfl) (mSu54 h.s2 h.eK h.eM hp1 ho h64))
theorem ex56 {I : Ent → Prop} {cb sz : Nat} {T : TypeId} {c : Nat → Value} {K : YK} {V : Vl} {w : YW} {pc gas : Nat} {s mem : List Nat} {M G : List Ent} (h : EI I cb sz c K V pc gas s mem M G) (hR : RJ K V w) (hp1 : pc + 1 < 60000) (ho : K.code.getD pc 0 = 56) (h64 : s.length < 64) :
    CallG Hvaf.prog 121 #[ptr cb 0, .int .u8 ((56 : Nat) : Int)] ⟨I, ⟨cb, sz, T, c⟩ :: (M ++ G)⟩ fun _ S' => ∃ r, OpP cb sz T c K V 0 0 0 0 0 0 (plainN kecN K ⟨pc, gas, s, mem, w⟩ 56) r S' :=
  mExOpSurround (by decide) (OpP.ofSetP2 h hR rfl rfl (σ := plainN kecN K ⟨pc, gas, s, mem, w⟩ 56) rfl rfl (t0 (s := s) rfl) (mSu56 h.s2 h.eK h.eM hp1 ho h64))
theorem ex48 {I : Ent → Prop} {cb sz : Nat} {T : TypeId} {c : Nat → Value} {K : YK} {V : Vl} {w : YW} {pc gas : Nat} {s mem : List Nat} {M G : List Ent} (h : EI I cb sz c K V pc gas s mem M G) (hR : RJ K V w) (hp1 : pc + 1 < 60000) (ho : K.code.getD pc 0 = 48) (h64 : s.length < 64) :
    CallG Hvaf.prog 121 #[ptr cb 0, .int .u8 ((48 : Nat) : Int)] ⟨I, ⟨cb, sz, T, c⟩ :: (M ++ G)⟩ fun _ S' => ∃ r, OpP cb sz T c K V 0 0 0 0 0 0 (plainN kecN K ⟨pc, gas, s, mem, w⟩ 48) r S' :=
  mExOpSurround (by decide) (OpP.ofSetP2 h hR rfl rfl (σ := plainN kecN K ⟨pc, gas, s, mem, w⟩ 48) rfl rfl (t0 (s := s) rfl) (mSu48 h.s2 h.eK h.eM hp1 ho h64))
theorem ex51 {I : Ent → Prop} {cb sz : Nat} {T : TypeId} {c : Nat → Value} {K : YK} {V : Vl} {w : YW} {pc gas : Nat} {s mem : List Nat} {M G : List Ent} (h : EI I cb sz c K V pc gas s mem M G) (hR : RJ K V w) (hp1 : pc + 1 < 60000) (ho : K.code.getD pc 0 = 51) (h64 : s.length < 64) :
    CallG Hvaf.prog 121 #[ptr cb 0, .int .u8 ((51 : Nat) : Int)] ⟨I, ⟨cb, sz, T, c⟩ :: (M ++ G)⟩ fun _ S' => ∃ r, OpP cb sz T c K V 0 0 0 0 0 0 (plainN kecN K ⟨pc, gas, s, mem, w⟩ 51) r S' :=
  mExOpSurround (by decide) (OpP.ofSetP2 h hR rfl rfl (σ := plainN kecN K ⟨pc, gas, s, mem, w⟩ 51) rfl rfl (t0 (s := s) rfl) (mSu51 h.s2 h.eK h.eM hp1 ho h64))
theorem ex52 {I : Ent → Prop} {cb sz : Nat} {T : TypeId} {c : Nat → Value} {K : YK} {V : Vl} {w : YW} {pc gas : Nat} {s mem : List Nat} {M G : List Ent} (h : EI I cb sz c K V pc gas s mem M G) (hR : RJ K V w) (hp1 : pc + 1 < 60000) (ho : K.code.getD pc 0 = 52) (h64 : s.length < 64) :
    CallG Hvaf.prog 121 #[ptr cb 0, .int .u8 ((52 : Nat) : Int)] ⟨I, ⟨cb, sz, T, c⟩ :: (M ++ G)⟩ fun _ S' => ∃ r, OpP cb sz T c K V 0 0 0 0 0 0 (plainN kecN K ⟨pc, gas, s, mem, w⟩ 52) r S' :=
  mExOpSurround (by decide) (OpP.ofSetP2 h hR rfl rfl (σ := plainN kecN K ⟨pc, gas, s, mem, w⟩ 52) rfl rfl (t0 (s := s) rfl) (mSu52 h.s2 h.eK h.eM hp1 ho h64))
theorem ex58 {I : Ent → Prop} {cb sz : Nat} {T : TypeId} {c : Nat → Value} {K : YK} {V : Vl} {w : YW} {pc gas : Nat} {s mem : List Nat} {M G : List Ent} (h : EI I cb sz c K V pc gas s mem M G) (hR : RJ K V w) (hp1 : pc + 1 < 60000) (ho : K.code.getD pc 0 = 58) (h64 : s.length < 64) :
    CallG Hvaf.prog 121 #[ptr cb 0, .int .u8 ((58 : Nat) : Int)] ⟨I, ⟨cb, sz, T, c⟩ :: (M ++ G)⟩ fun _ S' => ∃ r, OpP cb sz T c K V 0 0 0 0 0 0 (plainN kecN K ⟨pc, gas, s, mem, w⟩ 58) r S' :=
  mExOpSurround (by decide) (OpP.ofSetP2 h hR rfl rfl (σ := plainN kecN K ⟨pc, gas, s, mem, w⟩ 58) rfl rfl (t0 (s := s) rfl) (mSu58 h.s2 h.eK h.eM hp1 ho h64))
theorem ex61 {I : Ent → Prop} {cb sz : Nat} {T : TypeId} {c : Nat → Value} {K : YK} {V : Vl} {w : YW} {pc gas : Nat} {s mem : List Nat} {M G : List Ent} (h : EI I cb sz c K V pc gas s mem M G) (hR : RJ K V w) (hp1 : pc + 1 < 60000) (ho : K.code.getD pc 0 = 61) (h64 : s.length < 64) :
    CallG Hvaf.prog 121 #[ptr cb 0, .int .u8 ((61 : Nat) : Int)] ⟨I, ⟨cb, sz, T, c⟩ :: (M ++ G)⟩ fun _ S' => ∃ r, OpP cb sz T c K V 0 0 0 0 0 0 (plainN kecN K ⟨pc, gas, s, mem, w⟩ 61) r S' :=
  mExOpSurround (by decide) (OpP.ofSetP2 h hR rfl rfl (σ := plainN kecN K ⟨pc, gas, s, mem, w⟩ 61) rfl rfl (t0 (s := s) rfl) (mSu61 h.s2 h.eK h.eM hp1 ho h64))
theorem ex89 {I : Ent → Prop} {cb sz : Nat} {T : TypeId} {c : Nat → Value} {K : YK} {V : Vl} {w : YW} {pc gas : Nat} {s mem : List Nat} {M G : List Ent} (h : EI I cb sz c K V pc gas s mem M G) (hR : RJ K V w) (hp1 : pc + 1 < 60000) (ho : K.code.getD pc 0 = 89) (h64 : s.length < 64) :
    CallG Hvaf.prog 121 #[ptr cb 0, .int .u8 ((89 : Nat) : Int)] ⟨I, ⟨cb, sz, T, c⟩ :: (M ++ G)⟩ fun _ S' => ∃ r, OpP cb sz T c K V 0 0 0 0 0 0 (plainN kecN K ⟨pc, gas, s, mem, w⟩ 89) r S' :=
  mExOpSurround (by decide) (OpP.ofSetP2 h hR rfl rfl (σ := plainN kecN K ⟨pc, gas, s, mem, w⟩ 89) rfl rfl (t0 (s := s) rfl) (mSu89 h.eA h.s2 h.eK h.eM hp1 ho h64))
theorem ex53 {I : Ent → Prop} {cb sz : Nat} {T : TypeId} {c : Nat → Value} {K : YK} {V : Vl} {w : YW} {pc gas : Nat} {s mem : List Nat} {M G : List Ent} (h : EI I cb sz c K V pc gas s mem M G) (hR : RJ K V w) (hp1 : pc + 1 < 60000) (ho : K.code.getD pc 0 = 53) (h2 : 1 ≤ s.length) :
    CallG Hvaf.prog 121 #[ptr cb 0, .int .u8 ((53 : Nat) : Int)] ⟨I, ⟨cb, sz, T, c⟩ :: (M ++ G)⟩ fun _ S' => ∃ r, OpP cb sz T c K V 0 0 0 0 0 0 (plainN kecN K ⟨pc, gas, s, mem, w⟩ 53) r S' :=
  mExOpSurround (by decide) (OpP.ofSetP h hR rfl rfl (σ := plainN kecN K ⟨pc, gas, s, mem, w⟩ 53) (mSu53 h.s2 h.eK h.eM hp1 ho h2 (show s.length - 1 < 64 by have := h.eM.sl; omega)))
theorem ex65 {I : Ent → Prop} {cb sz : Nat} {T : TypeId} {c : Nat → Value} {K : YK} {V : Vl} {w : YW} {pc gas : Nat} {s mem : List Nat} {M G : List Ent} (h : EI I cb sz c K V pc gas s mem M G) (hR : RJ K V w) (hp1 : pc + 1 < 60000) (ho : K.code.getD pc 0 = 65) (h64 : s.length < 64) :
    CallG Hvaf.prog 121 #[ptr cb 0, .int .u8 ((65 : Nat) : Int)] ⟨I, ⟨cb, sz, T, c⟩ :: (M ++ G)⟩ fun _ S' => ∃ r, OpP cb sz T c K V 0 0 0 0 0 0 (plainN kecN K ⟨pc, gas, s, mem, w⟩ 65) r S' :=
  mExOpBlock (by decide) (OpP.ofSetP2 h hR rfl rfl (σ := plainN kecN K ⟨pc, gas, s, mem, w⟩ 65) rfl rfl (t0 (s := s) rfl) (mBl65 h.s2 h.eK h.eM hp1 ho h64))
theorem ex66 {I : Ent → Prop} {cb sz : Nat} {T : TypeId} {c : Nat → Value} {K : YK} {V : Vl} {w : YW} {pc gas : Nat} {s mem : List Nat} {M G : List Ent} (h : EI I cb sz c K V pc gas s mem M G) (hR : RJ K V w) (hp1 : pc + 1 < 60000) (ho : K.code.getD pc 0 = 66) (h64 : s.length < 64) :
    CallG Hvaf.prog 121 #[ptr cb 0, .int .u8 ((66 : Nat) : Int)] ⟨I, ⟨cb, sz, T, c⟩ :: (M ++ G)⟩ fun _ S' => ∃ r, OpP cb sz T c K V 0 0 0 0 0 0 (plainN kecN K ⟨pc, gas, s, mem, w⟩ 66) r S' :=
  mExOpBlock (by decide) (OpP.ofSetP2 h hR rfl rfl (σ := plainN kecN K ⟨pc, gas, s, mem, w⟩ 66) rfl rfl (t0 (s := s) rfl) (mBl66 h.s2 h.eK h.eM hp1 ho h64))
theorem ex67 {I : Ent → Prop} {cb sz : Nat} {T : TypeId} {c : Nat → Value} {K : YK} {V : Vl} {w : YW} {pc gas : Nat} {s mem : List Nat} {M G : List Ent} (h : EI I cb sz c K V pc gas s mem M G) (hR : RJ K V w) (hp1 : pc + 1 < 60000) (ho : K.code.getD pc 0 = 67) (h64 : s.length < 64) :
    CallG Hvaf.prog 121 #[ptr cb 0, .int .u8 ((67 : Nat) : Int)] ⟨I, ⟨cb, sz, T, c⟩ :: (M ++ G)⟩ fun _ S' => ∃ r, OpP cb sz T c K V 0 0 0 0 0 0 (plainN kecN K ⟨pc, gas, s, mem, w⟩ 67) r S' :=
  mExOpBlock (by decide) (OpP.ofSetP2 h hR rfl rfl (σ := plainN kecN K ⟨pc, gas, s, mem, w⟩ 67) rfl rfl (t0 (s := s) rfl) (mBl67 h.s2 h.eK h.eM hp1 ho h64))
theorem ex69 {I : Ent → Prop} {cb sz : Nat} {T : TypeId} {c : Nat → Value} {K : YK} {V : Vl} {w : YW} {pc gas : Nat} {s mem : List Nat} {M G : List Ent} (h : EI I cb sz c K V pc gas s mem M G) (hR : RJ K V w) (hp1 : pc + 1 < 60000) (ho : K.code.getD pc 0 = 69) (h64 : s.length < 64) :
    CallG Hvaf.prog 121 #[ptr cb 0, .int .u8 ((69 : Nat) : Int)] ⟨I, ⟨cb, sz, T, c⟩ :: (M ++ G)⟩ fun _ S' => ∃ r, OpP cb sz T c K V 0 0 0 0 0 0 (plainN kecN K ⟨pc, gas, s, mem, w⟩ 69) r S' :=
  mExOpBlock (by decide) (OpP.ofSetP2 h hR rfl rfl (σ := plainN kecN K ⟨pc, gas, s, mem, w⟩ 69) rfl rfl (t0 (s := s) rfl) (mBl69 h.s2 h.eK h.eM hp1 ho h64))
theorem ex68 {I : Ent → Prop} {cb sz : Nat} {T : TypeId} {c : Nat → Value} {K : YK} {V : Vl} {w : YW} {pc gas : Nat} {s mem : List Nat} {M G : List Ent} (h : EI I cb sz c K V pc gas s mem M G) (hR : RJ K V w) (hp1 : pc + 1 < 60000) (ho : K.code.getD pc 0 = 68) (h64 : s.length < 64) :
    CallG Hvaf.prog 121 #[ptr cb 0, .int .u8 ((68 : Nat) : Int)] ⟨I, ⟨cb, sz, T, c⟩ :: (M ++ G)⟩ fun _ S' => ∃ r, OpP cb sz T c K V 0 0 0 0 0 0 (plainN kecN K ⟨pc, gas, s, mem, w⟩ 68) r S' :=
  mExOpBlock (by decide) (OpP.ofSetP2 h hR rfl rfl (σ := plainN kecN K ⟨pc, gas, s, mem, w⟩ 68) rfl rfl (t0 (s := s) (show 0 = bev (List.replicate 32 0) from by decide)) (mBl68 h.s2 h.eK h.eM hp1 ho h64))
theorem ex70 {I : Ent → Prop} {cb sz : Nat} {T : TypeId} {c : Nat → Value} {K : YK} {V : Vl} {w : YW} {pc gas : Nat} {s mem : List Nat} {M G : List Ent} (h : EI I cb sz c K V pc gas s mem M G) (hR : RJ K V w) (hp1 : pc + 1 < 60000) (ho : K.code.getD pc 0 = 70) (h64 : s.length < 64) :
    CallG Hvaf.prog 121 #[ptr cb 0, .int .u8 ((70 : Nat) : Int)] ⟨I, ⟨cb, sz, T, c⟩ :: (M ++ G)⟩ fun _ S' => ∃ r, OpP cb sz T c K V 0 0 0 0 0 0 (plainN kecN K ⟨pc, gas, s, mem, w⟩ 70) r S' :=
  mExOpBlock (by decide) (OpP.ofSetP2 h hR rfl rfl (σ := plainN kecN K ⟨pc, gas, s, mem, w⟩ 70) rfl rfl (t0 (s := s) (show 0 = bev (List.replicate 32 0) from by decide)) (mBl70 h.s2 h.eK h.eM hp1 ho h64))
theorem ex72 {I : Ent → Prop} {cb sz : Nat} {T : TypeId} {c : Nat → Value} {K : YK} {V : Vl} {w : YW} {pc gas : Nat} {s mem : List Nat} {M G : List Ent} (h : EI I cb sz c K V pc gas s mem M G) (hR : RJ K V w) (hp1 : pc + 1 < 60000) (ho : K.code.getD pc 0 = 72) (h64 : s.length < 64) :
    CallG Hvaf.prog 121 #[ptr cb 0, .int .u8 ((72 : Nat) : Int)] ⟨I, ⟨cb, sz, T, c⟩ :: (M ++ G)⟩ fun _ S' => ∃ r, OpP cb sz T c K V 0 0 0 0 0 0 (plainN kecN K ⟨pc, gas, s, mem, w⟩ 72) r S' :=
  mExOpBlock (by decide) (OpP.ofSetP2 h hR rfl rfl (σ := plainN kecN K ⟨pc, gas, s, mem, w⟩ 72) rfl rfl (t0 (s := s) (show 0 = bev (List.replicate 32 0) from by decide)) (mBl72 h.s2 h.eK h.eM hp1 ho h64))
theorem ex64 {I : Ent → Prop} {cb sz : Nat} {T : TypeId} {c : Nat → Value} {K : YK} {V : Vl} {w : YW} {pc gas : Nat} {s mem : List Nat} {M G : List Ent} (h : EI I cb sz c K V pc gas s mem M G) (hR : RJ K V w) (hp1 : pc + 1 < 60000) (ho : K.code.getD pc 0 = 64) (h2 : 1 ≤ s.length) :
    CallG Hvaf.prog 121 #[ptr cb 0, .int .u8 ((64 : Nat) : Int)] ⟨I, ⟨cb, sz, T, c⟩ :: (M ++ G)⟩ fun _ S' => ∃ r, OpP cb sz T c K V 0 0 0 0 0 0 (plainN kecN K ⟨pc, gas, s, mem, w⟩ 64) r S' :=
  mExOpBlock (by decide) (OpP.ofSetP h hR rfl rfl (σ := plainN kecN K ⟨pc, gas, s, mem, w⟩ 64) (mBl64 h.s2 h.eK h.eM hp1 ho h2))
theorem ex91 {I : Ent → Prop} {cb sz : Nat} {T : TypeId} {c : Nat → Value} {K : YK} {V : Vl} {w : YW} {pc gas : Nat} {s mem : List Nat} {M G : List Ent} (h : EI I cb sz c K V pc gas s mem M G) (hR : RJ K V w) (hp1 : pc + 1 < 60000) (ho : K.code.getD pc 0 = 91) :
    CallG Hvaf.prog 121 #[ptr cb 0, .int .u8 ((91 : Nat) : Int)] ⟨I, ⟨cb, sz, T, c⟩ :: (M ++ G)⟩ fun _ S' => ∃ r, OpP cb sz T c K V 0 0 0 0 0 0 (plainN kecN K ⟨pc, gas, s, mem, w⟩ 91) r S' :=
  mExOpJump (by decide) (OpP.ofSetP2 h hR rfl rfl (σ := plainN kecN K ⟨pc, gas, s, mem, w⟩ 91) rfl rfl (s91 (kec := kecN) (K := K) (pc := pc) (gas := gas) (mem := mem) (w := w) (s := s)) (mJ91 h.s2 h.eK h.eM hp1 ho))
theorem ex86 {I : Ent → Prop} {cb sz : Nat} {T : TypeId} {c : Nat → Value} {K : YK} {V : Vl} {w : YW} {pc gas : Nat} {s mem : List Nat} {M G : List Ent} (h : EI I cb sz c K V pc gas s mem M G) (hR : RJ K V w) (hp1 : pc + 1 < 60000) (ho : K.code.getD pc 0 = 86) (h2 : 1 ≤ s.length) (ha : argN s 0 < 512) :
    CallG Hvaf.prog 121 #[ptr cb 0, .int .u8 ((86 : Nat) : Int)] ⟨I, ⟨cb, sz, T, c⟩ :: (M ++ G)⟩ fun _ S' => ∃ r, OpP cb sz T c K V 0 0 0 0 0 0 (plainN kecN K ⟨pc, gas, s, mem, w⟩ 86) r S' :=
  mExOpJump (by decide) (OpP.ofSetP h hR rfl rfl (σ := plainN kecN K ⟨pc, gas, s, mem, w⟩ 86) (mJ86 h.s2 h.eK h.eM hp1 ho h2 ha))
end Go.Proofs.YgvafwGreat
