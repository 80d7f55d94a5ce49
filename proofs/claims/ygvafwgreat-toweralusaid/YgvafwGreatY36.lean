import Derived.Test.YgvafwGreatY35
set_option maxRecDepth 100000
set_option maxHeartbeats 4000000
set_option linter.unusedVariables false
set_option linter.unusedSimpArgs false
-- v2
-- v4
-- v5
-- v6
-- v7
namespace Go.Proofs.YgvafwGreat
open Go.HL Go.Proofs

def sstoreN (K : YK) (w : YW) (s : List Nat) : Nat × Nat × Nat := sstN (valT (findT K.self (argN s 0) K.st)) (loadS (getA w.al K.self).slots (argN s 0)) (argN s 1) (!(findT K.self (argN s 0) w.ms).isSome)
def accN (w : YW) (a : Nat) : Nat := if adN a ∈ w.wa then 100 else 2600
/-- What an instruction costs without the growth of memory. -/
def bareN (K : YK) (w : YW) (s : List Nat) (o : Nat) : Nat :=
  if o = 1 ∨ o = 3 ∨ o = 53 ∨ o = 81 ∨ o = 82 ∨ o = 83 ∨ 16 ≤ o ∧ o ≤ 29 ∨ 96 ≤ o ∧ o ≤ 159 then 3
  else if o = 2 ∨ o = 4 ∨ o = 5 ∨ o = 6 ∨ o = 7 ∨ o = 11 ∨ o = 71 then 5
  else if o = 8 ∨ o = 9 ∨ o = 86 then 8
  else if o = 87 then 10
  else if o = 91 then 1
  else if o = 64 then 20
  else if o = 0 ∨ o = 243 ∨ o = 253 then 0
  else if o = 92 ∨ o = 93 then 100
  else if o = 10 then 10 + 50 * ((blen (argN s 1) + 7) / 8)
  else if o = 32 then 30 + 6 * ((argN s 1 + 31) / 32)
  else if o = 55 ∨ o = 57 ∨ o = 62 ∨ o = 94 then 3 + 3 * ((argN s 2 + 31) / 32)
  else if o = 49 ∨ o = 59 ∨ o = 63 then accN w (argN s 0)
  else if o = 60 then accN w (argN s 0) + 3 * ((argN s 3 + 31) / 32)
  else if 160 ≤ o ∧ o ≤ 164 then 375 + 375 * (o - 160) + 8 * argN s 1
  else if o = 84 then (if (findT K.self (argN s 0) w.ms).isSome then 100 else 2100)
  else if o = 85 then (sstoreN K w s).1
  else 2
/-- The state's and the frame's cells, as a cost reads them. -/
structure CsI (I : Ent → Prop) (cs cf : Nat → Value) (K : YK) (w : YW) (pc gas : Nat) (s : List Nat) : Prop where
  W : YWI I cs w
  F : YF I cf K pc gas s
  S : TempsI I (cs 8) K.st
  B : YB w K.self
  KB : KB K
theorem CsI.up {I J : Ent → Prop} {cs cf : Nat → Value} {K : YK} {w : YW} {pc gas : Nat} {s : List Nat} (h : CsI I cs cf K w pc gas s) (hs : Sub I J) : CsI J cs cf K w pc gas s := ⟨h.W.up hs, h.F.up hs, h.S.up hs, h.B, h.KB⟩
theorem NB_256 {a k : Nat} (h : a < 2 ^ 256) (hk : k < 2 ^ 100) : k * (a + 100000) < NB := by
  refine NB_big ?_
  have e : (2 : Nat) ^ 256 = 115792089237316195423570985008687907853269984665640564039457584007913129639936 := by decide
  rw [e] at h
  have e2 : (2 : Nat) ^ 100 = 1267650600228229401496703205376 := by decide
  rw [e2] at hk
  calc k * (a + 100000) ≤ k * (115792089237316195423570985008687907853269984665640564039457584007913129639936 + 100000) := Nat.mul_le_mul_left _ (by omega)
    _ < 1267650600228229401496703205376 * (115792089237316195423570985008687907853269984665640564039457584007913129639936 + 100000) := Nat.mul_lt_mul_of_pos_right hk (by omega)
    _ ≤ 115792089237316195423570985008687907853269984665640564039457584007913129639936 * 115792089237316195423570985008687907853269984665640564039457584007913129639936 := by decide
theorem NB_le {a b : Nat} (h : a ≤ b) (hb : b < NB) : a < NB := Nat.lt_of_le_of_lt h hb
theorem lin_NB {a k : Nat} (h : a < 2 ^ 256) (hk : k ≤ 1000 * (a + 100000)) : k < NB := NB_le hk (NB_256 h (by decide))
theorem yBare3 {I : Ent → Prop} {G : List Ent} {sb ssz fb fsz pc gas o : Nat} {Ts Tf : TypeId} {cs cf : Nat → Value} {K : YK} {w : YW} {s : List Nat} (hsz : 9 ≤ ssz) (hfz : 60 ≤ fsz) (hC : CsI I cs cf K w pc gas s) (ho : o = 1 ∨ o = 3 ∨ o = 53 ∨ o = 81 ∨ o = 82 ∨ o = 83) :
    CallG Hvaf.prog 233 #[ptr sb 0, ptr fb 0, .int .u8 (o : Nat)] ⟨I, ⟨sb, ssz, Ts, cs⟩ :: ⟨fb, fsz, Tf, cf⟩ :: G⟩ fun r S' => S'.G = ⟨sb, ssz, Ts, cs⟩ :: ⟨fb, fsz, Tf, cf⟩ :: G ∧ NatI S'.I r (bareN K w s o) := by
  have hn := fun (I : Ent → Prop) (G : List Ent) => yNum (I := I) (G := G) (n := 3) (by decide)
  rcases ho with rfl | rfl | rfl | rfl | rfl | rfl
  all_goals (
    refine CallG.start (C := mkC Hvaf.prog) cok (args := [ptr sb 0, ptr fb 0, .int .u8 ((_ : Nat) : Int)]) Hvaf.func233 rfl Hvaf.ntmps233 (by simp) (by kernel_rfl) ?_
    repeat (first | refine SeqS.go cok ?_ | refine GuardS.yes rfl ?_ | refine GuardS.no rfl ?_ | refine CondS.t rfl ?_ | refine CondS.f rfl ?_)
    refine callN (hn _ _) fun w1 J1 hs1 hw1 => ?_
    repeat (first | refine SeqS.go cok ?_)
    exact Fin.same ⟨rfl, hw1⟩)
theorem yBare5 {I : Ent → Prop} {G : List Ent} {sb ssz fb fsz pc gas o : Nat} {Ts Tf : TypeId} {cs cf : Nat → Value} {K : YK} {w : YW} {s : List Nat} (hsz : 9 ≤ ssz) (hfz : 60 ≤ fsz) (hC : CsI I cs cf K w pc gas s) (ho : o = 2 ∨ o = 4 ∨ o = 5 ∨ o = 6 ∨ o = 7 ∨ o = 11 ∨ o = 71) :
    CallG Hvaf.prog 233 #[ptr sb 0, ptr fb 0, .int .u8 (o : Nat)] ⟨I, ⟨sb, ssz, Ts, cs⟩ :: ⟨fb, fsz, Tf, cf⟩ :: G⟩ fun r S' => S'.G = ⟨sb, ssz, Ts, cs⟩ :: ⟨fb, fsz, Tf, cf⟩ :: G ∧ NatI S'.I r (bareN K w s o) := by
  have hn := fun (I : Ent → Prop) (G : List Ent) => yNum (I := I) (G := G) (n := 5) (by decide)
  rcases ho with rfl | rfl | rfl | rfl | rfl | rfl | rfl
  all_goals (
    refine CallG.start (C := mkC Hvaf.prog) cok (args := [ptr sb 0, ptr fb 0, .int .u8 ((_ : Nat) : Int)]) Hvaf.func233 rfl Hvaf.ntmps233 (by simp) (by kernel_rfl) ?_
    repeat (first | refine SeqS.go cok ?_ | refine GuardS.yes rfl ?_ | refine GuardS.no rfl ?_ | refine CondS.t rfl ?_ | refine CondS.f rfl ?_)
    refine callN (hn _ _) fun w1 J1 hs1 hw1 => ?_
    repeat (first | refine SeqS.go cok ?_)
    exact Fin.same ⟨rfl, hw1⟩)
theorem yBare8 {I : Ent → Prop} {G : List Ent} {sb ssz fb fsz pc gas o : Nat} {Ts Tf : TypeId} {cs cf : Nat → Value} {K : YK} {w : YW} {s : List Nat} (hsz : 9 ≤ ssz) (hfz : 60 ≤ fsz) (hC : CsI I cs cf K w pc gas s) (ho : o = 8 ∨ o = 9 ∨ o = 86) :
    CallG Hvaf.prog 233 #[ptr sb 0, ptr fb 0, .int .u8 (o : Nat)] ⟨I, ⟨sb, ssz, Ts, cs⟩ :: ⟨fb, fsz, Tf, cf⟩ :: G⟩ fun r S' => S'.G = ⟨sb, ssz, Ts, cs⟩ :: ⟨fb, fsz, Tf, cf⟩ :: G ∧ NatI S'.I r (bareN K w s o) := by
  have hn := fun (I : Ent → Prop) (G : List Ent) => yNum (I := I) (G := G) (n := 8) (by decide)
  rcases ho with rfl | rfl | rfl
  all_goals (
    refine CallG.start (C := mkC Hvaf.prog) cok (args := [ptr sb 0, ptr fb 0, .int .u8 ((_ : Nat) : Int)]) Hvaf.func233 rfl Hvaf.ntmps233 (by simp) (by kernel_rfl) ?_
    repeat (first | refine SeqS.go cok ?_ | refine GuardS.yes rfl ?_ | refine GuardS.no rfl ?_ | refine CondS.t rfl ?_ | refine CondS.f rfl ?_)
    refine callN (hn _ _) fun w1 J1 hs1 hw1 => ?_
    repeat (first | refine SeqS.go cok ?_)
    exact Fin.same ⟨rfl, hw1⟩)
theorem yBare10 {I : Ent → Prop} {G : List Ent} {sb ssz fb fsz pc gas o : Nat} {Ts Tf : TypeId} {cs cf : Nat → Value} {K : YK} {w : YW} {s : List Nat} (hsz : 9 ≤ ssz) (hfz : 60 ≤ fsz) (hC : CsI I cs cf K w pc gas s) (ho : o = 87) :
    CallG Hvaf.prog 233 #[ptr sb 0, ptr fb 0, .int .u8 (o : Nat)] ⟨I, ⟨sb, ssz, Ts, cs⟩ :: ⟨fb, fsz, Tf, cf⟩ :: G⟩ fun r S' => S'.G = ⟨sb, ssz, Ts, cs⟩ :: ⟨fb, fsz, Tf, cf⟩ :: G ∧ NatI S'.I r (bareN K w s o) := by
  have hn := fun (I : Ent → Prop) (G : List Ent) => yNum (I := I) (G := G) (n := 10) (by decide)
  rcases ho with rfl
  all_goals (
    refine CallG.start (C := mkC Hvaf.prog) cok (args := [ptr sb 0, ptr fb 0, .int .u8 ((_ : Nat) : Int)]) Hvaf.func233 rfl Hvaf.ntmps233 (by simp) (by kernel_rfl) ?_
    repeat (first | refine SeqS.go cok ?_ | refine GuardS.yes rfl ?_ | refine GuardS.no rfl ?_ | refine CondS.t rfl ?_ | refine CondS.f rfl ?_)
    refine callN (hn _ _) fun w1 J1 hs1 hw1 => ?_
    repeat (first | refine SeqS.go cok ?_)
    exact Fin.same ⟨rfl, hw1⟩)
theorem yBare1 {I : Ent → Prop} {G : List Ent} {sb ssz fb fsz pc gas o : Nat} {Ts Tf : TypeId} {cs cf : Nat → Value} {K : YK} {w : YW} {s : List Nat} (hsz : 9 ≤ ssz) (hfz : 60 ≤ fsz) (hC : CsI I cs cf K w pc gas s) (ho : o = 91) :
    CallG Hvaf.prog 233 #[ptr sb 0, ptr fb 0, .int .u8 (o : Nat)] ⟨I, ⟨sb, ssz, Ts, cs⟩ :: ⟨fb, fsz, Tf, cf⟩ :: G⟩ fun r S' => S'.G = ⟨sb, ssz, Ts, cs⟩ :: ⟨fb, fsz, Tf, cf⟩ :: G ∧ NatI S'.I r (bareN K w s o) := by
  have hn := fun (I : Ent → Prop) (G : List Ent) => yNum (I := I) (G := G) (n := 1) (by decide)
  rcases ho with rfl
  all_goals (
    refine CallG.start (C := mkC Hvaf.prog) cok (args := [ptr sb 0, ptr fb 0, .int .u8 ((_ : Nat) : Int)]) Hvaf.func233 rfl Hvaf.ntmps233 (by simp) (by kernel_rfl) ?_
    repeat (first | refine SeqS.go cok ?_ | refine GuardS.yes rfl ?_ | refine GuardS.no rfl ?_ | refine CondS.t rfl ?_ | refine CondS.f rfl ?_)
    refine callN (hn _ _) fun w1 J1 hs1 hw1 => ?_
    repeat (first | refine SeqS.go cok ?_)
    exact Fin.same ⟨rfl, hw1⟩)
theorem yBare20 {I : Ent → Prop} {G : List Ent} {sb ssz fb fsz pc gas o : Nat} {Ts Tf : TypeId} {cs cf : Nat → Value} {K : YK} {w : YW} {s : List Nat} (hsz : 9 ≤ ssz) (hfz : 60 ≤ fsz) (hC : CsI I cs cf K w pc gas s) (ho : o = 64) :
    CallG Hvaf.prog 233 #[ptr sb 0, ptr fb 0, .int .u8 (o : Nat)] ⟨I, ⟨sb, ssz, Ts, cs⟩ :: ⟨fb, fsz, Tf, cf⟩ :: G⟩ fun r S' => S'.G = ⟨sb, ssz, Ts, cs⟩ :: ⟨fb, fsz, Tf, cf⟩ :: G ∧ NatI S'.I r (bareN K w s o) := by
  have hn := fun (I : Ent → Prop) (G : List Ent) => yNum (I := I) (G := G) (n := 20) (by decide)
  rcases ho with rfl
  all_goals (
    refine CallG.start (C := mkC Hvaf.prog) cok (args := [ptr sb 0, ptr fb 0, .int .u8 ((_ : Nat) : Int)]) Hvaf.func233 rfl Hvaf.ntmps233 (by simp) (by kernel_rfl) ?_
    repeat (first | refine SeqS.go cok ?_ | refine GuardS.yes rfl ?_ | refine GuardS.no rfl ?_ | refine CondS.t rfl ?_ | refine CondS.f rfl ?_)
    refine callN (hn _ _) fun w1 J1 hs1 hw1 => ?_
    repeat (first | refine SeqS.go cok ?_)
    exact Fin.same ⟨rfl, hw1⟩)
theorem yBare0 {I : Ent → Prop} {G : List Ent} {sb ssz fb fsz pc gas o : Nat} {Ts Tf : TypeId} {cs cf : Nat → Value} {K : YK} {w : YW} {s : List Nat} (hsz : 9 ≤ ssz) (hfz : 60 ≤ fsz) (hC : CsI I cs cf K w pc gas s) (ho : o = 0 ∨ o = 243 ∨ o = 253) :
    CallG Hvaf.prog 233 #[ptr sb 0, ptr fb 0, .int .u8 (o : Nat)] ⟨I, ⟨sb, ssz, Ts, cs⟩ :: ⟨fb, fsz, Tf, cf⟩ :: G⟩ fun r S' => S'.G = ⟨sb, ssz, Ts, cs⟩ :: ⟨fb, fsz, Tf, cf⟩ :: G ∧ NatI S'.I r (bareN K w s o) := by
  have hn := fun (I : Ent → Prop) (G : List Ent) => yNum (I := I) (G := G) (n := 0) (by decide)
  rcases ho with rfl | rfl | rfl
  all_goals (
    refine CallG.start (C := mkC Hvaf.prog) cok (args := [ptr sb 0, ptr fb 0, .int .u8 ((_ : Nat) : Int)]) Hvaf.func233 rfl Hvaf.ntmps233 (by simp) (by kernel_rfl) ?_
    repeat (first | refine SeqS.go cok ?_ | refine GuardS.yes rfl ?_ | refine GuardS.no rfl ?_ | refine CondS.t rfl ?_ | refine CondS.f rfl ?_)
    refine callN (hn _ _) fun w1 J1 hs1 hw1 => ?_
    repeat (first | refine SeqS.go cok ?_)
    exact Fin.same ⟨rfl, hw1⟩)
theorem yBare100 {I : Ent → Prop} {G : List Ent} {sb ssz fb fsz pc gas o : Nat} {Ts Tf : TypeId} {cs cf : Nat → Value} {K : YK} {w : YW} {s : List Nat} (hsz : 9 ≤ ssz) (hfz : 60 ≤ fsz) (hC : CsI I cs cf K w pc gas s) (ho : o = 92 ∨ o = 93) :
    CallG Hvaf.prog 233 #[ptr sb 0, ptr fb 0, .int .u8 (o : Nat)] ⟨I, ⟨sb, ssz, Ts, cs⟩ :: ⟨fb, fsz, Tf, cf⟩ :: G⟩ fun r S' => S'.G = ⟨sb, ssz, Ts, cs⟩ :: ⟨fb, fsz, Tf, cf⟩ :: G ∧ NatI S'.I r (bareN K w s o) := by
  have hn := fun (I : Ent → Prop) (G : List Ent) => yNum (I := I) (G := G) (n := 100) (by decide)
  rcases ho with rfl | rfl
  all_goals (
    refine CallG.start (C := mkC Hvaf.prog) cok (args := [ptr sb 0, ptr fb 0, .int .u8 ((_ : Nat) : Int)]) Hvaf.func233 rfl Hvaf.ntmps233 (by simp) (by kernel_rfl) ?_
    repeat (first | refine SeqS.go cok ?_ | refine GuardS.yes rfl ?_ | refine GuardS.no rfl ?_ | refine CondS.t rfl ?_ | refine CondS.f rfl ?_)
    refine callN (hn _ _) fun w1 J1 hs1 hw1 => ?_
    repeat (first | refine SeqS.go cok ?_)
    exact Fin.same ⟨rfl, hw1⟩)
theorem yBare2a {I : Ent → Prop} {G : List Ent} {sb ssz fb fsz pc gas o : Nat} {Ts Tf : TypeId} {cs cf : Nat → Value} {K : YK} {w : YW} {s : List Nat} (hsz : 9 ≤ ssz) (hfz : 60 ≤ fsz) (hC : CsI I cs cf K w pc gas s) (ho : o = 48 ∨ o = 50 ∨ o = 51 ∨ o = 52 ∨ o = 54 ∨ o = 56 ∨ o = 58 ∨ o = 61 ∨ o = 65 ∨ o = 66) :
    CallG Hvaf.prog 233 #[ptr sb 0, ptr fb 0, .int .u8 (o : Nat)] ⟨I, ⟨sb, ssz, Ts, cs⟩ :: ⟨fb, fsz, Tf, cf⟩ :: G⟩ fun r S' => S'.G = ⟨sb, ssz, Ts, cs⟩ :: ⟨fb, fsz, Tf, cf⟩ :: G ∧ NatI S'.I r (bareN K w s o) := by
  have hf := fun (S : St) => Family_spec (S := S) (o := o) (by omega)
  have hn := fun (I : Ent → Prop) (G : List Ent) => yNum (I := I) (G := G) (n := 2) (by decide)
  rcases ho with rfl | rfl | rfl | rfl | rfl | rfl | rfl | rfl | rfl | rfl
  all_goals (
    refine CallG.start (C := mkC Hvaf.prog) cok (args := [ptr sb 0, ptr fb 0, .int .u8 ((_ : Nat) : Int)]) Hvaf.func233 rfl Hvaf.ntmps233 (by simp) (by kernel_rfl) ?_
    repeat (first | refine SeqS.go cok ?_ | refine GuardS.yes rfl ?_ | refine GuardS.no rfl ?_ | refine CondS.f rfl ?_)
    refine (hf _).mono ?_
    rintro r _ - ⟨rfl, rfl⟩
    repeat (first | refine SeqS.go cok ?_ | refine CondS.f rfl ?_)
    refine callN (hn _ _) fun w1 J1 hs1 hw1 => ?_
    repeat (first | refine SeqS.go cok ?_)
    exact Fin.same ⟨rfl, hw1⟩)
theorem yBare2b {I : Ent → Prop} {G : List Ent} {sb ssz fb fsz pc gas o : Nat} {Ts Tf : TypeId} {cs cf : Nat → Value} {K : YK} {w : YW} {s : List Nat} (hsz : 9 ≤ ssz) (hfz : 60 ≤ fsz) (hC : CsI I cs cf K w pc gas s) (ho : o = 67 ∨ o = 68 ∨ o = 69 ∨ o = 70 ∨ o = 72 ∨ o = 80 ∨ o = 88 ∨ o = 89 ∨ o = 90 ∨ o = 95) :
    CallG Hvaf.prog 233 #[ptr sb 0, ptr fb 0, .int .u8 (o : Nat)] ⟨I, ⟨sb, ssz, Ts, cs⟩ :: ⟨fb, fsz, Tf, cf⟩ :: G⟩ fun r S' => S'.G = ⟨sb, ssz, Ts, cs⟩ :: ⟨fb, fsz, Tf, cf⟩ :: G ∧ NatI S'.I r (bareN K w s o) := by
  have hf := fun (S : St) => Family_spec (S := S) (o := o) (by omega)
  have hn := fun (I : Ent → Prop) (G : List Ent) => yNum (I := I) (G := G) (n := 2) (by decide)
  rcases ho with rfl | rfl | rfl | rfl | rfl | rfl | rfl | rfl | rfl | rfl
  all_goals (
    refine CallG.start (C := mkC Hvaf.prog) cok (args := [ptr sb 0, ptr fb 0, .int .u8 ((_ : Nat) : Int)]) Hvaf.func233 rfl Hvaf.ntmps233 (by simp) (by kernel_rfl) ?_
    repeat (first | refine SeqS.go cok ?_ | refine GuardS.yes rfl ?_ | refine GuardS.no rfl ?_ | refine CondS.f rfl ?_)
    refine (hf _).mono ?_
    rintro r _ - ⟨rfl, rfl⟩
    repeat (first | refine SeqS.go cok ?_ | refine CondS.f rfl ?_)
    refine callN (hn _ _) fun w1 J1 hs1 hw1 => ?_
    repeat (first | refine SeqS.go cok ?_)
    exact Fin.same ⟨rfl, hw1⟩)
theorem yBareR1 {I : Ent → Prop} {G : List Ent} {sb ssz fb fsz pc gas o : Nat} {Ts Tf : TypeId} {cs cf : Nat → Value} {K : YK} {w : YW} {s : List Nat} (hsz : 9 ≤ ssz) (hfz : 60 ≤ fsz) (hC : CsI I cs cf K w pc gas s) (ho : 16 ≤ o) (ho2 : o ≤ 29) :
    CallG Hvaf.prog 233 #[ptr sb 0, ptr fb 0, .int .u8 (o : Nat)] ⟨I, ⟨sb, ssz, Ts, cs⟩ :: ⟨fb, fsz, Tf, cf⟩ :: G⟩ fun r S' => S'.G = ⟨sb, ssz, Ts, cs⟩ :: ⟨fb, fsz, Tf, cf⟩ :: G ∧ NatI S'.I r (bareN K w s o) := by
  have hr : bareN K w s o = 3 := by unfold bareN; rw [if_pos (by omega)]
  rw [hr]
  clear hr
  refine CallG.start (C := mkC Hvaf.prog) cok (args := [ptr sb 0, ptr fb 0, .int .u8 (o : Nat)]) Hvaf.func233 rfl Hvaf.ntmps233 (by simp) (by kernel_rfl) ?_
  repeat (first | refine SeqS.go cok ?_ | refine GuardS.yes rfl ?_ | refine GuardS.no rfl ?_ | refine CondS.f rfl ?_ | (refine GuardS.keep ?_; first | refine GuardS.T1 rfl (by omega) ?_ | refine GuardS.T0 rfl (by omega) ?_) | (refine CondS.keep ?_; first | refine CondS.d1 rfl (by omega) ?_))
  refine callN (yNum (n := 3) (by decide)) fun w1 J1 hs1 hw1 => ?_
  repeat (first | refine SeqS.go cok ?_)
  exact Fin.same ⟨rfl, hw1⟩
theorem yBareR2 {I : Ent → Prop} {G : List Ent} {sb ssz fb fsz pc gas o : Nat} {Ts Tf : TypeId} {cs cf : Nat → Value} {K : YK} {w : YW} {s : List Nat} (hsz : 9 ≤ ssz) (hfz : 60 ≤ fsz) (hC : CsI I cs cf K w pc gas s) (ho : 96 ≤ o) (ho2 : o ≤ 159) :
    CallG Hvaf.prog 233 #[ptr sb 0, ptr fb 0, .int .u8 (o : Nat)] ⟨I, ⟨sb, ssz, Ts, cs⟩ :: ⟨fb, fsz, Tf, cf⟩ :: G⟩ fun r S' => S'.G = ⟨sb, ssz, Ts, cs⟩ :: ⟨fb, fsz, Tf, cf⟩ :: G ∧ NatI S'.I r (bareN K w s o) := by
  have hr : bareN K w s o = 3 := by unfold bareN; rw [if_pos (by omega)]
  rw [hr]
  clear hr
  refine CallG.start (C := mkC Hvaf.prog) cok (args := [ptr sb 0, ptr fb 0, .int .u8 (o : Nat)]) Hvaf.func233 rfl Hvaf.ntmps233 (by simp) (by kernel_rfl) ?_
  repeat (first | refine SeqS.go cok ?_ | refine GuardS.yes rfl ?_ | (refine GuardS.keep ?_; first | refine GuardS.T1 rfl (by omega) ?_) | (refine CondS.keep ?_; first | refine CondS.d1 rfl (by omega) ?_))
  refine callN (yNum (n := 3) (by decide)) fun w1 J1 hs1 hw1 => ?_
  repeat (first | refine SeqS.go cok ?_)
  exact Fin.same ⟨rfl, hw1⟩
theorem yBareExp {I : Ent → Prop} {G : List Ent} {sb ssz fb fsz pc gas o : Nat} {Ts Tf : TypeId} {cs cf : Nat → Value} {K : YK} {w : YW} {s : List Nat} (hsz : 9 ≤ ssz) (hfz : 60 ≤ fsz) (hC : CsI I cs cf K w pc gas s) (ho : o = 10) :
    CallG Hvaf.prog 233 #[ptr sb 0, ptr fb 0, .int .u8 (o : Nat)] ⟨I, ⟨sb, ssz, Ts, cs⟩ :: ⟨fb, fsz, Tf, cf⟩ :: G⟩ fun r S' => S'.G = ⟨sb, ssz, Ts, cs⟩ :: ⟨fb, fsz, Tf, cf⟩ :: G ∧ NatI S'.I r (bareN K w s o) := by
  rcases ho with rfl
  all_goals (
    refine CallG.start (C := mkC Hvaf.prog) cok (args := [ptr sb 0, ptr fb 0, .int .u8 ((_ : Nat) : Int)]) Hvaf.func233 rfl Hvaf.ntmps233 (by simp) (by kernel_rfl) ?_
    repeat (first | refine SeqS.go cok ?_ | refine GuardS.yes rfl ?_ | refine GuardS.no rfl ?_ | refine CondS.t rfl ?_ | refine CondS.f rfl ?_)
    refine CallG.focus 1 rfl ?_
    refine (yArgF (i := 1) hfz hC.F (by decide)).mono ?_
    rintro u _ - ⟨rfl, hu⟩
    skip
    refine callN (yExpCost hu) fun w1 J1 hs1 hw1 => ?_
    repeat (first | refine SeqS.go cok ?_)
    exact Fin.focus 1 rfl (Fin.same ⟨rfl, hw1⟩))
theorem yBareKec {I : Ent → Prop} {G : List Ent} {sb ssz fb fsz pc gas o : Nat} {Ts Tf : TypeId} {cs cf : Nat → Value} {K : YK} {w : YW} {s : List Nat} (hsz : 9 ≤ ssz) (hfz : 60 ≤ fsz) (hC : CsI I cs cf K w pc gas s) (ho : o = 32) :
    CallG Hvaf.prog 233 #[ptr sb 0, ptr fb 0, .int .u8 (o : Nat)] ⟨I, ⟨sb, ssz, Ts, cs⟩ :: ⟨fb, fsz, Tf, cf⟩ :: G⟩ fun r S' => S'.G = ⟨sb, ssz, Ts, cs⟩ :: ⟨fb, fsz, Tf, cf⟩ :: G ∧ NatI S'.I r (bareN K w s o) := by
  have hb1 : argN s 1 < 2 ^ 256 := argN_lt hC.F.fb
  rcases ho with rfl
  all_goals (
    refine CallG.start (C := mkC Hvaf.prog) cok (args := [ptr sb 0, ptr fb 0, .int .u8 ((_ : Nat) : Int)]) Hvaf.func233 rfl Hvaf.ntmps233 (by simp) (by kernel_rfl) ?_
    repeat (first | refine SeqS.go cok ?_ | refine GuardS.yes rfl ?_ | refine GuardS.no rfl ?_ | refine CondS.t rfl ?_ | refine CondS.f rfl ?_)
    refine callN (yNum (n := 30) (by decide)) fun w1 J1 hs1 hw1 => ?_
    skip
    refine callN (yNum (n := 6) (by decide)) fun w2 J2 hs2 hw2 => ?_
    skip
    refine CallG.focus 1 rfl ?_
    refine (yArgF (i := 1) hfz ((hC.F.up hs1).up hs2) (by decide)).mono ?_
    rintro u _ - ⟨rfl, hu⟩
    skip
    refine callN (yWords hu (lin_NB hb1 (by omega))) fun w3 J3 hs3 hw3 => ?_
    skip
    refine callN (nMul (hw2.up hs3) hw3 (lin_NB hb1 (by omega))) fun w4 J4 hs4 hw4 => ?_
    skip
    refine callN (nAdd (((hw1.up hs2).up hs3).up hs4) hw4 (lin_NB hb1 (by omega))) fun w5 J5 hs5 hw5 => ?_
    repeat (first | refine SeqS.go cok ?_)
    exact Fin.focus 1 rfl (Fin.same ⟨rfl, hw5⟩))
theorem yBareCpy {I : Ent → Prop} {G : List Ent} {sb ssz fb fsz pc gas o : Nat} {Ts Tf : TypeId} {cs cf : Nat → Value} {K : YK} {w : YW} {s : List Nat} (hsz : 9 ≤ ssz) (hfz : 60 ≤ fsz) (hC : CsI I cs cf K w pc gas s) (ho : o = 55 ∨ o = 57 ∨ o = 62 ∨ o = 94) :
    CallG Hvaf.prog 233 #[ptr sb 0, ptr fb 0, .int .u8 (o : Nat)] ⟨I, ⟨sb, ssz, Ts, cs⟩ :: ⟨fb, fsz, Tf, cf⟩ :: G⟩ fun r S' => S'.G = ⟨sb, ssz, Ts, cs⟩ :: ⟨fb, fsz, Tf, cf⟩ :: G ∧ NatI S'.I r (bareN K w s o) := by
  have hb2 : argN s 2 < 2 ^ 256 := argN_lt hC.F.fb
  rcases ho with rfl | rfl | rfl | rfl
  all_goals (
    refine CallG.start (C := mkC Hvaf.prog) cok (args := [ptr sb 0, ptr fb 0, .int .u8 ((_ : Nat) : Int)]) Hvaf.func233 rfl Hvaf.ntmps233 (by simp) (by kernel_rfl) ?_
    repeat (first | refine SeqS.go cok ?_ | refine GuardS.yes rfl ?_ | refine GuardS.no rfl ?_ | refine CondS.t rfl ?_ | refine CondS.f rfl ?_)
    refine callN (yNum (n := 3) (by decide)) fun w1 J1 hs1 hw1 => ?_
    skip
    refine CallG.focus 1 rfl ?_
    refine (yArgF (i := 2) hfz (hC.F.up hs1) (by decide)).mono ?_
    rintro u _ - ⟨rfl, hu⟩
    skip
    refine callN (yCopyCost hu (lin_NB hb2 (by omega))) fun w3 J3 hs3 hw3 => ?_
    skip
    refine callN (nAdd (hw1.up hs3) hw3 (lin_NB hb2 (by omega))) fun w5 J5 hs5 hw5 => ?_
    repeat (first | refine SeqS.go cok ?_)
    exact Fin.focus 1 rfl (Fin.same ⟨rfl, hw5⟩))
theorem yBareAcc {I : Ent → Prop} {G : List Ent} {sb ssz fb fsz pc gas o : Nat} {Ts Tf : TypeId} {cs cf : Nat → Value} {K : YK} {w : YW} {s : List Nat} (hsz : 9 ≤ ssz) (hfz : 60 ≤ fsz) (hC : CsI I cs cf K w pc gas s) (ho : o = 49 ∨ o = 59 ∨ o = 63) :
    CallG Hvaf.prog 233 #[ptr sb 0, ptr fb 0, .int .u8 (o : Nat)] ⟨I, ⟨sb, ssz, Ts, cs⟩ :: ⟨fb, fsz, Tf, cf⟩ :: G⟩ fun r S' => S'.G = ⟨sb, ssz, Ts, cs⟩ :: ⟨fb, fsz, Tf, cf⟩ :: G ∧ NatI S'.I r (bareN K w s o) := by
  rcases ho with rfl | rfl | rfl
  all_goals (
    refine CallG.start (C := mkC Hvaf.prog) cok (args := [ptr sb 0, ptr fb 0, .int .u8 ((_ : Nat) : Int)]) Hvaf.func233 rfl Hvaf.ntmps233 (by simp) (by kernel_rfl) ?_
    repeat (first | refine SeqS.go cok ?_ | refine GuardS.yes rfl ?_ | refine GuardS.no rfl ?_ | refine CondS.t rfl ?_ | refine CondS.f rfl ?_ | refine W.drawI 39 cok [0, 1, 3, 0, 8, 24, 63, 127] [0, 1, 2, 3, 4, 5, 6, 7] [] (by kernel_rfl) (by kernel_rfl) ?_)
    refine CallG.focus 1 rfl ?_
    refine (yArgF (i := 0) hfz hC.F (by decide)).mono ?_
    rintro u _ - ⟨rfl, hu⟩
    repeat (first | (refine still_in ?_; first | refine still_nil ?_))
    refine (yAddrOf hu).mono ?_
    rintro r _ - ⟨rfl, rfl⟩
    repeat (first | (refine still_in ?_; first | refine still_nil ?_))
    refine CallG.focus 1 rfl ?_
    refine callN (yAccess (wb := sb) (sz := ssz) (T := Ts) (c := cs) (by omega) hC.W.wrm (adN_ok _) hC.W.wok (by have := hC.B.wa; omega)) fun w1 J1 hs1 hw1 => ?_
    repeat (first | refine SeqS.go cok ?_)
    exact Fin.same ⟨rfl, hw1⟩)
theorem yBareExt {I : Ent → Prop} {G : List Ent} {sb ssz fb fsz pc gas o : Nat} {Ts Tf : TypeId} {cs cf : Nat → Value} {K : YK} {w : YW} {s : List Nat} (hsz : 9 ≤ ssz) (hfz : 60 ≤ fsz) (hC : CsI I cs cf K w pc gas s) (ho : o = 60) :
    CallG Hvaf.prog 233 #[ptr sb 0, ptr fb 0, .int .u8 (o : Nat)] ⟨I, ⟨sb, ssz, Ts, cs⟩ :: ⟨fb, fsz, Tf, cf⟩ :: G⟩ fun r S' => S'.G = ⟨sb, ssz, Ts, cs⟩ :: ⟨fb, fsz, Tf, cf⟩ :: G ∧ NatI S'.I r (bareN K w s o) := by
  have hb3 : argN s 3 < 2 ^ 256 := argN_lt hC.F.fb
  rcases ho with rfl
  all_goals (
    refine CallG.start (C := mkC Hvaf.prog) cok (args := [ptr sb 0, ptr fb 0, .int .u8 ((_ : Nat) : Int)]) Hvaf.func233 rfl Hvaf.ntmps233 (by simp) (by kernel_rfl) ?_
    repeat (first | refine SeqS.go cok ?_ | refine GuardS.yes rfl ?_ | refine GuardS.no rfl ?_ | refine CondS.t rfl ?_ | refine CondS.f rfl ?_ | refine W.drawI 41 cok [0, 1, 3, 0, 8, 24, 63, 0, 255, 511, 1023, 2047] [0, 1, 2, 3, 7, 4, 5, 6, 8, 9, 10, 11] [] (by kernel_rfl) (by kernel_rfl) ?_)
    refine CallG.focus 1 rfl ?_
    refine (yArgF (i := 0) hfz hC.F (by decide)).mono ?_
    rintro u _ - ⟨rfl, hu⟩
    repeat (first | (refine still_in ?_; first | refine still_nil ?_))
    refine (yAddrOf hu).mono ?_
    rintro r _ - ⟨rfl, rfl⟩
    repeat (first | (refine still_in ?_; first | refine still_nil ?_))
    refine CallG.focus 1 rfl ?_
    refine callN (yAccess (wb := sb) (sz := ssz) (T := Ts) (c := cs) (by omega) hC.W.wrm (adN_ok _) hC.W.wok (by have := hC.B.wa; omega)) fun w1 J1 hs1 hw1 => ?_
    repeat (first | (refine still_in ?_; first | refine still_nil ?_))
    refine CallG.focus 1 rfl ?_
    refine (yArgF (i := 3) hfz (hC.F.up hs1) (by decide)).mono ?_
    rintro x _ - ⟨rfl, hx⟩
    repeat (first | (refine still_in ?_; first | refine still_nil ?_))
    refine callN (yCopyCost hx (lin_NB hb3 (by omega))) fun w3 J3 hs3 hw3 => ?_
    repeat (first | (refine still_in ?_; first | refine still_nil ?_))
    refine callN (nAdd (hw1.up hs3) hw3 (lin_NB hb3 (by split <;> omega))) fun w5 J5 hs5 hw5 => ?_
    repeat (first | refine SeqS.go cok ?_)
    exact Fin.focus 1 rfl (Fin.same ⟨rfl, hw5⟩))
theorem yBareLog {I : Ent → Prop} {G : List Ent} {sb ssz fb fsz pc gas o : Nat} {Ts Tf : TypeId} {cs cf : Nat → Value} {K : YK} {w : YW} {s : List Nat} (hsz : 9 ≤ ssz) (hfz : 60 ≤ fsz) (hC : CsI I cs cf K w pc gas s) (ho : 160 ≤ o) (ho2 : o ≤ 164) :
    CallG Hvaf.prog 233 #[ptr sb 0, ptr fb 0, .int .u8 (o : Nat)] ⟨I, ⟨sb, ssz, Ts, cs⟩ :: ⟨fb, fsz, Tf, cf⟩ :: G⟩ fun r S' => S'.G = ⟨sb, ssz, Ts, cs⟩ :: ⟨fb, fsz, Tf, cf⟩ :: G ∧ NatI S'.I r (bareN K w s o) := by
  have hr : bareN K w s o = (375 + 375 * (o - 160)) + 8 * argN s 1 := by
    unfold bareN
    repeat (first | rw [if_neg (by omega)] | rw [if_pos (by omega)])
  rw [hr]
  clear hr
  have hb1 : argN s 1 < 2 ^ 256 := argN_lt hC.F.fb
  have hN := fun (I : Ent → Prop) (G : List Ent) => yNum (I := I) (G := G) (n := 375 + 375 * (o - 160)) (by omega)
  refine CallG.start (C := mkC Hvaf.prog) cok (args := [ptr sb 0, ptr fb 0, .int .u8 (o : Nat)]) Hvaf.func233 rfl Hvaf.ntmps233 (by simp) (by kernel_rfl) ?_
  repeat (first | refine SeqS.go cok ?_ | refine GuardS.yes rfl ?_ | (refine ValS.keep ?_; first | (with_reducible refine ValS.kU64 ?_; first | (with_reducible refine ValS.convU64 ?_ ?_ ; omega) | (with_reducible refine ValS.addU64_M ?_ ?_ ; omega) | (with_reducible refine ValS.mulU64_M ?_ ?_ ; omega)) | (with_reducible refine ValS.kU8 ?_; first | (with_reducible refine ValS.subU8_L ?_ ?_ ?_ ; omega; omega))) | (refine GuardS.keep ?_; first | refine GuardS.T1 rfl (by omega) ?_) | (refine CondS.keep ?_; first | refine CondS.d1 rfl (by omega) ?_ | refine CondS.d0 rfl (by omega) ?_))
  refine callN (hN _ _) fun w1 J1 hs1 hw1 => ?_
  skip
  refine callN (yNum (n := 8) (by decide)) fun w2 J2 hs2 hw2 => ?_
  skip
  refine CallG.focus 1 rfl ?_
  refine (yArgF (i := 1) hfz ((hC.F.up hs1).up hs2) (by decide)).mono ?_
  rintro u _ - ⟨rfl, hu⟩
  skip
  refine callN (nMul (hw2.up (Sub.refl _)) hu (lin_NB hb1 (by omega))) fun w4 J4 hs4 hw4 => ?_
  skip
  refine callN (nAdd ((hw1.up hs2).up hs4) hw4 (lin_NB hb1 (by omega))) fun w5 J5 hs5 hw5 => ?_
  repeat (first | refine SeqS.go cok ?_)
  exact Fin.focus 1 rfl (Fin.same ⟨rfl, hw5⟩)
theorem yBareSl1 {I : Ent → Prop} {G : List Ent} {sb ssz fb fsz pc gas o : Nat} {Ts Tf : TypeId} {cs cf : Nat → Value} {K : YK} {w : YW} {s : List Nat} (hsz : 9 ≤ ssz) (hfz : 60 ≤ fsz) (hC : CsI I cs cf K w pc gas s) (hw0 : (findT K.self (argN s 0) w.ms).isSome = true) :
    CallG Hvaf.prog 233 #[ptr sb 0, ptr fb 0, .int .u8 (84 : Nat)] ⟨I, ⟨sb, ssz, Ts, cs⟩ :: ⟨fb, fsz, Tf, cf⟩ :: G⟩ fun r S' => S'.G = ⟨sb, ssz, Ts, cs⟩ :: ⟨fb, fsz, Tf, cf⟩ :: G ∧ NatI S'.I r (bareN K w s 84) := by
  have hr : bareN K w s 84 = 100 := by show (if (findT K.self (argN s 0) w.ms).isSome then 100 else 2100) = 100; rw [hw0]; rfl
  rw [hr]
  clear hr
  have hb20 := hC.KB.kself.bv
  have hl20 := hC.KB.kself.len
  have hrow := hC.F.fself
  have hws := fun (v : Value) (hv : NatI I v (argN s 0)) => yIsWarmSlot (wb := sb) (T := Ts) (G := ⟨fb, fsz, Tf, cf⟩ :: G) (sz := ssz) (by omega) hC.W.mks hC.KB.kself hv (by have := hC.B.ms; omega)
  rw [hw0] at hws
  refine CallG.start (C := mkC Hvaf.prog) cok (args := [ptr sb 0, ptr fb 0, .int .u8 ((84 : Nat) : Int)]) Hvaf.func233 rfl Hvaf.ntmps233 (by simp) (by kernel_rfl) ?_
  repeat (first | (refine QuG.keep ?_; first | refine QuG.rowA cok 1 rfl rfl rfl rfl rfl (by assumption) (by assumption) (by first | exact Nat.le_of_ble_eq_true rfl | omega | (dsimp only; omega) | (simp only [addS_eq, mulS_eq]; omega)) ?_) | refine SeqS.go cok ?_ | refine GuardS.yes rfl ?_ | refine GuardS.no rfl ?_ | refine CondS.t rfl ?_ | refine CondS.f rfl ?_ | refine W.drawI 45 cok [0, 1, 3, 0, 8, 24, 56, 0, 128, 511] [0, 1, 2, 3, 4, 5, 6, 7, 8, 9] [6] (by kernel_rfl) (by kernel_rfl) ?_)
  refine CallG.focus 1 rfl ?_
  refine (yArgF (i := 0) hfz hC.F (by decide)).mono ?_
  rintro u _ - ⟨rfl, hu⟩
  repeat (first | (refine still_in ?_; first | refine still_nil ?_ | (refine still_keep (by decide) rfl ?_ ?_; first | exact QuV.of (QuG.rowA cok 0 rfl rfl rfl rfl rfl (by assumption) (by assumption) (by first | exact Nat.le_of_ble_eq_true rfl | omega | (dsimp only; omega)) rfl))))
  refine CallG.focus 1 rfl ?_
  refine (hws _ hu).mono ?_
  rintro r _ - ⟨rfl, rfl⟩
  repeat (first | refine SeqS.go cok ?_ | refine CondS.t rfl ?_ | (refine still_in ?_; first | refine still_drop (by decide) ?_))
  refine callN (yNum (n := 100) (by decide)) fun w1 J1 hs1 hw1 => ?_
  repeat (first | refine SeqS.go cok ?_)
  exact Fin.same ⟨rfl, hw1⟩
theorem yBareSl2 {I : Ent → Prop} {G : List Ent} {sb ssz fb fsz pc gas o : Nat} {Ts Tf : TypeId} {cs cf : Nat → Value} {K : YK} {w : YW} {s : List Nat} (hsz : 9 ≤ ssz) (hfz : 60 ≤ fsz) (hC : CsI I cs cf K w pc gas s) (hw0 : (findT K.self (argN s 0) w.ms).isSome = false) :
    CallG Hvaf.prog 233 #[ptr sb 0, ptr fb 0, .int .u8 (84 : Nat)] ⟨I, ⟨sb, ssz, Ts, cs⟩ :: ⟨fb, fsz, Tf, cf⟩ :: G⟩ fun r S' => S'.G = ⟨sb, ssz, Ts, cs⟩ :: ⟨fb, fsz, Tf, cf⟩ :: G ∧ NatI S'.I r (bareN K w s 84) := by
  have hr : bareN K w s 84 = 2100 := by show (if (findT K.self (argN s 0) w.ms).isSome then 100 else 2100) = 2100; rw [hw0]; rfl
  rw [hr]
  clear hr
  have hb20 := hC.KB.kself.bv
  have hl20 := hC.KB.kself.len
  have hrow := hC.F.fself
  have hws := fun (v : Value) (hv : NatI I v (argN s 0)) => yIsWarmSlot (wb := sb) (T := Ts) (G := ⟨fb, fsz, Tf, cf⟩ :: G) (sz := ssz) (by omega) hC.W.mks hC.KB.kself hv (by have := hC.B.ms; omega)
  rw [hw0] at hws
  refine CallG.start (C := mkC Hvaf.prog) cok (args := [ptr sb 0, ptr fb 0, .int .u8 ((84 : Nat) : Int)]) Hvaf.func233 rfl Hvaf.ntmps233 (by simp) (by kernel_rfl) ?_
  repeat (first | (refine QuG.keep ?_; first | refine QuG.rowA cok 1 rfl rfl rfl rfl rfl (by assumption) (by assumption) (by first | exact Nat.le_of_ble_eq_true rfl | omega | (dsimp only; omega) | (simp only [addS_eq, mulS_eq]; omega)) ?_) | refine SeqS.go cok ?_ | refine GuardS.yes rfl ?_ | refine GuardS.no rfl ?_ | refine CondS.t rfl ?_ | refine CondS.f rfl ?_ | refine W.drawI 45 cok [0, 1, 3, 0, 8, 24, 56, 0, 128, 511] [0, 1, 2, 3, 4, 5, 6, 7, 8, 9] [6] (by kernel_rfl) (by kernel_rfl) ?_)
  refine CallG.focus 1 rfl ?_
  refine (yArgF (i := 0) hfz hC.F (by decide)).mono ?_
  rintro u _ - ⟨rfl, hu⟩
  repeat (first | (refine still_in ?_; first | refine still_nil ?_ | (refine still_keep (by decide) rfl ?_ ?_; first | exact QuV.of (QuG.rowA cok 0 rfl rfl rfl rfl rfl (by assumption) (by assumption) (by first | exact Nat.le_of_ble_eq_true rfl | omega | (dsimp only; omega)) rfl))))
  refine CallG.focus 1 rfl ?_
  refine (hws _ hu).mono ?_
  rintro r _ - ⟨rfl, rfl⟩
  repeat (first | refine SeqS.go cok ?_ | refine CondS.f rfl ?_ | (refine still_in ?_; first | refine still_drop (by decide) ?_))
  refine callN (yNum (n := 2100) (by decide)) fun w1 J1 hs1 hw1 => ?_
  repeat (first | refine SeqS.go cok ?_)
  exact Fin.same ⟨rfl, hw1⟩
theorem yBareSst {I : Ent → Prop} {G : List Ent} {sb ssz fb fsz pc gas o : Nat} {Ts Tf : TypeId} {cs cf : Nat → Value} {K : YK} {w : YW} {s : List Nat} (hsz : 9 ≤ ssz) (hfz : 60 ≤ fsz) (hC : CsI I cs cf K w pc gas s) :
    CallG Hvaf.prog 233 #[ptr sb 0, ptr fb 0, .int .u8 (85 : Nat)] ⟨I, ⟨sb, ssz, Ts, cs⟩ :: ⟨fb, fsz, Tf, cf⟩ :: G⟩ fun r S' => S'.G = ⟨sb, ssz, Ts, cs⟩ :: ⟨fb, fsz, Tf, cf⟩ :: G ∧ NatI S'.I r (bareN K w s 85) := by
  have hst := yStSstore (I := I) (G := G) (sb := sb) (fb := fb) (Ts := Ts) (Tf := Tf) hsz hfz hC.W.acc hC.W.mks hC.S hC.F.fstk hC.F.fself hC.KB.kself (by have := hC.B.al; omega) (by have := hC.B.ms; omega) (by have := hC.KB.st; omega) (by have := hC.F.fl; omega) (by have := hC.B.sl; omega)
  refine CallG.start (C := mkC Hvaf.prog) cok (args := [ptr sb 0, ptr fb 0, .int .u8 ((85 : Nat) : Int)]) Hvaf.func233 rfl Hvaf.ntmps233 (by simp) (by kernel_rfl) ?_
  repeat (first | refine SeqS.go cok ?_ | refine GuardS.yes rfl ?_ | refine GuardS.no rfl ?_ | refine CondS.t rfl ?_ | refine CondS.f rfl ?_)
  refine hst.mono ?_
  rintro r _ hs0 ⟨J, c, p, m, rfl, rfl, h1, h2, h3⟩
  repeat (first | refine SeqS.go cok ?_)
  exact Fin.same ⟨rfl, h1⟩
end Go.Proofs.YgvafwGreat
