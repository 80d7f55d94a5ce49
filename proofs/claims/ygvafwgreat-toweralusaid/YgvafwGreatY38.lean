import Derived.Test.YgvafwGreatY37
set_option exponentiation.threshold 1000
set_option maxRecDepth 100000
set_option maxHeartbeats 4000000
set_option linter.unusedVariables false
set_option linter.unusedSimpArgs false
-- v2
-- v4
-- v5
-- v6
-- v7
namespace Go.Proofs.YgvafwGreat
open Go.HL Go.Proofs

/-- What an instruction costs. -/
def costN (K : YK) (w : YW) (s : List Nat) (m o : Nat) : Nat :=
  if (reachN s o + 31) / 32 ≤ m / 32 then bareN K w s o else bareN K w s o + (memC ((reachN s o + 31) / 32) - memC (m / 32))
theorem endN_lt {a n : Nat} (h : a < 2 ^ 256) (h' : n < 2 ^ 256) : endN a n < 2 ^ 257 := by
  have e : (2 : Nat) ^ 257 = 2 ^ 256 + 2 ^ 256 := by decide +kernel
  rw [e]
  generalize (2 : Nat) ^ 256 = P at *
  unfold endN; split <;> omega
theorem reachN_lt {s : List Nat} {o : Nat} (h : ∀ x ∈ s, x < 2 ^ 256) : reachN s o < 2 ^ 257 := by
  have ha : ∀ i, argN s i < 2 ^ 256 := fun i => argN_lt h
  have h32 : (32 : Nat) < 2 ^ 256 := by decide
  have h1 : (1 : Nat) < 2 ^ 256 := by decide
  unfold reachN
  split
  · exact endN_lt (ha _) (ha _)
  split
  · exact endN_lt (ha _) (ha _)
  split
  · exact endN_lt (ha _) (ha _)
  split
  · exact endN_lt (ha _) h32
  split
  · exact endN_lt (ha _) h1
  split
  · exact Nat.max_lt.mpr ⟨endN_lt (ha _) (ha _), endN_lt (ha _) (ha _)⟩
  · exact Nat.two_pow_pos 257
theorem NB_p {n : Nat} (h : n < 2 ^ 639) : n < NB := Nat.lt_of_lt_of_le h (by decide +kernel)
theorem sq_lt {w : Nat} (h : w < 2 ^ 260) : 3 * w + w * w < 2 ^ 530 := by
  have h2 : (2 : Nat) ^ 260 * 2 ^ 260 + 2 ^ 260 * 2 ^ 260 ≤ 2 ^ 530 := by decide +kernel
  have h3 : 3 ≤ (2 : Nat) ^ 260 := by decide +kernel
  generalize (2 : Nat) ^ 530 = Q at *
  generalize (2 : Nat) ^ 260 = P at *
  have a : w * w < P * P := Nat.mul_lt_mul'' h h
  have b : 3 * w ≤ P * P := Nat.mul_le_mul h3 (Nat.le_of_lt h)
  omega
theorem memC_lt {w : Nat} (h : w < 2 ^ 260) : memC w < 2 ^ 530 := by
  have := sq_lt h
  unfold memC
  generalize (2 : Nat) ^ 530 = Q at *
  have : w * w / 512 ≤ w * w := Nat.div_le_self _ _
  omega
theorem sstN_le (o v n : Nat) (b : Bool) : (sstN o v n b).1 ≤ 22100 ∧ 100 ≤ (sstN o v n b).1 := by
  unfold sstN
  dsimp only
  constructor <;> (repeat' split) <;> omega
theorem blen_256 {n : Nat} (h : n < 2 ^ 256) : blen n ≤ 256 := blen_le (x := n) (n := 256) h
theorem accN_le (w : YW) (a : Nat) : accN w a ≤ 2600 := by unfold accN; split <;> omega
theorem ite_lt {c : Prop} [Decidable c] {a b k : Nat} (h1 : a < k) (h2 : b < k) : (if c then a else b) < k := by split <;> assumption
theorem bareN_lt {K : YK} {w : YW} {s : List Nat} {o : Nat} (h : ∀ x ∈ s, x < 2 ^ 256) (ho : o < 256) : bareN K w s o < 2 ^ 300 := by
  have ha : ∀ i, argN s i < 2 ^ 256 := fun i => argN_lt h
  have a1 := ha 1
  have a2 := ha 2
  have a3 := ha 3
  have hb := blen_256 (ha 1)
  have hc := accN_le w (argN s 0)
  have hd : (sstoreN K w s).1 ≤ 22100 := (sstN_le _ _ _ _).1
  have e : (2 : Nat) ^ 300 = 2 ^ 256 * 2 ^ 44 := by rw [← Nat.pow_add]
  have e2 : (2 : Nat) ^ 44 = 17592186044416 := by decide
  have e3 : 0 < (2 : Nat) ^ 256 := Nat.two_pow_pos 256
  rw [e2] at e
  rw [e]
  generalize (2 : Nat) ^ 256 = P at *
  have hz : o - 160 < 256 := by omega
  unfold bareN
  repeat (refine ite_lt (by omega) ?_)
  refine ite_lt (ite_lt (by omega) (by omega)) ?_
  repeat (refine ite_lt (by omega) ?_)
  omega
theorem nCmpLe {I : Ent → Prop} {G : List Ent} {v u : Value} {a b : Nat} (h : NatI I v a) (h' : NatI I u b) (hab : a ≤ b) :
    CallG Hvaf.prog 131 #[v, u] ⟨I, G⟩ fun r S' => ⟨I, G⟩ = S' ∧ ∃ z : Int, z ≤ 0 ∧ -1 ≤ z ∧ r = .int .i8 z := by
  refine (nCmp h h').mono ?_
  rintro r _ - ⟨rfl, rfl⟩
  exact ⟨rfl, _, by unfold cmpI; split <;> (try split) <;> omega, by unfold cmpI; split <;> (try split) <;> omega, rfl⟩
theorem nCmpGe {I : Ent → Prop} {G : List Ent} {v u : Value} {a b : Nat} (h : NatI I v a) (h' : NatI I u b) (hab : b ≤ a) :
    CallG Hvaf.prog 131 #[v, u] ⟨I, G⟩ fun r S' => ⟨I, G⟩ = S' ∧ ∃ z : Int, 0 ≤ z ∧ z ≤ 1 ∧ r = .int .i8 z := by
  refine (nCmp h h').mono ?_
  rintro r _ - ⟨rfl, rfl⟩
  exact ⟨rfl, _, by unfold cmpI; split <;> (try split) <;> omega, by unfold cmpI; split <;> (try split) <;> omega, rfl⟩
theorem arrive {P : Program} {f : FuncId} {args : Array Value} {I : Ent → Prop} {G : List Ent} {n m : Nat} (e : n = m) (h : CallG P f args ⟨I, G⟩ fun r S' => S'.G = G ∧ NatI S'.I r n) : CallG P f args ⟨I, G⟩ fun r S' => S'.G = G ∧ NatI S'.I r m := by rw [← e]; exact h
/-- yp.State.cost -/
theorem yCost {I : Ent → Prop} {G : List Ent} {sb ssz fb fsz pc gas o : Nat} {Ts Tf : TypeId} {cs cf : Nat → Value} {K : YK} {w : YW} {s : List Nat} {mem : List Nat} {M : List Ent} (hsz : 9 ≤ ssz) (hfz : 60 ≤ fsz) (hC : CsI I cs cf K w pc gas s) (hM : MemO (cf 9) mem M) (ho : o < 256) (hk : opOk o = true) :
    CallG Hvaf.prog 149 #[ptr sb 0, ptr fb 0, .int .u8 (o : Nat)] ⟨I, ⟨sb, ssz, Ts, cs⟩ :: ⟨fb, fsz, Tf, cf⟩ :: G⟩ fun r S' => S'.G = ⟨sb, ssz, Ts, cs⟩ :: ⟨fb, fsz, Tf, cf⟩ :: G ∧ NatI S'.I r (costN K w s mem.length o) := by
  have hlen := hM.len
  have h257 := reachN_lt (s := s) (o := o) hC.F.fb
  have hlen2 : mem.length < 1073741824 := hlen
  have hbl := bareN_lt (K := K) (w := w) (s := s) (o := o) hC.F.fb ho
  have hr31 : reachN s o + 31 < 2 ^ 260 := by
    have h : (2 : Nat) ^ 257 + 31 < 2 ^ 260 := by decide +kernel
    exact Nat.lt_of_le_of_lt (Nat.add_le_add_right (Nat.le_of_lt h257) 31) h
  have hneed : (reachN s o + 31) / 32 < 2 ^ 260 := Nat.lt_of_le_of_lt (Nat.div_le_self _ _) hr31
  have hmw : mem.length / 32 < 2 ^ 260 := Nat.lt_trans (Nat.lt_of_le_of_lt (Nat.div_le_self _ _) hlen) (Nat.pow_lt_pow_right (by decide) (by decide))
  have n1 : reachN s o + 31 < NB := NB_p (Nat.lt_trans hr31 (Nat.pow_lt_pow_right (by decide) (by decide)))
  have n2 : 3 * ((reachN s o + 31) / 32) + (reachN s o + 31) / 32 * ((reachN s o + 31) / 32) < NB := NB_p (Nat.lt_trans (sq_lt hneed) (Nat.pow_lt_pow_right (by decide) (by decide)))
  have n3 : 3 * (mem.length / 32) + mem.length / 32 * (mem.length / 32) < NB := NB_p (Nat.lt_trans (sq_lt hmw) (Nat.pow_lt_pow_right (by decide) (by decide)))
  have n4 : bareN K w s o + (memC ((reachN s o + 31) / 32) - memC (mem.length / 32)) < NB := by
    have h1 := memC_lt hneed
    have h2 : (2 : Nat) ^ 300 + 2 ^ 530 < 2 ^ 639 := by decide +kernel
    refine NB_p ?_
    generalize (2 : Nat) ^ 300 = P1 at *
    generalize (2 : Nat) ^ 530 = P2 at *
    generalize (2 : Nat) ^ 639 = P3 at *
    omega
  have hre := fun (I) (hF : YF I cf K pc gas s) => yReach (I := I) (G := ⟨sb, ssz, Ts, cs⟩ :: G) (fb := fb) (T := Tf) (o := o) hfz hF (by revert hk ho; exact (by decide +kernel : ∀ o, o < 256 → opOk o = true → (o < 165 ∨ o = 243 ∨ o = 253)) o)
  have hba := yBare (G := G) (sb := sb) (fb := fb) (Ts := Ts) (Tf := Tf) hsz hfz hC ho hk
  have hc9 : ∃ ad cp, cf 9 = .slice ad mem.length cp := by
    rcases hM.out with ⟨h1, h2, _⟩ | ⟨b, c, h1, _⟩
    · exact ⟨none, 0, by rw [h1, h2]; rfl⟩
    · exact ⟨_, _, h1⟩
  obtain ⟨ad, cp, hc9⟩ := hc9
  have hnum := fun (I : Ent → Prop) (G : List Ent) => yNum (I := I) (G := G) (n := mem.length / 32) (by omega)
  generalize hcn : costN K w s mem.length o = R
  unfold costN at hcn
  by_cases hle : (reachN s o + 31) / 32 ≤ mem.length / 32
  · rw [if_pos hle] at hcn
    subst hcn
    generalize reachN s o = rr at *
    refine CallG.start (C := mkC Hvaf.prog) cok (args := [ptr sb 0, ptr fb 0, .int .u8 (o : Nat)]) Hvaf.func149 rfl Hvaf.ntmps149 (by simp) (by kernel_rfl) ?_
    repeat (first | refine SeqS.go cok ?_)
    refine callN hba fun b J1 hs1 hb => ?_
    repeat (first | (refine QuG.keep ?_; first | refine QuG.l1E cok 1 rfl rfl rfl rfl rfl (by first | exact Nat.le_of_ble_eq_true rfl | omega | (dsimp only; omega) | (simp only [addS_eq, mulS_eq]; omega)) (by assumption) ?_) | refine SeqS.go cok ?_ | refine And.intro (by omega) ?_ | (refine ValS.keep ?_; first | (with_reducible refine ValS.kI64 ?_; first | (with_reducible refine ValS.quoI64_L ?_ ?_ ; omega)) | (with_reducible refine ValS.kU64 ?_; first | (with_reducible refine ValS.convU64 ?_ ?_ ; omega))))
    refine callN (hnum _ _) fun h J2 hs2 hh => ?_
    repeat (first | refine SeqS.go cok ?_)
    refine CallG.focus 1 rfl ?_
    refine callN (hre _ ((hC.F.up hs1).up hs2)) fun x J3 hs3 hx => ?_
    skip
    refine callN (yWords hx n1) fun y J4 hs4 hy => ?_
    repeat (first | refine SeqS.go cok ?_)
    refine (nCmpLe hy ((hh.up hs3).up hs4) hle).mono ?_
    rintro r _ - ⟨rfl, z, hz, hz', rfl⟩
    repeat (first | refine SeqS.go cok ?_)
    refine CondS.d1 rfl (by omega) ?_
    repeat (first | refine SeqS.go cok ?_)
    exact Fin.focus 1 rfl (Fin.same ⟨rfl, ((hb.up hs2).up hs3).up hs4⟩)
  · rw [if_neg hle] at hcn
    subst hcn
    generalize reachN s o = rr at *
    refine CallG.start (C := mkC Hvaf.prog) cok (args := [ptr sb 0, ptr fb 0, .int .u8 (o : Nat)]) Hvaf.func149 rfl Hvaf.ntmps149 (by simp) (by kernel_rfl) ?_
    repeat (first | refine SeqS.go cok ?_)
    refine callN hba fun b J1 hs1 hb => ?_
    repeat (first | (refine QuG.keep ?_; first | refine QuG.l1E cok 1 rfl rfl rfl rfl rfl (by first | exact Nat.le_of_ble_eq_true rfl | omega | (dsimp only; omega) | (simp only [addS_eq, mulS_eq]; omega)) (by assumption) ?_) | refine SeqS.go cok ?_ | refine And.intro (by omega) ?_ | (refine ValS.keep ?_; first | (with_reducible refine ValS.kI64 ?_; first | (with_reducible refine ValS.quoI64_L ?_ ?_ ; omega)) | (with_reducible refine ValS.kU64 ?_; first | (with_reducible refine ValS.convU64 ?_ ?_ ; omega))))
    refine callN (hnum _ _) fun h J2 hs2 hh => ?_
    repeat (first | refine SeqS.go cok ?_)
    refine CallG.focus 1 rfl ?_
    refine callN (hre _ ((hC.F.up hs1).up hs2)) fun x J3 hs3 hx => ?_
    skip
    refine callN (yWords hx n1) fun y J4 hs4 hy => ?_
    repeat (first | refine SeqS.go cok ?_)
    refine (nCmpG hy ((hh.up hs3).up hs4) (by omega)).mono ?_
    rintro r _ - ⟨rfl, rfl⟩
    repeat (first | refine SeqS.go cok ?_ | refine CondS.f rfl ?_)
    refine callN (yMemCost hy n2) fun p J5 hs5 hp => ?_
    skip
    refine callN (yMemCost (((hh.up hs3).up hs4).up hs5) n3) fun q J6 hs6 hq => ?_
    skip
    refine callN (yLess (hp.up hs6) hq) fun d J7 hs7 hd => ?_
    skip
    refine callN (nAdd ((((((hb.up hs2).up hs3).up hs4).up hs5).up hs6).up hs7) hd n4) fun e J8 hs8 he => ?_
    repeat (first | refine SeqS.go cok ?_)
    exact Fin.focus 1 rfl (Fin.same ⟨rfl, he⟩)
end Go.Proofs.YgvafwGreat
