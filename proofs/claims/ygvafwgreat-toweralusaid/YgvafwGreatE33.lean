import Derived.Test.YgvafwGreatE29
import Derived.Test.YgvafwGreatK16
import Derived.Test.YgvafwGreatM1
import Derived.Test.YgvafwGreatE8
set_option exponentiation.threshold 1000
set_option maxRecDepth 100000
set_option maxHeartbeats 4000000
set_option linter.unusedVariables false
set_option linter.unusedSimpArgs false
-- v2
-- v4
-- v5
-- v6
-- v7
namespace Go.Proofs.YgvafwGreat
open Go.HL Go.Proofs
/-- mach.Machine.read -/
theorem mRd {I : Ent → Prop} {G : List Ent} {cb sz off n : Nat} {T : TypeId} {c : Nat → Value} {mem : List Nat} {M : List Ent} (hsz : 2435 ≤ sz) (hA : ArI c mem M) (hMG : ∀ x ∈ M, x ∈ G) (hnW : n < 115792089237316195423570985008687907853269984665640564039457584007913129639936) (hin : n = 0 ∨ off + n ≤ mem.length) :
    CallG Hvaf.prog 302 #[ptr cb 0, wordV off, wordV n] ⟨I, ⟨cb, sz, T, c⟩ :: G⟩ fun r S' => S'.G = ⟨cb, sz, T, c⟩ :: G ∧ ∃ v, r = .tuple #[v, .bool true] ∧ Byt ⟨S'.I, []⟩ v (cutL mem off n) := by
  have hu := fun S => UIsZero_spec (S := S) hnW
  have hlen := hA.bf.len
  by_cases h0 : n = 0
  · rw [decide_eq_true h0] at hu
    have hnil : cutL mem off n = [] := by rw [h0]; rfl
    rw [hnil]
    refine CallG.start (C := mkC Hvaf.prog) cok (args := [ptr cb 0, wordV off, wordV n]) Hvaf.func302 rfl Hvaf.ntmps302 (by simp) (by kernel_rfl) ?_
    intro x1 x2
    repeat (first | refine SeqS.go cok ?_ | (refine QuG.keep ?_; first | refine QuG.lN cok 0 rfl rfl rfl rfl rfl (by first | exact Nat.le_of_ble_eq_true rfl | omega | (dsimp only; omega) | (simp only [addS_eq, mulS_eq]; omega)) ?_))
    refine (hu _).mono ?_
    rintro r _ - ⟨rfl, rfl⟩
    repeat (first | refine SeqS.go cok ?_ | refine CondS.t rfl ?_)
    exact Fin.drop (⟨cb, sz, T, c⟩ :: G) [_, _] ⟨rfl, _, rfl, Byt.nil _⟩
  · rw [decide_eq_false h0] at hu
    have hs0 := fun S => mSmall (S := S) (n := off) (by omega)
    have hs1 := fun S => mSmall (S := S) (n := n) (by omega)
    have hrd := mRead (I := I) (G := G) (cb := cb) (T := T) (off := off) (n := n) hsz hA hMG (by omega) (by omega)
    generalize cutL mem off n = cs at *
    refine CallG.start (C := mkC Hvaf.prog) cok (args := [ptr cb 0, wordV off, wordV n]) Hvaf.func302 rfl Hvaf.ntmps302 (by simp) (by kernel_rfl) ?_
    intro x1 x2
    repeat (first | refine SeqS.go cok ?_ | (refine QuG.keep ?_; first | refine QuG.lN cok 0 rfl rfl rfl rfl rfl (by first | exact Nat.le_of_ble_eq_true rfl | omega | (dsimp only; omega) | (simp only [addS_eq, mulS_eq]; omega)) ?_))
    refine (hu _).mono ?_
    rintro r _ - ⟨rfl, rfl⟩
    repeat (first | refine SeqS.go cok ?_ | refine CondS.f rfl ?_ | (refine QuG.keep ?_; first | refine QuG.lN cok 0 rfl rfl rfl rfl rfl (by first | exact Nat.le_of_ble_eq_true rfl | omega | (dsimp only; omega) | (simp only [addS_eq, mulS_eq]; omega)) ?_ | refine QuG.lN cok 1 rfl rfl rfl rfl rfl (by first | exact Nat.le_of_ble_eq_true rfl | omega | (dsimp only; omega) | (simp only [addS_eq, mulS_eq]; omega)) ?_) | refine W.drawI 3 cok [0, 1, 3, 0, 8, 0, 56, 127, 255] [0, 1, 2, 3, 5, 4, 6, 7, 8] [3, 5] (by kernel_rfl) (by kernel_rfl) ?_)
    refine (hs0 _).mono ?_
    rintro r _ - ⟨rfl, rfl⟩
    repeat (first | (refine still_in ?_; first | refine still_nil ?_ | refine still_drop (by decide) ?_ | (refine still_keep (by decide) rfl ?_ ?_; first | exact QuV.lN cok 0 rfl rfl rfl rfl rfl (by first | exact Nat.le_of_ble_eq_true rfl | omega | (dsimp only; omega) | (simp only [addS_eq, mulS_eq]; omega)) rfl)))
    refine (hs1 _).mono ?_
    rintro r _ - ⟨rfl, rfl⟩
    repeat (first | (refine still_in ?_; first | refine still_nil ?_ | refine still_drop (by decide) ?_))
    refine CallG.behind [_, _] hrd ?_
    rintro r J G1 hs ⟨hS, hB, b, rfl⟩
    cases hS
    repeat (first | refine SeqS.go cok ?_ | (refine still_in ?_; first | refine still_drop (by decide) ?_))
    exact Fin.drop (⟨cb, sz, T, c⟩ :: G) [_, _] ⟨rfl, _, rfl, hB⟩
/-- What an instruction leaves that freezes a block. -/
def SetJ (G : List Ent) (cb sz : Nat) (T : TypeId) (c : Nat → Value) (pc gas : Nat) (s : List Nat) : Post := fun r S' => ∃ J c', S' = ⟨J, ⟨cb, sz, T, c'⟩ :: G⟩ ∧ MV c' pc gas s ∧ Stk c c'
/-- mach.Machine.OpKeccak -/
theorem mKec {I : Ent → Prop} {G : List Ent} {cb sz pc gas : Nat} {T : TypeId} {c : Nat → Value} {K : YK} {s mem : List Nat} {M : List Ent} (hsz : 2435 ≤ sz) (hA : ArI c mem M) (hMG : ∀ x ∈ M, x ∈ G) (hK : MK I cb c K) (hM : MV c pc gas s) (hpb : pc + 1 < 60000) (hs2 : 2 ≤ s.length) (hin : argN s 1 = 0 ∨ argN s 0 + argN s 1 ≤ mem.length) :
    CallG Hvaf.prog 202 #[ptr cb 0] ⟨I, ⟨cb, sz, T, c⟩ :: G⟩ (SetJ G cb sz T c (pc + 1) gas (s.take (s.length - 2) ++ [bev (kecN (cutL mem (argN s 0) (argN s 1)))])) := by
  have hrn := mRunning (I := I) (G := G) (cb := cb) (T := T) hsz hK
  have ha0 := mArg (I := I) (G := G) (cb := cb) (T := T) (i := 0) hsz hK.fsb hM (by decide)
  have ha1 := mArg (I := I) (G := G) (cb := cb) (T := T) (i := 1) hsz hK.fsb hM (by decide)
  have hb1 : argN s 1 < 115792089237316195423570985008687907853269984665640564039457584007913129639936 := argN_lt hM.sb
  have hrd := mRd (I := I) (G := G) (cb := cb) (T := T) (off := argN s 0) hsz hA hMG hb1 hin
  have hlen := hA.bf.len
  have hcl : (cutL mem (argN s 0) (argN s 1)).length < 2 ^ 30 := by rw [cutL_len]; omega
  have hsu := fun J G' v (hB : Byt ⟨J, []⟩ v (cutL mem (argN s 0) (argN s 1))) => kSumE (I := J) (G := G') (hB.mono (fun _ h => h) (by simp)) hcl
  have hlt : bev (kecN (cutL mem (argN s 0) (argN s 1))) < 115792089237316195423570985008687907853269984665640564039457584007913129639936 := bev_256 (kecN_b8 _) (by rw [kecN_len]; decide)
  have hu := fun S => FromBytes_spec (S := S) (kecN_len (cutL mem (argN s 0) (argN s 1))) (kecN_b8 _)
  have hse := fun J => mSettleG (I := J) (G := G) (cb := cb) (T := T) (t := 2) (step := 1) (w := bev (kecN (cutL mem (argN s 0) (argN s 1)))) hsz hK.fsb hM hs2 hpb (by have := hM.sl; omega) hlt
  simp only [wcs_word] at hse
  generalize s.take (s.length - 2) ++ [bev (kecN (cutL mem (argN s 0) (argN s 1)))] = s' at *
  generalize kecN (cutL mem (argN s 0) (argN s 1)) = kk at *
  generalize cutL mem (argN s 0) (argN s 1) = cs at *
  generalize argN s 0 = a0 at *
  generalize argN s 1 = a1 at *
  refine CallG.start (C := mkC Hvaf.prog) cok (args := [ptr cb 0]) Hvaf.func202 rfl Hvaf.ntmps202 (by simp) (by kernel_rfl) ?_
  skip
  refine CallG.sameL [] hrn ?_
  repeat (first | refine SeqS.go cok ?_ | refine CondS.f rfl ?_)
  refine CallG.sameL [] ha0 ?_
  skip
  refine CallG.sameL [] ha1 ?_
  skip
  refine CallG.behind [] hrd ?_
  rintro r J G1 hs ⟨hS, v, rfl, hB⟩
  cases hS
  repeat (first | refine SeqS.go cok ?_ | refine CondS.f rfl ?_)
  refine (hsu _ _ _ hB).mono ?_
  rintro r _ - ⟨rfl, rfl⟩
  skip
  refine (hu _).mono ?_
  rintro r _ - ⟨rfl, rfl⟩
  skip
  refine CallG.behind [] (hse J) ?_
  rintro r J2 G1 hs2 ⟨c', hS, h1, h2⟩
  cases hS
  skip
  exact Fin.same ⟨_, c', rfl, h1, h2⟩
end Go.Proofs.YgvafwGreat
