import Derived.Test.YgvafwGreatE64
import Derived.Test.YgvafwGreatV15
import Derived.Test.YgvafwGreatV10
set_option exponentiation.threshold 1000
set_option maxRecDepth 100000
set_option maxHeartbeats 4000000
set_option linter.unusedVariables false
set_option linter.unusedSimpArgs false
-- v2
-- v4
-- v5
-- v6
-- v7
namespace Go.Proofs.YgvafwGreat
open Go.HL Go.Proofs

/-- engine.warm of a cold account -/
theorem eWarm {I : Ent → Prop} {R G : List Ent} {cb sz : Nat} {T : TypeId} {c : Nat → Value} {V : Vl} {a : List Nat} (hsz : 27019 ≤ sz) (hV : VI I c V G) (hO : VOk V) (ha : AdOk a) (hroom : V.ac.length < 1990) (hj : V.jr.length < 59990) (hw : (V.acc a).warm = false) :
    CallG Hvaf.prog 110 #[ptr cb 2435, bytesV a] ⟨I, ⟨cb, sz, T, c⟩ :: (R ++ G)⟩ fun r S' => ∃ c' G' t, S' = ⟨I, ⟨cb, sz, T, c'⟩ :: (R ++ G')⟩ ∧ VI I c' (V.setA a t { V.acc' a with warm := true } ⟨4, V.ix a, 0, 0, (V.acc' a).warm⟩) G' ∧ VOk (V.setA a t { V.acc' a with warm := true } ⟨4, V.ix a, 0, 0, (V.acc' a).warm⟩) ∧ Out c c' := by
  have h1 := vIsWarmAcct (R := R) (cb := cb) (T := T) hsz hV hO ha
  rw [hw] at h1
  have h2 := vWarmAcct (R := R) (cb := cb) (T := T) hsz hV hO ha hroom hj
  have hal := ha.len
  have hab := ha.bv
  refine CallG.start (C := mkC Hvaf.prog) cok (args := [ptr cb 2435, bytesV a]) Hvaf.func110 rfl Hvaf.ntmps110 (by simp) (by kernel_rfl) ?_
  intro b2
  repeat (first | (refine QuG.keep ?_; first | refine QuG.boxL cok 0 rfl rfl rfl rfl rfl (by assumption) ?_) | refine SeqS.go cok ?_)
  refine CallG.behind [_] h1 ?_
  rintro r J1 _ hs1 ⟨e1, rfl⟩
  cases e1
  repeat (first | (refine QuG.keep ?_; first | refine QuG.boxL cok 0 rfl rfl rfl rfl rfl (by assumption) ?_) | refine SeqS.go cok ?_ | refine CondS.t rfl ?_)
  refine CallG.behind [_] h2 ?_
  rintro r J2 _ hs2 ⟨rfl, c', G', t, e2, hV2, hO2, ho2⟩
  cases e2
  skip
  exact Fin.drop _ [_] ⟨c', G', t, rfl, hV2, hO2, ho2⟩
/-- engine.spacious -/
theorem eSpacious {I : Ent → Prop} {G : List Ent} {cb sz : Nat} {T : TypeId} {c : Nat → Value} {V : Vl} (hsz : 27019 ≤ sz) (hV : VI I c V G) (hO : VOk V) (hS : c 0 = ptr cb 2435) (hTop : c 2258 = .int .i8 (-1)) (h10 : c 10 = .int .u8 ((0 : Nat) : Int)) (h0 : V.nm = 0) (hj : V.jr.length < 60000) :
    CallG Hvaf.prog 101 #[ptr cb 0] ⟨I, ⟨cb, sz, T, c⟩ :: G⟩ fun r S' => ⟨I, ⟨cb, sz, T, c⟩ :: G⟩ = S' ∧ r = .bool true := by
  have h1 := vSizes (R := []) (cb := cb) (T := T) hsz hV hO
  rw [h0] at h1
  have hla := hO.aln
  have hls := hO.sln
  refine CallG.start (C := mkC Hvaf.prog) cok (args := [ptr cb 0]) Hvaf.func101 rfl Hvaf.ntmps101 (by simp) (by kernel_rfl) ?_
  repeat (first | (refine QuG.keep ?_; first | refine QuG.l1E cok 0 rfl rfl rfl rfl rfl (by first | exact Nat.le_of_ble_eq_true rfl | omega | (dsimp only; omega) | (simp only [addS_eq, mulS_eq]; omega)) (by assumption) ?_) | refine SeqS.go cok ?_)
  refine h1.mono ?_
  rintro r _ - ⟨rfl, rfl⟩
  repeat (first | (refine QuG.keep ?_; first | refine QuG.l1E cok 0 rfl rfl rfl rfl rfl (by first | exact Nat.le_of_ble_eq_true rfl | omega | (dsimp only; omega) | (simp only [addS_eq, mulS_eq]; omega)) (by assumption) ?_) | refine SeqS.go cok ?_ | refine GuardS.yes rfl ?_ | (refine GuardS.keep ?_; first | refine GuardS.T1 rfl (by omega) ?_))
  exact Fin.same ⟨rfl, rfl⟩
end Go.Proofs.YgvafwGreat
