import Derived.Test.YgvafwGreatE22
import Derived.Test.YgvafwGreatM1
import Derived.Test.YgvafwGreatE4
import Derived.Test.YgvafwGreatY59
import Derived.Test.YgvafwGreatY43
set_option exponentiation.threshold 1000
set_option maxRecDepth 100000
set_option maxHeartbeats 4000000
set_option linter.unusedVariables false
set_option linter.unusedSimpArgs false
-- v2
-- v4
-- v5
-- v6
-- v7
namespace Go.Proofs.YgvafwGreat
open Go.HL Go.Proofs
/-- mach.Machine.OpMemory, 82 -/
theorem mMe82 {I : Ent → Prop} {G : List Ent} {cb sz pc gas b cap : Nat} {T : TypeId} {c cm : Nat → Value} {K : YK} {s mem : List Nat} (hsz : 2435 ≤ sz) (hA : ArI c mem [⟨b, mulS cap 1, 5, cm⟩]) (h1 : c 1 = sl b 0 mem.length cap) (h2 : mem.length ≤ cap) (h4 : Row cm 0 (bvs mem)) (hK : MK I cb c K) (hM : MV c pc gas s) (hpb : pc + 1 < 60000) (ho : K.code.getD pc 0 = 82) (hs2 : 2 ≤ s.length) (hin : argN s 0 + 32 ≤ mem.length) :
    CallG Hvaf.prog 207 #[ptr cb 0] ⟨I, ⟨cb, sz, T, c⟩ :: ⟨b, mulS cap 1, 5, cm⟩ :: G⟩ fun r S' => ∃ c' cm', S' = ⟨I, ⟨cb, sz, T, c'⟩ :: ⟨b, mulS cap 1, 5, cm'⟩ :: G⟩ ∧ MV c' (pc + 1) gas (s.take (s.length - 2)) ∧ Stk c c' ∧ Row cm' 0 (bvs (writeL mem (argN s 0) (be32 (argN s 1)))) := by
  have hrn := mRunning (I := I) (G := ⟨b, mulS cap 1, 5, cm⟩ :: G) (cb := cb) (T := T) hsz hK
  have hop := mOpcode (I := I) (G := ⟨b, mulS cap 1, 5, cm⟩ :: G) (cb := cb) (T := T) hsz hK hM
  rw [ho] at hop
  have hlen := hA.bf.len
  have hb1 : argN s 1 < 115792089237316195423570985008687907853269984665640564039457584007913129639936 := argN_lt hM.sb
  have ha0 := mArg (I := I) (G := ⟨b, mulS cap 1, 5, cm⟩ :: G) (cb := cb) (T := T) (i := 0) hsz hK.fsb hM (by decide)
  have ha1 := mArg (I := I) (G := ⟨b, mulS cap 1, 5, cm⟩ :: G) (cb := cb) (T := T) (i := 1) hsz hK.fsb hM (by decide)
  have hsm := fun S => mSmall (S := S) (n := argN s 0) (by omega)
  have hbe := fun S => UBE32_spec (S := S) hb1
  have hst := mStore32 (I := I) (G := G) (cb := cb) (T := T) (off := argN s 0) (w := be32 (argN s 1)) hsz hA h1 h2 h4 hin (be32_len _) (be32_lt _)
  have hse := fun cm' => mSettleN (I := I) (G := ⟨b, mulS cap 1, 5, cm'⟩ :: G) (cb := cb) (T := T) (t := 2) (step := 1) (ws := [.int .u64 0, .int .u64 0, .int .u64 0, .int .u64 0]) hsz hM hs2 hpb rfl
  generalize s.take (s.length - 2) = s' at *
  generalize writeL mem (argN s 0) (be32 (argN s 1)) = mem' at *
  generalize argN s 0 = p at *
  generalize argN s 1 = q at *
  refine CallG.start (C := mkC Hvaf.prog) cok (args := [ptr cb 0]) Hvaf.func207 rfl Hvaf.ntmps207 (by simp) (by kernel_rfl) ?_
  skip
  refine CallG.sameL [] hrn ?_
  repeat (first | refine SeqS.go cok ?_ | refine CondS.f rfl ?_)
  refine CallG.sameL [] ha0 ?_
  skip
  refine (hsm _).mono ?_
  rintro r _ - ⟨rfl, rfl⟩
  repeat (first | refine SeqS.go cok ?_)
  refine CallG.sameL [] ha1 ?_
  intro x1
  repeat (first | refine SeqS.go cok ?_ | (refine OpG.keep ?_; first | refine OpG.sL cok 0 rfl rfl rfl rfl rfl rfl rfl (by first | exact Nat.le_of_ble_eq_true rfl | omega | (dsimp only; omega) | (simp only [addS_eq, mulS_eq]; omega)) ?_))
  refine CallG.sameL [_] hop ?_
  repeat (first | refine SeqS.go cok ?_ | refine CondS.t rfl ?_ | refine CondS.f rfl ?_ | (refine QuG.keep ?_; first | refine QuG.lN cok 0 rfl rfl rfl rfl rfl (by first | exact Nat.le_of_ble_eq_true rfl | omega | (dsimp only; omega) | (simp only [addS_eq, mulS_eq]; omega)) ?_) | refine W.drawI 11 cok [0, 1, 3, 0, 0, 16, 63, 127] [0, 1, 2, 3, 4, 5, 6, 7] [4] (by kernel_rfl) (by kernel_rfl) ?_)
  refine (hbe _).mono ?_
  rintro r _ - ⟨rfl, rfl⟩
  repeat (first | (refine still_in ?_; first | refine still_nil ?_ | refine still_drop (by decide) ?_))
  refine CallG.behind [_] hst ?_
  rintro r J G1 hs ⟨rfl, cm', hS, hrow⟩
  cases hS
  repeat (first | refine SeqS.go cok ?_ | refine CondS.f rfl ?_ | refine And.intro (fillOk_of (Eq.refl true)) ?_ | (refine still_in ?_; first | refine still_drop (by decide) ?_))
  refine CallG.behind [_] (hse cm') ?_
  rintro r J G1 hs ⟨c', hS, g1, g2⟩
  cases hS
  skip
  exact Fin.drop (⟨cb, sz, T, c'⟩ :: ⟨b, mulS cap 1, 5, cm'⟩ :: G) [_] ⟨c', cm', rfl, g1, g2, hrow⟩
end Go.Proofs.YgvafwGreat
