import Derived.Test.YgvafwGreatE13
import Derived.Test.YgvafwGreatM1
import Derived.Test.YgvafwGreatE4
import Derived.Test.YgvafwGreatY43
set_option exponentiation.threshold 1000
set_option maxRecDepth 100000
set_option maxHeartbeats 4000000
set_option linter.unusedVariables false
set_option linter.unusedSimpArgs false
-- v2
-- v4
-- v5
-- v6
-- v7
namespace Go.Proofs.YgvafwGreat
open Go.HL Go.Proofs
/-- mach.Machine.OpMemory, 81 -/
theorem mMe81 {I : Ent → Prop} {G : List Ent} {cb sz pc gas : Nat} {T : TypeId} {c : Nat → Value} {K : YK} {s mem : List Nat} {M : List Ent} (hsz : 2435 ≤ sz) (hA : ArI c mem M) (hMG : ∀ x ∈ M, x ∈ G) (hK : MK I cb c K) (hM : MV c pc gas s) (hpb : pc + 1 < 60000) (ho : K.code.getD pc 0 = 81) (h2 : 1 ≤ s.length) (hin : argN s 0 + 32 ≤ mem.length) :
    CallG Hvaf.prog 207 #[ptr cb 0] ⟨I, ⟨cb, sz, T, c⟩ :: G⟩ (SetP I G cb sz T c (pc + 1) gas (s.take (s.length - 1) ++ [bev (cutL mem (argN s 0) 32)])) := by
  have hrn := mRunning (I := I) (G := G) (cb := cb) (T := T) hsz hK
  have hop := mOpcode (I := I) (G := G) (cb := cb) (T := T) hsz hK hM
  rw [ho] at hop
  have hlen := hA.bf.len
  have ha0 := mArg (I := I) (G := G) (cb := cb) (T := T) (i := 0) hsz hK.fsb hM (by decide)
  have ha1 := mArg (I := I) (G := G) (cb := cb) (T := T) (i := 1) hsz hK.fsb hM (by decide)
  have hsm := fun S => mSmall (S := S) (n := argN s 0) (by omega)
  have hld := mLoad32 (I := I) (G := G) (cb := cb) (T := T) (off := argN s 0) hsz hA hMG hin
  have hcl := cutL_len' mem (argN s 0) 32
  have h8 : ∀ d ∈ cutL mem (argN s 0) 32, d < 256 := cutL_lt hA.bf.b8 _ _
  have hu := fun S => FromBytes_spec (S := S) hcl h8
  have hse := mSettleG (I := I) (G := G) (cb := cb) (T := T) (t := 1) (step := 1) (w := bev (cutL mem (argN s 0) 32)) hsz hK.fsb hM h2 hpb (by have := hM.sl; omega) (bev_256 h8 (by omega))
  rw [wcs_word] at hse
  have hbl : (bvs (cutL mem (argN s 0) 32)).length = 32 := by rw [bvs_len]; exact hcl
  generalize s.take (s.length - 1) ++ [bev (cutL mem (argN s 0) 32)] = s' at *
  generalize bev (cutL mem (argN s 0) 32) = w at *
  generalize cutL mem (argN s 0) 32 = ds at *
  generalize argN s 0 = a at *
  generalize argN s 1 = b at *
  refine CallG.start (C := mkC Hvaf.prog) cok (args := [ptr cb 0]) Hvaf.func207 rfl Hvaf.ntmps207 (by simp) (by kernel_rfl) ?_
  skip
  refine CallG.sameL [] hrn ?_
  repeat (first | refine SeqS.go cok ?_ | refine CondS.f rfl ?_)
  refine CallG.sameL [] ha0 ?_
  skip
  refine (hsm _).mono ?_
  rintro r _ - ⟨rfl, rfl⟩
  repeat (first | refine SeqS.go cok ?_)
  refine CallG.sameL [] ha1 ?_
  intro x1
  repeat (first | refine SeqS.go cok ?_ | (refine OpG.keep ?_; first | refine OpG.sL cok 0 rfl rfl rfl rfl rfl rfl rfl (by first | exact Nat.le_of_ble_eq_true rfl | omega | (dsimp only; omega) | (simp only [addS_eq, mulS_eq]; omega)) ?_))
  refine CallG.sameL [_] hop ?_
  repeat (first | refine SeqS.go cok ?_ | refine CondS.t rfl ?_)
  refine CallG.sameL [_] hld ?_
  intro x2
  repeat (first | (refine QuG.keep ?_; first | refine QuG.upL cok 0 rfl rfl rfl rfl rfl rfl (by assumption) (by first | exact Nat.le_of_ble_eq_true rfl | omega) ?_) | (refine OpG.keep ?_; first | refine OpG.upS cok 0 rfl rfl rfl rfl rfl (by assumption) (by first | assumption | exact one_bvs _) (by first | exact Nat.le_of_ble_eq_true rfl | omega) ?_) | refine SeqS.go cok ?_ | refine CondS.f rfl ?_)
  refine (hu _).mono ?_
  rintro r _ - ⟨rfl, rfl⟩
  skip
  refine CallG.behind [_, _] hse ?_
  rintro r J G1 hs ⟨c', hS, h1, h2⟩
  cases hS
  repeat (first | refine SeqS.go cok ?_)
  exact Fin.drop (⟨cb, sz, T, c'⟩ :: G) [_, _] ⟨c', rfl, h1, h2⟩
end Go.Proofs.YgvafwGreat
