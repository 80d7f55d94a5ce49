import Derived.Test.YgvafwGreatE46
import Derived.Test.YgvafwGreatE44
import Derived.Test.YgvafwGreatE43b
set_option exponentiation.threshold 1000
set_option maxRecDepth 100000
set_option maxHeartbeats 4000000
set_option linter.unusedVariables false
set_option linter.unusedSimpArgs false
-- v2
-- v4
-- v5
-- v6
-- v7
namespace Go.Proofs.YgvafwGreat
open Go.HL Go.Proofs
/-- mach.Machine.Step, a check fails -/
theorem mStF {I : Ent → Prop} {cb sz : Nat} {T : TypeId} {c : Nat → Value} {K : YK} {V : Vl} {pc gas o st : Nat} {s mem : List Nat} {M G : List Ent} (h : EI I cb sz c K V pc gas s mem M G) (ho : K.code.getD pc 0 = o) (ho2 : o < 256)
    (hx : CallG Hvaf.prog 120 #[ptr cb 0, .int .u8 (o : Nat), .int .u8 ((arN o).1 : Nat), .int .u8 ((arN o).2.1 : Nat), .int .u16 (sgN o : Nat), .bool (arN o).2.2] ⟨I, ⟨cb, sz, T, c⟩ :: (M ++ G)⟩ (FailP I M cb sz T c V st)) :
    CallG Hvaf.prog 46 #[ptr cb 0] ⟨I, ⟨cb, sz, T, c⟩ :: (M ++ G)⟩ fun r S' => r = .bool true ∧ ∃ c0 G', S' = ⟨I, ⟨cb, sz, T, endC c0 st 0 (.slice none 0 0)⟩ :: (M ++ G')⟩ ∧ Out c c0 ∧ VI I c0 { popN (V.jr.length - V.mq) V with nm := 0 } G' := by
  have hsz' : 2435 ≤ sz := by have := h.eS; omega
  have hph := h.eK.mPh
  have hmS := h.eK.mS
  have hna := mNat (I := I) (G := M ++ G) (cb := cb) (T := T) hsz' h.eK
  have hop := mOpcode (I := I) (G := M ++ G) (cb := cb) (T := T) hsz' h.eK h.eM
  rw [ho] at hop
  have hin := fun S => mInfo (S := S) ho2
  unfold FailP at hx
  generalize ({ popN (V.jr.length - V.mq) V with nm := 0 } : Vl) = V0 at *
  generalize (arN o).1 = a1 at *
  generalize (arN o).2.1 = a2 at *
  generalize (arN o).2.2 = a3 at *
  generalize sgN o = a4 at *
  refine CallG.start (C := mkC Hvaf.prog) cok (args := [ptr cb 0]) Hvaf.func46 rfl Hvaf.ntmps46 (by simp) (by kernel_rfl) ?_
  repeat (first | (refine QuG.keep ?_; first | refine QuG.l1E cok 0 rfl rfl rfl rfl rfl (by first | exact Nat.le_of_ble_eq_true rfl | omega | (dsimp only; omega) | (simp only [addS_eq, mulS_eq]; omega)) (by assumption) ?_) | refine SeqS.go cok ?_ | refine GuardS.yes rfl ?_ | refine CondS.f rfl ?_)
  refine CallG.sameL [] hna ?_
  repeat (first | refine SeqS.go cok ?_ | refine CondS.f rfl ?_)
  refine CallG.sameL [] hop ?_
  repeat (first | refine SeqS.go cok ?_)
  refine (hin _).mono ?_
  rintro r _ - ⟨rfl, rfl⟩
  repeat (first | refine SeqS.go cok ?_)
  refine CallG.behind [] hx ?_
  rintro r J G1 hs ⟨rfl, c0, G0, hS, g1, g2⟩
  cases hS
  repeat (first | refine SeqS.go cok ?_ | refine CondS.f rfl ?_)
  exact Fin.same ⟨rfl, c0, G0, rfl, g1, g2⟩
/-- mach.Machine.Step, the checks are passed -/
theorem mStP {I : Ent → Prop} {cb sz : Nat} {T : TypeId} {c : Nat → Value} {K : YK} {V : Vl} {pc gas gas' o : Nat} {s mem mem' : List Nat} {M G : List Ent} {Q : Post} (h : EI I cb sz c K V pc gas s mem M G) (ho : K.code.getD pc 0 = o) (ho2 : o < 256)
    (hx : CallG Hvaf.prog 120 #[ptr cb 0, .int .u8 (o : Nat), .int .u8 ((arN o).1 : Nat), .int .u8 ((arN o).2.1 : Nat), .int .u16 (sgN o : Nat), .bool (arN o).2.2] ⟨I, ⟨cb, sz, T, c⟩ :: (M ++ G)⟩ (PassP I G cb sz T c pc gas' s mem'))
    (he : ∀ c' M', ArI c' mem' M' → MV c' pc gas' s → (∀ k, k ≠ 1 → k ≠ 3 → k ≠ 1810 → c' k = c k) → CallG Hvaf.prog 121 #[ptr cb 0, .int .u8 (o : Nat)] ⟨I, ⟨cb, sz, T, c'⟩ :: (M' ++ G)⟩ fun r S' => Q r S') :
    CallG Hvaf.prog 46 #[ptr cb 0] ⟨I, ⟨cb, sz, T, c⟩ :: (M ++ G)⟩ fun r S' => r = .bool true ∧ ∃ r', Q r' S' := by
  have hsz' : 2435 ≤ sz := by have := h.eS; omega
  have hph := h.eK.mPh
  have hmS := h.eK.mS
  have hna := mNat (I := I) (G := M ++ G) (cb := cb) (T := T) hsz' h.eK
  have hop := mOpcode (I := I) (G := M ++ G) (cb := cb) (T := T) hsz' h.eK h.eM
  rw [ho] at hop
  have hin := fun S => mInfo (S := S) ho2
  unfold PassP at hx
  generalize (arN o).1 = a1 at *
  generalize (arN o).2.1 = a2 at *
  generalize (arN o).2.2 = a3 at *
  generalize sgN o = a4 at *
  refine CallG.start (C := mkC Hvaf.prog) cok (args := [ptr cb 0]) Hvaf.func46 rfl Hvaf.ntmps46 (by simp) (by kernel_rfl) ?_
  repeat (first | (refine QuG.keep ?_; first | refine QuG.l1E cok 0 rfl rfl rfl rfl rfl (by first | exact Nat.le_of_ble_eq_true rfl | omega | (dsimp only; omega) | (simp only [addS_eq, mulS_eq]; omega)) (by assumption) ?_) | refine SeqS.go cok ?_ | refine GuardS.yes rfl ?_ | refine CondS.f rfl ?_)
  refine CallG.sameL [] hna ?_
  repeat (first | refine SeqS.go cok ?_ | refine CondS.f rfl ?_)
  refine CallG.sameL [] hop ?_
  repeat (first | refine SeqS.go cok ?_)
  refine (hin _).mono ?_
  rintro r _ - ⟨rfl, rfl⟩
  repeat (first | refine SeqS.go cok ?_)
  refine CallG.behind [] hx ?_
  rintro r J G1 hs ⟨rfl, c', M', hS, g1, g2, g3⟩
  cases hS
  repeat (first | refine SeqS.go cok ?_ | refine CondS.t rfl ?_)
  refine (he c' M' g1 g2 g3).mono ?_
  intro r S' hs hq
  repeat (first | refine SeqS.go cok ?_)
  exact Fin.same ⟨rfl, r, hq⟩
end Go.Proofs.YgvafwGreat
