import Derived.Test.YgvafwGreatE89
set_option exponentiation.threshold 1000
set_option maxRecDepth 100000
set_option maxHeartbeats 4000000
set_option linter.unusedVariables false
set_option linter.unusedSimpArgs false
-- v2
-- v4
-- v5
-- v6
-- v7
namespace Go.Proofs.YgvafwGreat
open Go.HL Go.Proofs

/-- mach.Machine.Exec -/
theorem mExCr {S : St} {cb : Nat} {Q : Post} (hx : CallG Hvaf.prog 210 #[ptr cb 0] S Q) :
    CallG Hvaf.prog 121 #[ptr cb 0, .int .u8 ((240 : Nat) : Int)] S fun _ S' => ∃ r, Q r S' := by
  refine CallG.start (C := mkC Hvaf.prog) cok (args := [ptr cb 0, .int .u8 ((240 : Nat) : Int)]) Hvaf.func121 rfl Hvaf.ntmps121 (by simp) (by kernel_rfl) ?_
  repeat (first | refine SeqS.go cok ?_ | refine CondS.t rfl ?_ | refine CondS.f rfl ?_)
  refine CallG.mono hx ?_
  intro r S' hs hq
  skip
  exact Fin.same ⟨r, hq⟩
/-- mach.Machine.Exec -/
theorem mExDst {S : St} {cb : Nat} {Q : Post} (hx : CallG Hvaf.prog 212 #[ptr cb 0] S Q) :
    CallG Hvaf.prog 121 #[ptr cb 0, .int .u8 ((255 : Nat) : Int)] S fun _ S' => ∃ r, Q r S' := by
  refine CallG.start (C := mkC Hvaf.prog) cok (args := [ptr cb 0, .int .u8 ((255 : Nat) : Int)]) Hvaf.func121 rfl Hvaf.ntmps121 (by simp) (by kernel_rfl) ?_
  repeat (first | refine SeqS.go cok ?_ | refine CondS.t rfl ?_ | refine CondS.f rfl ?_)
  refine CallG.mono hx ?_
  intro r S' hs hq
  skip
  exact Fin.same ⟨r, hq⟩
section
variable {I : Ent → Prop} {G : List Ent} {cb sz g1 n g0 pc : Nat} {T : TypeId} {c : Nat → Value}
/-- mach.Machine.OpEnd, a child's STOP -/
theorem cOpEnd (hsz : 2435 ≤ sz) (h : Ch1 I cb c g1 n) {Q : Post} (hen : CallG Hvaf.prog 196 #[ptr cb 0, .int .u8 ((0 : Nat) : Int), .slice none 0 0] ⟨I, ⟨cb, sz, T, c⟩ :: G⟩ Q) :
    CallG Hvaf.prog 214 #[ptr cb 0] ⟨I, ⟨cb, sz, T, c⟩ :: G⟩ fun _ S' => ∃ r, Q r S' := by
  have hrn := mRunning1 (I := I) (G := G) (cb := cb) (T := T) hsz h.ph h.s0 h.top
  have hop := cOpcode (G := G) (T := T) hsz h
  refine CallG.start (C := mkC Hvaf.prog) cok (args := [ptr cb 0]) Hvaf.func214 rfl Hvaf.ntmps214 (by simp) (by kernel_rfl) ?_
  skip
  refine CallG.sameL [] hrn ?_
  repeat (first | refine SeqS.go cok ?_ | refine CondS.f rfl ?_)
  refine CallG.sameL [] hop ?_
  repeat (first | refine SeqS.go cok ?_ | refine CondS.t rfl ?_)
  refine CallG.mono hen ?_
  intro r S' hs hq
  repeat (first | refine SeqS.go cok ?_)
  exact Fin.same ⟨r, hq⟩
/-- mach.Machine.Step of a child -/
theorem cStep (hsz : 2435 ≤ sz) (h : Ch1 I cb c g1 n) (h10 : c 10 = .int .u8 ((2 : Nat) : Int)) (hg0 : c 1810 = .int .u64 (g0 : Nat)) (hb0 : g0 < 2 ^ 40) (hol : c 1867 = .int .u32 ((0 : Nat) : Int)) (hsb : c 1808 = .int .u16 ((0 : Nat) : Int)) (hM : MV (chE c (g0 + g1)) pc (g0 + g1) []) (hpb : pc + 1 < 60000) :
    CallG Hvaf.prog 46 #[ptr cb 0] ⟨I, ⟨cb, sz, T, c⟩ :: G⟩ fun r S' => r = .bool true ∧ ∃ c', S' = ⟨I, ⟨cb, sz, T, c'⟩ :: G⟩ ∧ MV c' (pc + 1) (g0 + g1) [bev crAd] ∧ Stk (chE c (g0 + g1)) c' := by
  have hph := h.ph
  have hmS := h.s0
  have hna := cNat (G := G) (T := T) hsz h
  have hop := cOpcode (G := G) (T := T) hsz h
  have hin := fun S => mInfo (S := S) (o := 0) (by decide)
  have had := cAdmit (G := G) (T := T) hsz h
  have hex := mExOpEnd (o := 0) (by decide) (cOpEnd hsz h (cEnd (G := G) (T := T) hsz h h10 hg0 hb0 hol hsb hM hpb))
  unfold SetP at hex
  refine CallG.start (C := mkC Hvaf.prog) cok (args := [ptr cb 0]) Hvaf.func46 rfl Hvaf.ntmps46 (by simp) (by kernel_rfl) ?_
  repeat (first | (refine QuG.keep ?_; first | refine QuG.l1E cok 0 rfl rfl rfl rfl rfl (by first | exact Nat.le_of_ble_eq_true rfl | omega | (dsimp only; omega) | (simp only [addS_eq, mulS_eq]; omega)) (by assumption) ?_) | refine SeqS.go cok ?_ | refine GuardS.yes rfl ?_ | refine CondS.f rfl ?_)
  refine CallG.sameL [] hna ?_
  repeat (first | refine SeqS.go cok ?_ | refine CondS.f rfl ?_)
  refine CallG.sameL [] hop ?_
  repeat (first | refine SeqS.go cok ?_)
  refine (hin _).mono ?_
  rintro r _ - ⟨rfl, rfl⟩
  repeat (first | refine SeqS.go cok ?_)
  refine CallG.sameL [] had ?_
  repeat (first | refine SeqS.go cok ?_ | refine CondS.t rfl ?_)
  refine hex.mono ?_
  rintro r S' hs ⟨r2, r3, c', rfl, q1, q2⟩
  repeat (first | refine SeqS.go cok ?_)
  exact Fin.same ⟨rfl, c', rfl, q1, q2⟩
end
end Go.Proofs.YgvafwGreat
