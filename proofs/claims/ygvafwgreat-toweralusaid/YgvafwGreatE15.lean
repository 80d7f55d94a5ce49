import Derived.Test.YgvafwGreatE13
set_option exponentiation.threshold 1000
set_option maxRecDepth 100000
set_option maxHeartbeats 4000000
set_option linter.unusedVariables false
set_option linter.unusedSimpArgs false
-- v2
-- v4
-- v5
-- v6
-- v7
namespace Go.Proofs.YgvafwGreat
open Go.HL Go.Proofs
/-- mach.Machine.OpJump, 91 -/
theorem mJ91 {I : Ent → Prop} {G : List Ent} {cb sz pc gas : Nat} {T : TypeId} {c : Nat → Value} {K : YK} {s : List Nat} (hsz : 2435 ≤ sz) (hK : MK I cb c K) (hM : MV c pc gas s) (hpb : pc + 1 < 60000) (ho : K.code.getD pc 0 = 91)  :
    CallG Hvaf.prog 209 #[ptr cb 0] ⟨I, ⟨cb, sz, T, c⟩ :: G⟩ (SetP I G cb sz T c (pc + 1) gas (s)) := by
  have hrn := mRunning (I := I) (G := G) (cb := cb) (T := T) hsz hK
  have hop := mOpcode (I := I) (G := G) (cb := cb) (T := T) hsz hK hM
  rw [ho] at hop
  have ha0 := mArg (I := I) (G := G) (cb := cb) (T := T) (i := 0) hsz hK.fsb hM (by decide)
  have ha1 := mArg (I := I) (G := G) (cb := cb) (T := T) (i := 1) hsz hK.fsb hM (by decide)
  have hb0 : argN s 0 < 115792089237316195423570985008687907853269984665640564039457584007913129639936 := argN_lt hM.sb
  have hb1 : argN s 1 < 115792089237316195423570985008687907853269984665640564039457584007913129639936 := argN_lt hM.sb
  have hse := mSettleN (I := I) (G := G) (cb := cb) (T := T) (t := 0) (step := 1) (ws := [.int .u64 0, .int .u64 0, .int .u64 0, .int .u64 0]) hsz hM (Nat.zero_le _) hpb rfl
  rw [Nat.sub_zero, List.take_length] at hse
  generalize argN s 0 = a at *
  generalize argN s 1 = b at *
  refine CallG.start (C := mkC Hvaf.prog) cok (args := [ptr cb 0]) Hvaf.func209 rfl Hvaf.ntmps209 (by simp) (by kernel_rfl) ?_
  skip
  refine CallG.sameL [] hrn ?_
  repeat (first | refine SeqS.go cok ?_ | refine CondS.f rfl ?_)
  refine CallG.sameL [] ha0 ?_
  intro x1
  repeat (first | refine SeqS.go cok ?_ | (refine OpG.keep ?_; first | refine OpG.sL cok 0 rfl rfl rfl rfl rfl rfl rfl (by first | exact Nat.le_of_ble_eq_true rfl | omega | (dsimp only; omega) | (simp only [addS_eq, mulS_eq]; omega)) ?_))
  refine CallG.sameL [_] ha1 ?_
  intro x2
  repeat (first | refine SeqS.go cok ?_ | (refine OpG.keep ?_; first | refine OpG.sL cok 0 rfl rfl rfl rfl rfl rfl rfl (by first | exact Nat.le_of_ble_eq_true rfl | omega | (dsimp only; omega) | (simp only [addS_eq, mulS_eq]; omega)) ?_))
  refine CallG.sameL [_, _] hop ?_
  repeat (first | refine SeqS.go cok ?_ | refine GuardS.no rfl ?_ | refine CondS.t rfl ?_ | refine CondS.f rfl ?_ | refine And.intro (fillOk_of (Eq.refl true)) ?_)
  refine CallG.behind [_, _] hse ?_
  rintro r J G1 hs ⟨c', hS, h1, h2⟩
  cases hS
  repeat (first | refine SeqS.go cok ?_)
  exact Fin.drop (⟨cb, sz, T, c'⟩ :: G) [_, _] ⟨c', rfl, h1, h2⟩
/-- mach.Machine.OpJump, 87 -/
theorem mJ87z {I : Ent → Prop} {G : List Ent} {cb sz pc gas : Nat} {T : TypeId} {c : Nat → Value} {K : YK} {s : List Nat} (hsz : 2435 ≤ sz) (hK : MK I cb c K) (hM : MV c pc gas s) (hpb : pc + 1 < 60000) (ho : K.code.getD pc 0 = 87) (h2 : 2 ≤ s.length) (hz : argN s 1 = 0) :
    CallG Hvaf.prog 209 #[ptr cb 0] ⟨I, ⟨cb, sz, T, c⟩ :: G⟩ (SetP I G cb sz T c (pc + 1) gas (s.take (s.length - 2))) := by
  have hrn := mRunning (I := I) (G := G) (cb := cb) (T := T) hsz hK
  have hop := mOpcode (I := I) (G := G) (cb := cb) (T := T) hsz hK hM
  rw [ho] at hop
  have ha0 := mArg (I := I) (G := G) (cb := cb) (T := T) (i := 0) hsz hK.fsb hM (by decide)
  have ha1 := mArg (I := I) (G := G) (cb := cb) (T := T) (i := 1) hsz hK.fsb hM (by decide)
  have hb0 : argN s 0 < 115792089237316195423570985008687907853269984665640564039457584007913129639936 := argN_lt hM.sb
  have hb1 : argN s 1 < 115792089237316195423570985008687907853269984665640564039457584007913129639936 := argN_lt hM.sb
  have hse := mSettleN (I := I) (G := G) (cb := cb) (T := T) (t := 2) (step := 1) (ws := [.int .u64 0, .int .u64 0, .int .u64 0, .int .u64 0]) hsz hM h2 hpb rfl
  have hu := fun S => UIsZero_spec (S := S) hb1
  rw [decide_eq_true hz] at hu
  generalize s.take (s.length - 2) = s' at *
  generalize argN s 0 = a at *
  generalize argN s 1 = b at *
  refine CallG.start (C := mkC Hvaf.prog) cok (args := [ptr cb 0]) Hvaf.func209 rfl Hvaf.ntmps209 (by simp) (by kernel_rfl) ?_
  skip
  refine CallG.sameL [] hrn ?_
  repeat (first | refine SeqS.go cok ?_ | refine CondS.f rfl ?_)
  refine CallG.sameL [] ha0 ?_
  intro x1
  repeat (first | refine SeqS.go cok ?_ | (refine OpG.keep ?_; first | refine OpG.sL cok 0 rfl rfl rfl rfl rfl rfl rfl (by first | exact Nat.le_of_ble_eq_true rfl | omega | (dsimp only; omega) | (simp only [addS_eq, mulS_eq]; omega)) ?_))
  refine CallG.sameL [_] ha1 ?_
  intro x2
  repeat (first | refine SeqS.go cok ?_ | (refine OpG.keep ?_; first | refine OpG.sL cok 0 rfl rfl rfl rfl rfl rfl rfl (by first | exact Nat.le_of_ble_eq_true rfl | omega | (dsimp only; omega) | (simp only [addS_eq, mulS_eq]; omega)) ?_))
  refine CallG.sameL [_, _] hop ?_
  repeat (first | refine SeqS.go cok ?_ | refine GuardS.yes rfl ?_ | refine CondS.t rfl ?_ | refine CondS.f rfl ?_ | (refine QuG.keep ?_; first | refine QuG.lN cok 0 rfl rfl rfl rfl rfl (by first | exact Nat.le_of_ble_eq_true rfl | omega | (dsimp only; omega) | (simp only [addS_eq, mulS_eq]; omega)) ?_))
  refine (hu _).mono ?_
  rintro r _ - ⟨rfl, rfl⟩
  repeat (first | refine SeqS.go cok ?_ | refine CondS.t rfl ?_ | refine And.intro (fillOk_of (Eq.refl true)) ?_)
  refine CallG.behind [_, _] hse ?_
  rintro r J G1 hs ⟨c', hS, h1, h2⟩
  cases hS
  repeat (first | refine SeqS.go cok ?_)
  exact Fin.drop (⟨cb, sz, T, c'⟩ :: G) [_, _] ⟨c', rfl, h1, h2⟩
/-- mach.Machine.OpJump, 86 -/
theorem mJ86 {I : Ent → Prop} {G : List Ent} {cb sz pc gas : Nat} {T : TypeId} {c : Nat → Value} {K : YK} {s : List Nat} (hsz : 2435 ≤ sz) (hK : MK I cb c K) (hM : MV c pc gas s) (hpb : pc + 1 < 60000) (ho : K.code.getD pc 0 = 86) (h2 : 1 ≤ s.length) (ha : argN s 0 < 512)  :
    CallG Hvaf.prog 209 #[ptr cb 0] ⟨I, ⟨cb, sz, T, c⟩ :: G⟩ (SetP I G cb sz T c (argN s 0) gas (s.take (s.length - 1))) := by
  have hrn := mRunning (I := I) (G := G) (cb := cb) (T := T) hsz hK
  have hop := mOpcode (I := I) (G := G) (cb := cb) (T := T) hsz hK hM
  rw [ho] at hop
  have ha0 := mArg (I := I) (G := G) (cb := cb) (T := T) (i := 0) hsz hK.fsb hM (by decide)
  have ha1 := mArg (I := I) (G := G) (cb := cb) (T := T) (i := 1) hsz hK.fsb hM (by decide)
  have hb0 : argN s 0 < 115792089237316195423570985008687907853269984665640564039457584007913129639936 := argN_lt hM.sb
  have hb1 : argN s 1 < 115792089237316195423570985008687907853269984665640564039457584007913129639936 := argN_lt hM.sb
  have hpb0 : pc + 0 < 60000 := by omega
  have hse := mSettleN (I := I) (G := G) (cb := cb) (T := T) (t := 1) (step := 0) (ws := [.int .u64 0, .int .u64 0, .int .u64 0, .int .u64 0]) hsz hM h2 hpb0 rfl
  have h64 := fun S => UU64_spec (S := S) hb0
  have hu := fun S => UIsZero_spec (S := S) one_lt
  rw [decide_eq_false (by decide)] at hu
  rw [if_pos (by omega)] at h64
  generalize s.take (s.length - 1) = s' at *
  generalize argN s 0 = a at *
  generalize argN s 1 = b at *
  have h18 : 1807 < sz := by omega
  refine CallG.start (C := mkC Hvaf.prog) cok (args := [ptr cb 0]) Hvaf.func209 rfl Hvaf.ntmps209 (by simp) (by kernel_rfl) ?_
  skip
  refine CallG.sameL [] hrn ?_
  repeat (first | refine SeqS.go cok ?_ | refine CondS.f rfl ?_)
  refine CallG.sameL [] ha0 ?_
  intro x1
  repeat (first | refine SeqS.go cok ?_ | (refine OpG.keep ?_; first | refine OpG.sL cok 0 rfl rfl rfl rfl rfl rfl rfl (by first | exact Nat.le_of_ble_eq_true rfl | omega | (dsimp only; omega) | (simp only [addS_eq, mulS_eq]; omega)) ?_))
  refine CallG.sameL [_] ha1 ?_
  intro x2
  repeat (first | refine SeqS.go cok ?_ | (refine OpG.keep ?_; first | refine OpG.sL cok 0 rfl rfl rfl rfl rfl rfl rfl (by first | exact Nat.le_of_ble_eq_true rfl | omega | (dsimp only; omega) | (simp only [addS_eq, mulS_eq]; omega)) ?_))
  refine CallG.sameL [_, _] hop ?_
  repeat (first | refine SeqS.go cok ?_ | refine GuardS.yes rfl ?_ | refine CondS.t rfl ?_ | refine And.intro (fillOk_of (Eq.refl true)) ?_ | (refine QuG.keep ?_; first | refine QuG.lN cok 0 rfl rfl rfl rfl rfl (by first | exact Nat.le_of_ble_eq_true rfl | omega | (dsimp only; omega) | (simp only [addS_eq, mulS_eq]; omega)) ?_) | (refine OpG.keep ?_; first | refine OpG.sL cok 0 rfl rfl rfl rfl rfl rfl rfl (by first | exact Nat.le_of_ble_eq_true rfl | omega | (dsimp only; omega) | (simp only [addS_eq, mulS_eq]; omega)) ?_))
  refine (hu _).mono ?_
  rintro r _ - ⟨rfl, rfl⟩
  repeat (first | refine SeqS.go cok ?_ | refine CondS.f rfl ?_ | (refine QuG.keep ?_; first | refine QuG.lN cok 1 rfl rfl rfl rfl rfl (by first | exact Nat.le_of_ble_eq_true rfl | omega | (dsimp only; omega) | (simp only [addS_eq, mulS_eq]; omega)) ?_))
  refine (h64 _).mono ?_
  rintro r _ - ⟨rfl, rfl⟩
  repeat (first | refine SeqS.go cok ?_ | refine And.intro (fillOk_of (Eq.refl true)) ?_ | (refine CondS.keep ?_; first | refine CondS.d0 rfl (by omega) ?_))
  refine CallG.behind [_, _] hse ?_
  rintro r J G1 hs ⟨c', hS, h1, h2⟩
  cases hS
  have hfin := h1.setPc (pc' := a) (by omega)
  repeat (first | refine SeqS.go cok ?_ | (refine ValS.keep ?_; first | (with_reducible refine ValS.kU16 ?_; first | (with_reducible refine ValS.convU16 ?_ ?_ ; omega))) | (refine OpG.keep ?_; first | refine OpG.s1 cok 2 rfl rfl rfl rfl rfl (by first | exact Nat.le_of_ble_eq_true rfl | omega | (dsimp only; omega) | (simp only [addS_eq, mulS_eq]; omega)) rfl rfl ?_))
  exact Fin.drop (⟨cb, sz, T, _⟩ :: G) [_, _] ⟨_, rfl, hfin.1, h2.trans hfin.2⟩
/-- mach.Machine.OpJump, 87 -/
theorem mJ87 {I : Ent → Prop} {G : List Ent} {cb sz pc gas : Nat} {T : TypeId} {c : Nat → Value} {K : YK} {s : List Nat} (hsz : 2435 ≤ sz) (hK : MK I cb c K) (hM : MV c pc gas s) (hpb : pc + 1 < 60000) (ho : K.code.getD pc 0 = 87) (h2 : 2 ≤ s.length) (ha : argN s 0 < 512) (hz : argN s 1 ≠ 0) :
    CallG Hvaf.prog 209 #[ptr cb 0] ⟨I, ⟨cb, sz, T, c⟩ :: G⟩ (SetP I G cb sz T c (argN s 0) gas (s.take (s.length - 2))) := by
  have hrn := mRunning (I := I) (G := G) (cb := cb) (T := T) hsz hK
  have hop := mOpcode (I := I) (G := G) (cb := cb) (T := T) hsz hK hM
  rw [ho] at hop
  have ha0 := mArg (I := I) (G := G) (cb := cb) (T := T) (i := 0) hsz hK.fsb hM (by decide)
  have ha1 := mArg (I := I) (G := G) (cb := cb) (T := T) (i := 1) hsz hK.fsb hM (by decide)
  have hb0 : argN s 0 < 115792089237316195423570985008687907853269984665640564039457584007913129639936 := argN_lt hM.sb
  have hb1 : argN s 1 < 115792089237316195423570985008687907853269984665640564039457584007913129639936 := argN_lt hM.sb
  have hpb0 : pc + 0 < 60000 := by omega
  have hse := mSettleN (I := I) (G := G) (cb := cb) (T := T) (t := 2) (step := 0) (ws := [.int .u64 0, .int .u64 0, .int .u64 0, .int .u64 0]) hsz hM h2 hpb0 rfl
  have h64 := fun S => UU64_spec (S := S) hb0
  have hu := fun S => UIsZero_spec (S := S) hb1
  rw [decide_eq_false hz] at hu
  rw [if_pos (by omega)] at h64
  generalize s.take (s.length - 2) = s' at *
  generalize argN s 0 = a at *
  generalize argN s 1 = b at *
  have h18 : 1807 < sz := by omega
  refine CallG.start (C := mkC Hvaf.prog) cok (args := [ptr cb 0]) Hvaf.func209 rfl Hvaf.ntmps209 (by simp) (by kernel_rfl) ?_
  skip
  refine CallG.sameL [] hrn ?_
  repeat (first | refine SeqS.go cok ?_ | refine CondS.f rfl ?_)
  refine CallG.sameL [] ha0 ?_
  intro x1
  repeat (first | refine SeqS.go cok ?_ | (refine OpG.keep ?_; first | refine OpG.sL cok 0 rfl rfl rfl rfl rfl rfl rfl (by first | exact Nat.le_of_ble_eq_true rfl | omega | (dsimp only; omega) | (simp only [addS_eq, mulS_eq]; omega)) ?_))
  refine CallG.sameL [_] ha1 ?_
  intro x2
  repeat (first | refine SeqS.go cok ?_ | (refine OpG.keep ?_; first | refine OpG.sL cok 0 rfl rfl rfl rfl rfl rfl rfl (by first | exact Nat.le_of_ble_eq_true rfl | omega | (dsimp only; omega) | (simp only [addS_eq, mulS_eq]; omega)) ?_))
  refine CallG.sameL [_, _] hop ?_
  repeat (first | refine SeqS.go cok ?_ | refine GuardS.yes rfl ?_ | refine CondS.t rfl ?_ | refine CondS.f rfl ?_ | (refine QuG.keep ?_; first | refine QuG.lN cok 0 rfl rfl rfl rfl rfl (by first | exact Nat.le_of_ble_eq_true rfl | omega | (dsimp only; omega) | (simp only [addS_eq, mulS_eq]; omega)) ?_))
  refine (hu _).mono ?_
  rintro r _ - ⟨rfl, rfl⟩
  repeat (first | refine SeqS.go cok ?_ | refine CondS.f rfl ?_ | (refine QuG.keep ?_; first | refine QuG.lN cok 1 rfl rfl rfl rfl rfl (by first | exact Nat.le_of_ble_eq_true rfl | omega | (dsimp only; omega) | (simp only [addS_eq, mulS_eq]; omega)) ?_))
  refine (h64 _).mono ?_
  rintro r _ - ⟨rfl, rfl⟩
  repeat (first | refine SeqS.go cok ?_ | refine And.intro (fillOk_of (Eq.refl true)) ?_ | (refine CondS.keep ?_; first | refine CondS.d0 rfl (by omega) ?_))
  refine CallG.behind [_, _] hse ?_
  rintro r J G1 hs ⟨c', hS, h1, h2⟩
  cases hS
  have hfin := h1.setPc (pc' := a) (by omega)
  repeat (first | refine SeqS.go cok ?_ | (refine ValS.keep ?_; first | (with_reducible refine ValS.kU16 ?_; first | (with_reducible refine ValS.convU16 ?_ ?_ ; omega))) | (refine OpG.keep ?_; first | refine OpG.s1 cok 2 rfl rfl rfl rfl rfl (by first | exact Nat.le_of_ble_eq_true rfl | omega | (dsimp only; omega) | (simp only [addS_eq, mulS_eq]; omega)) rfl rfl ?_))
  exact Fin.drop (⟨cb, sz, T, _⟩ :: G) [_, _] ⟨_, rfl, hfin.1, h2.trans hfin.2⟩
end Go.Proofs.YgvafwGreat
