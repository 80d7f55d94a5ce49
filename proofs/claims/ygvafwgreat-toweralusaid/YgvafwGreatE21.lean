import Derived.Test.YgvafwGreatE20
set_option exponentiation.threshold 1000
set_option maxRecDepth 100000
set_option maxHeartbeats 4000000
set_option linter.unusedVariables false
set_option linter.unusedSimpArgs false
-- v2
-- v4
-- v5
-- v6
-- v7
namespace Go.Proofs.YgvafwGreat
open Go.HL Go.Proofs
/-- mach.Machine.OpBlock, 68 -/
theorem mBl68 {I : Ent → Prop} {G : List Ent} {cb sz pc gas : Nat} {T : TypeId} {c : Nat → Value} {K : YK} {s : List Nat} (hsz : 2435 ≤ sz) (hK : MK I cb c K) (hM : MV c pc gas s) (hpb : pc + 1 < 60000) (ho : K.code.getD pc 0 = 68) (h64 : s.length < 64) :
    CallG Hvaf.prog 206 #[ptr cb 0] ⟨I, ⟨cb, sz, T, c⟩ :: G⟩ (SetP I G cb sz T c (pc + 1) gas (s ++ [bev (List.replicate 32 0)])) := by
  have hrn := mRunning (I := I) (G := G) (cb := cb) (T := T) hsz hK
  have hop := mOpcode (I := I) (G := G) (cb := cb) (T := T) hsz hK hM
  rw [ho] at hop
  have hrow := hK.eRa
  have hwl : (bvs (List.replicate 32 0)).length = 32 := rfl
  have hu := fun S => FromBytes_spec (S := S) (ds := List.replicate 32 0) rfl (by decide)
  have hlt : bev (List.replicate 32 0) < 115792089237316195423570985008687907853269984665640564039457584007913129639936 := by decide
  have hse := mSettleG (I := I) (G := G) (cb := cb) (T := T) (t := 0) (step := 1) (w := bev (List.replicate 32 0)) hsz hK.fsb hM (Nat.zero_le _) hpb (by omega) hlt
  rw [wcs_word, Nat.sub_zero, List.take_length] at hse
  generalize s ++ [bev (List.replicate 32 0)] = s' at *
  generalize bev (List.replicate 32 0) = w at *
  have hrd2 : ∀ y : Ent, Rd ⟨I, y :: ⟨cb, sz, T, c⟩ :: G⟩ ⟨cb, sz, T, c⟩ := fun y => .inr (List.mem_cons_of_mem _ List.mem_cons_self)
  have hfit : 2283 + 32 ≤ sz := by omega
  refine CallG.start (C := mkC Hvaf.prog) cok (args := [ptr cb 0]) Hvaf.func206 rfl Hvaf.ntmps206 (by simp) (by kernel_rfl) ?_
  skip
  refine CallG.sameL [] hrn ?_
  repeat (first | refine SeqS.go cok ?_ | refine CondS.f rfl ?_ | refine And.intro (fillOk_of (Eq.refl true)) ?_)
  intro x1
  repeat (first | refine SeqS.go cok ?_ | (refine OpG.keep ?_; first | refine OpG.sL cok 0 rfl rfl rfl rfl rfl rfl rfl (by first | exact Nat.le_of_ble_eq_true rfl | omega | (dsimp only; omega) | (simp only [addS_eq, mulS_eq]; omega)) ?_))
  refine CallG.sameL [_] hop ?_
  repeat (first | (refine QuG.keep ?_; refine QuG.rowE cok hrow (hrd2 _) rfl rfl rfl rfl rfl hwl hfit ?_) | refine SeqS.go cok ?_ | refine CondS.t rfl ?_ | refine CondS.f rfl ?_)
  refine (hu _).mono ?_
  rintro r _ - ⟨rfl, rfl⟩
  repeat (first | refine SeqS.go cok ?_ | (refine QuG.keep ?_; first | refine QuG.lN cok 0 rfl rfl rfl rfl rfl (by first | exact Nat.le_of_ble_eq_true rfl | omega | (dsimp only; omega) | (simp only [addS_eq, mulS_eq]; omega)) ?_) | (refine OpG.keep ?_; first | refine OpG.sL cok 0 rfl rfl rfl rfl rfl rfl rfl (by first | exact Nat.le_of_ble_eq_true rfl | omega | (dsimp only; omega) | (simp only [addS_eq, mulS_eq]; omega)) ?_))
  refine CallG.behind [_] hse ?_
  rintro r J G1 hs ⟨c', hS, h1, h2⟩
  cases hS
  skip
  exact Fin.drop (⟨cb, sz, T, c'⟩ :: G) [_] ⟨c', rfl, h1, h2⟩
/-- mach.Machine.OpBlock, 70 -/
theorem mBl70 {I : Ent → Prop} {G : List Ent} {cb sz pc gas : Nat} {T : TypeId} {c : Nat → Value} {K : YK} {s : List Nat} (hsz : 2435 ≤ sz) (hK : MK I cb c K) (hM : MV c pc gas s) (hpb : pc + 1 < 60000) (ho : K.code.getD pc 0 = 70) (h64 : s.length < 64) :
    CallG Hvaf.prog 206 #[ptr cb 0] ⟨I, ⟨cb, sz, T, c⟩ :: G⟩ (SetP I G cb sz T c (pc + 1) gas (s ++ [bev (List.replicate 32 0)])) := by
  have hrn := mRunning (I := I) (G := G) (cb := cb) (T := T) hsz hK
  have hop := mOpcode (I := I) (G := G) (cb := cb) (T := T) hsz hK hM
  rw [ho] at hop
  have hrow := hK.eCh
  have hwl : (bvs (List.replicate 32 0)).length = 32 := rfl
  have hu := fun S => FromBytes_spec (S := S) (ds := List.replicate 32 0) rfl (by decide)
  have hlt : bev (List.replicate 32 0) < 115792089237316195423570985008687907853269984665640564039457584007913129639936 := by decide
  have hse := mSettleG (I := I) (G := G) (cb := cb) (T := T) (t := 0) (step := 1) (w := bev (List.replicate 32 0)) hsz hK.fsb hM (Nat.zero_le _) hpb (by omega) hlt
  rw [wcs_word, Nat.sub_zero, List.take_length] at hse
  generalize s ++ [bev (List.replicate 32 0)] = s' at *
  generalize bev (List.replicate 32 0) = w at *
  have hrd2 : ∀ y : Ent, Rd ⟨I, y :: ⟨cb, sz, T, c⟩ :: G⟩ ⟨cb, sz, T, c⟩ := fun y => .inr (List.mem_cons_of_mem _ List.mem_cons_self)
  have hfit : 2315 + 32 ≤ sz := by omega
  refine CallG.start (C := mkC Hvaf.prog) cok (args := [ptr cb 0]) Hvaf.func206 rfl Hvaf.ntmps206 (by simp) (by kernel_rfl) ?_
  skip
  refine CallG.sameL [] hrn ?_
  repeat (first | refine SeqS.go cok ?_ | refine CondS.f rfl ?_ | refine And.intro (fillOk_of (Eq.refl true)) ?_)
  intro x1
  repeat (first | refine SeqS.go cok ?_ | (refine OpG.keep ?_; first | refine OpG.sL cok 0 rfl rfl rfl rfl rfl rfl rfl (by first | exact Nat.le_of_ble_eq_true rfl | omega | (dsimp only; omega) | (simp only [addS_eq, mulS_eq]; omega)) ?_))
  refine CallG.sameL [_] hop ?_
  repeat (first | (refine QuG.keep ?_; refine QuG.rowE cok hrow (hrd2 _) rfl rfl rfl rfl rfl hwl hfit ?_) | refine SeqS.go cok ?_ | refine CondS.t rfl ?_ | refine CondS.f rfl ?_)
  refine (hu _).mono ?_
  rintro r _ - ⟨rfl, rfl⟩
  repeat (first | refine SeqS.go cok ?_ | (refine QuG.keep ?_; first | refine QuG.lN cok 0 rfl rfl rfl rfl rfl (by first | exact Nat.le_of_ble_eq_true rfl | omega | (dsimp only; omega) | (simp only [addS_eq, mulS_eq]; omega)) ?_) | (refine OpG.keep ?_; first | refine OpG.sL cok 0 rfl rfl rfl rfl rfl rfl rfl (by first | exact Nat.le_of_ble_eq_true rfl | omega | (dsimp only; omega) | (simp only [addS_eq, mulS_eq]; omega)) ?_))
  refine CallG.behind [_] hse ?_
  rintro r J G1 hs ⟨c', hS, h1, h2⟩
  cases hS
  skip
  exact Fin.drop (⟨cb, sz, T, c'⟩ :: G) [_] ⟨c', rfl, h1, h2⟩
/-- mach.Machine.OpBlock, 72 -/
theorem mBl72 {I : Ent → Prop} {G : List Ent} {cb sz pc gas : Nat} {T : TypeId} {c : Nat → Value} {K : YK} {s : List Nat} (hsz : 2435 ≤ sz) (hK : MK I cb c K) (hM : MV c pc gas s) (hpb : pc + 1 < 60000) (ho : K.code.getD pc 0 = 72) (h64 : s.length < 64) :
    CallG Hvaf.prog 206 #[ptr cb 0] ⟨I, ⟨cb, sz, T, c⟩ :: G⟩ (SetP I G cb sz T c (pc + 1) gas (s ++ [bev (List.replicate 32 0)])) := by
  have hrn := mRunning (I := I) (G := G) (cb := cb) (T := T) hsz hK
  have hop := mOpcode (I := I) (G := G) (cb := cb) (T := T) hsz hK hM
  rw [ho] at hop
  have hrow := hK.eBf
  have hwl : (bvs (List.replicate 32 0)).length = 32 := rfl
  have hu := fun S => FromBytes_spec (S := S) (ds := List.replicate 32 0) rfl (by decide)
  have hlt : bev (List.replicate 32 0) < 115792089237316195423570985008687907853269984665640564039457584007913129639936 := by decide
  have hse := mSettleG (I := I) (G := G) (cb := cb) (T := T) (t := 0) (step := 1) (w := bev (List.replicate 32 0)) hsz hK.fsb hM (Nat.zero_le _) hpb (by omega) hlt
  rw [wcs_word, Nat.sub_zero, List.take_length] at hse
  generalize s ++ [bev (List.replicate 32 0)] = s' at *
  generalize bev (List.replicate 32 0) = w at *
  have hrd2 : ∀ y : Ent, Rd ⟨I, y :: ⟨cb, sz, T, c⟩ :: G⟩ ⟨cb, sz, T, c⟩ := fun y => .inr (List.mem_cons_of_mem _ List.mem_cons_self)
  have hfit : 2347 + 32 ≤ sz := by omega
  refine CallG.start (C := mkC Hvaf.prog) cok (args := [ptr cb 0]) Hvaf.func206 rfl Hvaf.ntmps206 (by simp) (by kernel_rfl) ?_
  skip
  refine CallG.sameL [] hrn ?_
  repeat (first | refine SeqS.go cok ?_ | refine CondS.f rfl ?_ | refine And.intro (fillOk_of (Eq.refl true)) ?_)
  intro x1
  repeat (first | refine SeqS.go cok ?_ | (refine OpG.keep ?_; first | refine OpG.sL cok 0 rfl rfl rfl rfl rfl rfl rfl (by first | exact Nat.le_of_ble_eq_true rfl | omega | (dsimp only; omega) | (simp only [addS_eq, mulS_eq]; omega)) ?_))
  refine CallG.sameL [_] hop ?_
  repeat (first | (refine QuG.keep ?_; refine QuG.rowE cok hrow (hrd2 _) rfl rfl rfl rfl rfl hwl hfit ?_) | refine SeqS.go cok ?_ | refine CondS.t rfl ?_ | refine CondS.f rfl ?_)
  refine (hu _).mono ?_
  rintro r _ - ⟨rfl, rfl⟩
  repeat (first | refine SeqS.go cok ?_ | (refine QuG.keep ?_; first | refine QuG.lN cok 0 rfl rfl rfl rfl rfl (by first | exact Nat.le_of_ble_eq_true rfl | omega | (dsimp only; omega) | (simp only [addS_eq, mulS_eq]; omega)) ?_) | (refine OpG.keep ?_; first | refine OpG.sL cok 0 rfl rfl rfl rfl rfl rfl rfl (by first | exact Nat.le_of_ble_eq_true rfl | omega | (dsimp only; omega) | (simp only [addS_eq, mulS_eq]; omega)) ?_))
  refine CallG.behind [_] hse ?_
  rintro r J G1 hs ⟨c', hS, h1, h2⟩
  cases hS
  skip
  exact Fin.drop (⟨cb, sz, T, c'⟩ :: G) [_] ⟨c', rfl, h1, h2⟩
end Go.Proofs.YgvafwGreat
