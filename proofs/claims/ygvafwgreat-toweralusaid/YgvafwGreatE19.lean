import Derived.Test.YgvafwGreatE16
import Derived.Test.YgvafwGreatE3
set_option exponentiation.threshold 1000
set_option maxRecDepth 100000
set_option maxHeartbeats 4000000
set_option linter.unusedVariables false
set_option linter.unusedSimpArgs false
-- v2
-- v4
-- v5
-- v6
-- v7
namespace Go.Proofs.YgvafwGreat
open Go.HL Go.Proofs
/-- mach.Machine.OpSurround, 89 -/
theorem mSu89 {I : Ent → Prop} {G : List Ent} {cb sz pc gas : Nat} {T : TypeId} {c : Nat → Value} {K : YK} {s : List Nat} {mem : List Nat} {M : List Ent} (hA : ArI c mem M) (hsz : 2435 ≤ sz) (hK : MK I cb c K) (hM : MV c pc gas s) (hpb : pc + 1 < 60000) (ho : K.code.getD pc 0 = 89) (h64 : s.length < 64) :
    CallG Hvaf.prog 204 #[ptr cb 0] ⟨I, ⟨cb, sz, T, c⟩ :: G⟩ (SetP I G cb sz T c (pc + 1) gas (s ++ [mem.length])) := by
  have hrn := mRunning (I := I) (G := G) (cb := cb) (T := T) hsz hK
  have hop := mOpcode (I := I) (G := G) (cb := cb) (T := T) hsz hK hM
  rw [ho] at hop
  have hlen := hA.bf.len
  have hlt : mem.length < 18446744073709551616 := by omega
  have hln := mLen (I := I) (G := G) (cb := cb) (T := T) hsz hA
  have hse := mSettleG (I := I) (G := G) (cb := cb) (T := T) (t := 0) (step := 1) (w := mem.length) hsz hK.fsb hM (Nat.zero_le _) hpb (by omega) (Nat.lt_trans hlt (by decide))
  rw [wcs_word, Nat.sub_zero, List.take_length, ← smallW hlt] at hse
  generalize s ++ [mem.length] = s' at *
  have hrd2 : ∀ y : Ent, Rd ⟨I, y :: ⟨cb, sz, T, c⟩ :: G⟩ ⟨cb, sz, T, c⟩ := fun y => .inr (List.mem_cons_of_mem _ List.mem_cons_self)
  refine CallG.start (C := mkC Hvaf.prog) cok (args := [ptr cb 0]) Hvaf.func204 rfl Hvaf.ntmps204 (by simp) (by kernel_rfl) ?_
  skip
  refine CallG.sameL [] hrn ?_
  repeat (first | refine SeqS.go cok ?_ | refine CondS.f rfl ?_ | refine And.intro (fillOk_of (Eq.refl true)) ?_)
  intro x1
  repeat (first | refine SeqS.go cok ?_ | (refine OpG.keep ?_; first | refine OpG.sL cok 0 rfl rfl rfl rfl rfl rfl rfl (by first | exact Nat.le_of_ble_eq_true rfl | omega | (dsimp only; omega) | (simp only [addS_eq, mulS_eq]; omega)) ?_))
  refine CallG.sameL [_] hop ?_
  repeat (first | refine SeqS.go cok ?_ | refine CondS.t rfl ?_ | refine CondS.f rfl ?_)
  refine CallG.sameL [_] hln ?_
  repeat (first | refine SeqS.go cok ?_ | refine And.intro (by dsimp only; omega) ?_ | (refine NatS.keep ?_; first | with_reducible refine NatS.lit ?_) | (refine ValS.keep ?_; first | (with_reducible refine ValS.kU64 ?_; first | (with_reducible refine ValS.convU64 ?_ ?_ ; omega))) | (refine QuG.keep ?_; first | refine QuG.lN cok 0 rfl rfl rfl rfl rfl (by first | exact Nat.le_of_ble_eq_true rfl | omega | (dsimp only; omega) | (simp only [addS_eq, mulS_eq]; omega)) ?_) | (refine OpG.keep ?_; first | refine OpG.s1 cok 0 rfl rfl rfl rfl rfl (by first | exact Nat.le_of_ble_eq_true rfl | omega | (dsimp only; omega) | (simp only [addS_eq, mulS_eq]; omega)) rfl rfl ?_))
  refine CallG.behind [_] hse ?_
  rintro r J G1 hs ⟨c', hS, h1, h2⟩
  cases hS
  skip
  exact Fin.drop (⟨cb, sz, T, c'⟩ :: G) [_] ⟨c', rfl, h1, h2⟩
/-- mach.Machine.OpSurround, 52 -/
theorem mSu52 {I : Ent → Prop} {G : List Ent} {cb sz pc gas : Nat} {T : TypeId} {c : Nat → Value} {K : YK} {s : List Nat} (hsz : 2435 ≤ sz) (hK : MK I cb c K) (hM : MV c pc gas s) (hpb : pc + 1 < 60000) (ho : K.code.getD pc 0 = 52) (h64 : s.length < 64) :
    CallG Hvaf.prog 204 #[ptr cb 0] ⟨I, ⟨cb, sz, T, c⟩ :: G⟩ (SetP I G cb sz T c (pc + 1) gas (s ++ [0])) := by
  have hrn := mRunning (I := I) (G := G) (cb := cb) (T := T) hsz hK
  have hop := mOpcode (I := I) (G := G) (cb := cb) (T := T) hsz hK hM
  rw [ho] at hop
  have hrow := hK.fval
  have hwl : (wcs 0).length = 4 := rfl
  have hfit : 1852 + 4 ≤ sz := by omega
  have hse := mSettleG (I := I) (G := G) (cb := cb) (T := T) (t := 0) (step := 1) (w := 0) hsz hK.fsb hM (Nat.zero_le _) hpb (by omega) (zero_lt)
  rw [Nat.sub_zero, List.take_length] at hse
  have hwo := wcs_one 0
  generalize s ++ [0] = s' at *
  have hrd2 : ∀ y : Ent, Rd ⟨I, y :: ⟨cb, sz, T, c⟩ :: G⟩ ⟨cb, sz, T, c⟩ := fun y => .inr (List.mem_cons_of_mem _ List.mem_cons_self)
  refine CallG.start (C := mkC Hvaf.prog) cok (args := [ptr cb 0]) Hvaf.func204 rfl Hvaf.ntmps204 (by simp) (by kernel_rfl) ?_
  skip
  refine CallG.sameL [] hrn ?_
  repeat (first | refine SeqS.go cok ?_ | refine CondS.f rfl ?_ | refine And.intro (fillOk_of (Eq.refl true)) ?_)
  intro x1
  repeat (first | (refine OpG.keep ?_; first | refine OpG.upS cok 0 rfl rfl rfl rfl rfl (by assumption) (by first | assumption | exact one_bvs _) (by first | exact Nat.le_of_ble_eq_true rfl | omega) ?_) | refine SeqS.go cok ?_)
  refine CallG.sameL [_] hop ?_
  repeat (first | (refine QuG.keep ?_; refine QuG.rowE cok hrow (hrd2 _) rfl rfl rfl rfl rfl hwl hfit ?_) | (refine QuG.keep ?_; first | refine QuG.upL cok 0 rfl rfl rfl rfl rfl rfl (by assumption) (by first | exact Nat.le_of_ble_eq_true rfl | omega) ?_) | (refine OpG.keep ?_; first | refine OpG.upS cok 0 rfl rfl rfl rfl rfl (by assumption) (by first | assumption | exact one_bvs _) (by first | exact Nat.le_of_ble_eq_true rfl | omega) ?_) | refine SeqS.go cok ?_ | refine CondS.t rfl ?_ | refine CondS.f rfl ?_)
  refine CallG.behind [_] hse ?_
  rintro r J G1 hs ⟨c', hS, h1, h2⟩
  cases hS
  skip
  exact Fin.drop (⟨cb, sz, T, c'⟩ :: G) [_] ⟨c', rfl, h1, h2⟩
/-- mach.Machine.OpSurround, 58 -/
theorem mSu58 {I : Ent → Prop} {G : List Ent} {cb sz pc gas : Nat} {T : TypeId} {c : Nat → Value} {K : YK} {s : List Nat} (hsz : 2435 ≤ sz) (hK : MK I cb c K) (hM : MV c pc gas s) (hpb : pc + 1 < 60000) (ho : K.code.getD pc 0 = 58) (h64 : s.length < 64) :
    CallG Hvaf.prog 204 #[ptr cb 0] ⟨I, ⟨cb, sz, T, c⟩ :: G⟩ (SetP I G cb sz T c (pc + 1) gas (s ++ [0])) := by
  have hrn := mRunning (I := I) (G := G) (cb := cb) (T := T) hsz hK
  have hop := mOpcode (I := I) (G := G) (cb := cb) (T := T) hsz hK hM
  rw [ho] at hop
  have hrow := hK.mPr
  have hwl : (wcs 0).length = 4 := rfl
  have hfit : 2400 + 4 ≤ sz := by omega
  have hse := mSettleG (I := I) (G := G) (cb := cb) (T := T) (t := 0) (step := 1) (w := 0) hsz hK.fsb hM (Nat.zero_le _) hpb (by omega) (zero_lt)
  rw [Nat.sub_zero, List.take_length] at hse
  have hwo := wcs_one 0
  generalize s ++ [0] = s' at *
  have hrd2 : ∀ y : Ent, Rd ⟨I, y :: ⟨cb, sz, T, c⟩ :: G⟩ ⟨cb, sz, T, c⟩ := fun y => .inr (List.mem_cons_of_mem _ List.mem_cons_self)
  refine CallG.start (C := mkC Hvaf.prog) cok (args := [ptr cb 0]) Hvaf.func204 rfl Hvaf.ntmps204 (by simp) (by kernel_rfl) ?_
  skip
  refine CallG.sameL [] hrn ?_
  repeat (first | refine SeqS.go cok ?_ | refine CondS.f rfl ?_ | refine And.intro (fillOk_of (Eq.refl true)) ?_)
  intro x1
  repeat (first | (refine OpG.keep ?_; first | refine OpG.upS cok 0 rfl rfl rfl rfl rfl (by assumption) (by first | assumption | exact one_bvs _) (by first | exact Nat.le_of_ble_eq_true rfl | omega) ?_) | refine SeqS.go cok ?_)
  refine CallG.sameL [_] hop ?_
  repeat (first | (refine QuG.keep ?_; refine QuG.rowE cok hrow (hrd2 _) rfl rfl rfl rfl rfl hwl hfit ?_) | (refine QuG.keep ?_; first | refine QuG.upL cok 0 rfl rfl rfl rfl rfl rfl (by assumption) (by first | exact Nat.le_of_ble_eq_true rfl | omega) ?_) | (refine OpG.keep ?_; first | refine OpG.upS cok 0 rfl rfl rfl rfl rfl (by assumption) (by first | assumption | exact one_bvs _) (by first | exact Nat.le_of_ble_eq_true rfl | omega) ?_) | refine SeqS.go cok ?_ | refine CondS.t rfl ?_ | refine CondS.f rfl ?_)
  refine CallG.behind [_] hse ?_
  rintro r J G1 hs ⟨c', hS, h1, h2⟩
  cases hS
  skip
  exact Fin.drop (⟨cb, sz, T, c'⟩ :: G) [_] ⟨c', rfl, h1, h2⟩
end Go.Proofs.YgvafwGreat
