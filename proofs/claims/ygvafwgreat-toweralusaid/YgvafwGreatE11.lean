import Derived.Test.YgvafwGreatE8
set_option exponentiation.threshold 1000
set_option maxRecDepth 100000
set_option maxHeartbeats 4000000
set_option linter.unusedVariables false
set_option linter.unusedSimpArgs false
-- v2
-- v4
-- v5
-- v6
-- v7
namespace Go.Proofs.YgvafwGreat
open Go.HL Go.Proofs
theorem flagV {p : Bool} : .agg #[.int .u64 ((if p = true then 1 else 0 : Nat) : Int), .int .u64 0, .int .u64 0, .int .u64 0] = wordV (if p = true then 1 else 0) := by cases p <;> rfl
/-- The limbs of a word. -/
def wl (n : Nat) : List Nat := [n % 18446744073709551616, n / 18446744073709551616 % 18446744073709551616, n / 340282366920938463463374607431768211456 % 18446744073709551616, n / 6277101735386680763835789423207666416102355444464034512896 % 18446744073709551616]
theorem wl_inj {a b : Nat} (ha : a < 115792089237316195423570985008687907853269984665640564039457584007913129639936) (hb : b < 115792089237316195423570985008687907853269984665640564039457584007913129639936) (h : wl a = wl b) : a = b := by
  simp only [wl, List.cons.injEq, and_true] at h
  omega
theorem wl_eq {a b : Nat} (ha : a < 115792089237316195423570985008687907853269984665640564039457584007913129639936) (hb : b < 115792089237316195423570985008687907853269984665640564039457584007913129639936) : (if decide (wl a = wl b) = true then 1 else 0 : Nat) = (if decide (a = b) = true then 1 else 0) := by
  simp only [decide_eq_true_eq]
  by_cases h : a = b
  · rw [h, if_pos rfl, if_pos rfl]
  · rw [if_neg h, if_neg fun h' => h (wl_inj ha hb h')]
/-- mach.flag -/
theorem mFlag {S : St} {p : Bool} : CallG Hvaf.prog 293 #[.bool p] S fun r S' => S = S' ∧ r = wordV (if p = true then 1 else 0) := by
  cases p
  · refine CallG.start (C := mkC Hvaf.prog) cok (args := [.bool false]) Hvaf.func293 rfl Hvaf.ntmps293 (by simp) (by kernel_rfl) ?_
    intro x
    repeat (first | refine SeqS.go cok ?_ | refine CondS.f rfl ?_ | refine And.intro (fillOk_of (Eq.refl true)) ?_ | (refine LdG.keep ?_; first | refine LdG.lN cok 0 rfl rfl rfl rfl rfl (by first | exact Nat.le_of_ble_eq_true rfl | omega | (dsimp only; omega) | (simp only [addS_eq, mulS_eq]; omega)) ?_) | (refine OpG.keep ?_; first | refine OpG.sL cok 0 rfl rfl rfl rfl rfl rfl rfl (by first | exact Nat.le_of_ble_eq_true rfl | omega | (dsimp only; omega) | (simp only [addS_eq, mulS_eq]; omega)) ?_))
    exact Fin.drop S.G [_] ⟨rfl, rfl⟩
  · refine CallG.start (C := mkC Hvaf.prog) cok (args := [.bool true]) Hvaf.func293 rfl Hvaf.ntmps293 (by simp) (by kernel_rfl) ?_
    intro x
    repeat (first | refine SeqS.go cok ?_ | refine CondS.t rfl ?_ | refine And.intro (fillOk_of (Eq.refl true)) ?_ | (refine LdG.keep ?_; first | refine LdG.lN cok 0 rfl rfl rfl rfl rfl (by first | exact Nat.le_of_ble_eq_true rfl | omega | (dsimp only; omega) | (simp only [addS_eq, mulS_eq]; omega)) ?_) | (refine OpG.keep ?_; first | refine OpG.sL cok 0 rfl rfl rfl rfl rfl rfl rfl (by first | exact Nat.le_of_ble_eq_true rfl | omega | (dsimp only; omega) | (simp only [addS_eq, mulS_eq]; omega)) ?_))
    exact Fin.drop S.G [_] ⟨rfl, rfl⟩
/-- mach.Machine.OpCompare, 16 -/
theorem mCo16 {I : Ent → Prop} {G : List Ent} {cb sz pc gas : Nat} {T : TypeId} {c : Nat → Value} {K : YK} {s : List Nat} (hsz : 2435 ≤ sz) (hK : MK I cb c K) (hM : MV c pc gas s) (hpb : pc + 1 < 60000) (ho : K.code.getD pc 0 = 16) (h2 : 2 ≤ s.length) :
    CallG Hvaf.prog 200 #[ptr cb 0] ⟨I, ⟨cb, sz, T, c⟩ :: G⟩ (SetP I G cb sz T c (pc + 1) gas (s.take (s.length - 2) ++ [aluN 16 (argN s 0) (argN s 1) (argN s 2)])) := by
  have hrn := mRunning (I := I) (G := G) (cb := cb) (T := T) hsz hK
  have hop := mOpcode (I := I) (G := G) (cb := cb) (T := T) hsz hK hM
  rw [ho] at hop
  have ha0 := mArg (I := I) (G := G) (cb := cb) (T := T) (i := 0) hsz hK.fsb hM (by decide)
  have ha1 := mArg (I := I) (G := G) (cb := cb) (T := T) (i := 1) hsz hK.fsb hM (by decide)
  have ha2 := mArg (I := I) (G := G) (cb := cb) (T := T) (i := 2) hsz hK.fsb hM (by decide)
  have hb0 : argN s 0 < 115792089237316195423570985008687907853269984665640564039457584007913129639936 := argN_lt hM.sb
  have hb1 : argN s 1 < 115792089237316195423570985008687907853269984665640564039457584007913129639936 := argN_lt hM.sb
  have hb2 : argN s 2 < 115792089237316195423570985008687907853269984665640564039457584007913129639936 := argN_lt hM.sb
  have hse := mSettleG (I := I) (G := G) (cb := cb) (T := T) (t := 2) (step := 1) (w := aluN 16 (argN s 0) (argN s 1) (argN s 2)) hsz hK.fsb hM h2 hpb (by have := hM.sl; omega) (aluN_lt hb0 hb1 hb2)
  rw [wcs_word] at hse
  have hu := fun S => ULt_spec (S := S) hb0 hb1
  rw [aluE16] at hse ⊢
  generalize (decide (argN s 0 < argN s 1)) = p at *
  have hfl := fun S => mFlag (S := S) (p := p)
  generalize (if p = true then 1 else 0) = w at *
  generalize argN s 0 = a at *
  generalize argN s 1 = b at *
  generalize argN s 2 = d at *
  refine CallG.start (C := mkC Hvaf.prog) cok (args := [ptr cb 0]) Hvaf.func200 rfl Hvaf.ntmps200 (by simp) (by kernel_rfl) ?_
  skip
  refine CallG.sameL [] hrn ?_
  repeat (first | refine SeqS.go cok ?_ | refine CondS.f rfl ?_)
  refine CallG.sameL [] ha0 ?_
  intro x1
  repeat (first | refine SeqS.go cok ?_ | (refine OpG.keep ?_; first | refine OpG.sL cok 0 rfl rfl rfl rfl rfl rfl rfl (by first | exact Nat.le_of_ble_eq_true rfl | omega | (dsimp only; omega) | (simp only [addS_eq, mulS_eq]; omega)) ?_))
  refine CallG.sameL [_] ha1 ?_
  intro x2
  repeat (first | refine SeqS.go cok ?_ | (refine OpG.keep ?_; first | refine OpG.sL cok 0 rfl rfl rfl rfl rfl rfl rfl (by first | exact Nat.le_of_ble_eq_true rfl | omega | (dsimp only; omega) | (simp only [addS_eq, mulS_eq]; omega)) ?_))
  refine CallG.sameL [_, _] hop ?_
  repeat (first | refine SeqS.go cok ?_ | refine CondS.t rfl ?_ | (refine QuG.keep ?_; first | refine QuG.lN cok 0 rfl rfl rfl rfl rfl (by first | exact Nat.le_of_ble_eq_true rfl | omega | (dsimp only; omega) | (simp only [addS_eq, mulS_eq]; omega)) ?_ | refine QuG.lN cok 1 rfl rfl rfl rfl rfl (by first | exact Nat.le_of_ble_eq_true rfl | omega | (dsimp only; omega) | (simp only [addS_eq, mulS_eq]; omega)) ?_))
  refine (hu _).mono ?_
  rintro r _ - ⟨rfl, rfl⟩
  repeat (first | refine SeqS.go cok ?_)
  refine (hfl _).mono ?_
  rintro r _ - ⟨rfl, rfl⟩
  skip
  refine CallG.behind [_, _] hse ?_
  rintro r J G1 hs ⟨c', hS, h1, h2⟩
  cases hS
  skip
  exact Fin.drop (⟨cb, sz, T, c'⟩ :: G) [_, _] ⟨c', rfl, h1, h2⟩
/-- mach.Machine.OpCompare, 17 -/
theorem mCo17 {I : Ent → Prop} {G : List Ent} {cb sz pc gas : Nat} {T : TypeId} {c : Nat → Value} {K : YK} {s : List Nat} (hsz : 2435 ≤ sz) (hK : MK I cb c K) (hM : MV c pc gas s) (hpb : pc + 1 < 60000) (ho : K.code.getD pc 0 = 17) (h2 : 2 ≤ s.length) :
    CallG Hvaf.prog 200 #[ptr cb 0] ⟨I, ⟨cb, sz, T, c⟩ :: G⟩ (SetP I G cb sz T c (pc + 1) gas (s.take (s.length - 2) ++ [aluN 17 (argN s 0) (argN s 1) (argN s 2)])) := by
  have hrn := mRunning (I := I) (G := G) (cb := cb) (T := T) hsz hK
  have hop := mOpcode (I := I) (G := G) (cb := cb) (T := T) hsz hK hM
  rw [ho] at hop
  have ha0 := mArg (I := I) (G := G) (cb := cb) (T := T) (i := 0) hsz hK.fsb hM (by decide)
  have ha1 := mArg (I := I) (G := G) (cb := cb) (T := T) (i := 1) hsz hK.fsb hM (by decide)
  have ha2 := mArg (I := I) (G := G) (cb := cb) (T := T) (i := 2) hsz hK.fsb hM (by decide)
  have hb0 : argN s 0 < 115792089237316195423570985008687907853269984665640564039457584007913129639936 := argN_lt hM.sb
  have hb1 : argN s 1 < 115792089237316195423570985008687907853269984665640564039457584007913129639936 := argN_lt hM.sb
  have hb2 : argN s 2 < 115792089237316195423570985008687907853269984665640564039457584007913129639936 := argN_lt hM.sb
  have hse := mSettleG (I := I) (G := G) (cb := cb) (T := T) (t := 2) (step := 1) (w := aluN 17 (argN s 0) (argN s 1) (argN s 2)) hsz hK.fsb hM h2 hpb (by have := hM.sl; omega) (aluN_lt hb0 hb1 hb2)
  rw [wcs_word] at hse
  have hu := fun S => UGt_spec (S := S) hb0 hb1
  rw [aluE17] at hse ⊢
  generalize (decide (argN s 1 < argN s 0)) = p at *
  have hfl := fun S => mFlag (S := S) (p := p)
  generalize (if p = true then 1 else 0) = w at *
  generalize argN s 0 = a at *
  generalize argN s 1 = b at *
  generalize argN s 2 = d at *
  refine CallG.start (C := mkC Hvaf.prog) cok (args := [ptr cb 0]) Hvaf.func200 rfl Hvaf.ntmps200 (by simp) (by kernel_rfl) ?_
  skip
  refine CallG.sameL [] hrn ?_
  repeat (first | refine SeqS.go cok ?_ | refine CondS.f rfl ?_)
  refine CallG.sameL [] ha0 ?_
  intro x1
  repeat (first | refine SeqS.go cok ?_ | (refine OpG.keep ?_; first | refine OpG.sL cok 0 rfl rfl rfl rfl rfl rfl rfl (by first | exact Nat.le_of_ble_eq_true rfl | omega | (dsimp only; omega) | (simp only [addS_eq, mulS_eq]; omega)) ?_))
  refine CallG.sameL [_] ha1 ?_
  intro x2
  repeat (first | refine SeqS.go cok ?_ | (refine OpG.keep ?_; first | refine OpG.sL cok 0 rfl rfl rfl rfl rfl rfl rfl (by first | exact Nat.le_of_ble_eq_true rfl | omega | (dsimp only; omega) | (simp only [addS_eq, mulS_eq]; omega)) ?_))
  refine CallG.sameL [_, _] hop ?_
  repeat (first | refine SeqS.go cok ?_ | refine CondS.t rfl ?_ | refine CondS.f rfl ?_ | (refine QuG.keep ?_; first | refine QuG.lN cok 0 rfl rfl rfl rfl rfl (by first | exact Nat.le_of_ble_eq_true rfl | omega | (dsimp only; omega) | (simp only [addS_eq, mulS_eq]; omega)) ?_ | refine QuG.lN cok 1 rfl rfl rfl rfl rfl (by first | exact Nat.le_of_ble_eq_true rfl | omega | (dsimp only; omega) | (simp only [addS_eq, mulS_eq]; omega)) ?_))
  refine (hu _).mono ?_
  rintro r _ - ⟨rfl, rfl⟩
  repeat (first | refine SeqS.go cok ?_)
  refine (hfl _).mono ?_
  rintro r _ - ⟨rfl, rfl⟩
  skip
  refine CallG.behind [_, _] hse ?_
  rintro r J G1 hs ⟨c', hS, h1, h2⟩
  cases hS
  skip
  exact Fin.drop (⟨cb, sz, T, c'⟩ :: G) [_, _] ⟨c', rfl, h1, h2⟩
/-- mach.Machine.OpCompare, 18 -/
theorem mCo18 {I : Ent → Prop} {G : List Ent} {cb sz pc gas : Nat} {T : TypeId} {c : Nat → Value} {K : YK} {s : List Nat} (hsz : 2435 ≤ sz) (hK : MK I cb c K) (hM : MV c pc gas s) (hpb : pc + 1 < 60000) (ho : K.code.getD pc 0 = 18) (h2 : 2 ≤ s.length) :
    CallG Hvaf.prog 200 #[ptr cb 0] ⟨I, ⟨cb, sz, T, c⟩ :: G⟩ (SetP I G cb sz T c (pc + 1) gas (s.take (s.length - 2) ++ [aluN 18 (argN s 0) (argN s 1) (argN s 2)])) := by
  have hrn := mRunning (I := I) (G := G) (cb := cb) (T := T) hsz hK
  have hop := mOpcode (I := I) (G := G) (cb := cb) (T := T) hsz hK hM
  rw [ho] at hop
  have ha0 := mArg (I := I) (G := G) (cb := cb) (T := T) (i := 0) hsz hK.fsb hM (by decide)
  have ha1 := mArg (I := I) (G := G) (cb := cb) (T := T) (i := 1) hsz hK.fsb hM (by decide)
  have ha2 := mArg (I := I) (G := G) (cb := cb) (T := T) (i := 2) hsz hK.fsb hM (by decide)
  have hb0 : argN s 0 < 115792089237316195423570985008687907853269984665640564039457584007913129639936 := argN_lt hM.sb
  have hb1 : argN s 1 < 115792089237316195423570985008687907853269984665640564039457584007913129639936 := argN_lt hM.sb
  have hb2 : argN s 2 < 115792089237316195423570985008687907853269984665640564039457584007913129639936 := argN_lt hM.sb
  have hse := mSettleG (I := I) (G := G) (cb := cb) (T := T) (t := 2) (step := 1) (w := aluN 18 (argN s 0) (argN s 1) (argN s 2)) hsz hK.fsb hM h2 hpb (by have := hM.sl; omega) (aluN_lt hb0 hb1 hb2)
  rw [wcs_word] at hse
  have hu := fun S => USlt_spec (S := S) hb0 hb1
  rw [aluE18 hb0 hb1] at hse ⊢
  generalize (if decide (57896044618658097711785492504343953926634992332820282019728792003956564819968 ≤ argN s 0) != decide (57896044618658097711785492504343953926634992332820282019728792003956564819968 ≤ argN s 1) then decide (57896044618658097711785492504343953926634992332820282019728792003956564819968 ≤ argN s 0) else decide (argN s 0 < argN s 1)) = p at *
  have hfl := fun S => mFlag (S := S) (p := p)
  generalize (if p = true then 1 else 0) = w at *
  generalize argN s 0 = a at *
  generalize argN s 1 = b at *
  generalize argN s 2 = d at *
  refine CallG.start (C := mkC Hvaf.prog) cok (args := [ptr cb 0]) Hvaf.func200 rfl Hvaf.ntmps200 (by simp) (by kernel_rfl) ?_
  skip
  refine CallG.sameL [] hrn ?_
  repeat (first | refine SeqS.go cok ?_ | refine CondS.f rfl ?_)
  refine CallG.sameL [] ha0 ?_
  intro x1
  repeat (first | refine SeqS.go cok ?_ | (refine OpG.keep ?_; first | refine OpG.sL cok 0 rfl rfl rfl rfl rfl rfl rfl (by first | exact Nat.le_of_ble_eq_true rfl | omega | (dsimp only; omega) | (simp only [addS_eq, mulS_eq]; omega)) ?_))
  refine CallG.sameL [_] ha1 ?_
  intro x2
  repeat (first | refine SeqS.go cok ?_ | (refine OpG.keep ?_; first | refine OpG.sL cok 0 rfl rfl rfl rfl rfl rfl rfl (by first | exact Nat.le_of_ble_eq_true rfl | omega | (dsimp only; omega) | (simp only [addS_eq, mulS_eq]; omega)) ?_))
  refine CallG.sameL [_, _] hop ?_
  repeat (first | refine SeqS.go cok ?_ | refine CondS.t rfl ?_ | refine CondS.f rfl ?_ | (refine QuG.keep ?_; first | refine QuG.lN cok 0 rfl rfl rfl rfl rfl (by first | exact Nat.le_of_ble_eq_true rfl | omega | (dsimp only; omega) | (simp only [addS_eq, mulS_eq]; omega)) ?_ | refine QuG.lN cok 1 rfl rfl rfl rfl rfl (by first | exact Nat.le_of_ble_eq_true rfl | omega | (dsimp only; omega) | (simp only [addS_eq, mulS_eq]; omega)) ?_))
  refine (hu _).mono ?_
  rintro r _ - ⟨rfl, rfl⟩
  repeat (first | refine SeqS.go cok ?_)
  refine (hfl _).mono ?_
  rintro r _ - ⟨rfl, rfl⟩
  skip
  refine CallG.behind [_, _] hse ?_
  rintro r J G1 hs ⟨c', hS, h1, h2⟩
  cases hS
  skip
  exact Fin.drop (⟨cb, sz, T, c'⟩ :: G) [_, _] ⟨c', rfl, h1, h2⟩
/-- mach.Machine.OpCompare, 19 -/
theorem mCo19 {I : Ent → Prop} {G : List Ent} {cb sz pc gas : Nat} {T : TypeId} {c : Nat → Value} {K : YK} {s : List Nat} (hsz : 2435 ≤ sz) (hK : MK I cb c K) (hM : MV c pc gas s) (hpb : pc + 1 < 60000) (ho : K.code.getD pc 0 = 19) (h2 : 2 ≤ s.length) :
    CallG Hvaf.prog 200 #[ptr cb 0] ⟨I, ⟨cb, sz, T, c⟩ :: G⟩ (SetP I G cb sz T c (pc + 1) gas (s.take (s.length - 2) ++ [aluN 19 (argN s 0) (argN s 1) (argN s 2)])) := by
  have hrn := mRunning (I := I) (G := G) (cb := cb) (T := T) hsz hK
  have hop := mOpcode (I := I) (G := G) (cb := cb) (T := T) hsz hK hM
  rw [ho] at hop
  have ha0 := mArg (I := I) (G := G) (cb := cb) (T := T) (i := 0) hsz hK.fsb hM (by decide)
  have ha1 := mArg (I := I) (G := G) (cb := cb) (T := T) (i := 1) hsz hK.fsb hM (by decide)
  have ha2 := mArg (I := I) (G := G) (cb := cb) (T := T) (i := 2) hsz hK.fsb hM (by decide)
  have hb0 : argN s 0 < 115792089237316195423570985008687907853269984665640564039457584007913129639936 := argN_lt hM.sb
  have hb1 : argN s 1 < 115792089237316195423570985008687907853269984665640564039457584007913129639936 := argN_lt hM.sb
  have hb2 : argN s 2 < 115792089237316195423570985008687907853269984665640564039457584007913129639936 := argN_lt hM.sb
  have hse := mSettleG (I := I) (G := G) (cb := cb) (T := T) (t := 2) (step := 1) (w := aluN 19 (argN s 0) (argN s 1) (argN s 2)) hsz hK.fsb hM h2 hpb (by have := hM.sl; omega) (aluN_lt hb0 hb1 hb2)
  rw [wcs_word] at hse
  have hu := fun S => USgt_spec (S := S) hb0 hb1
  rw [aluE19 hb0 hb1] at hse ⊢
  generalize (if decide (57896044618658097711785492504343953926634992332820282019728792003956564819968 ≤ argN s 1) != decide (57896044618658097711785492504343953926634992332820282019728792003956564819968 ≤ argN s 0) then decide (57896044618658097711785492504343953926634992332820282019728792003956564819968 ≤ argN s 1) else decide (argN s 1 < argN s 0)) = p at *
  have hfl := fun S => mFlag (S := S) (p := p)
  generalize (if p = true then 1 else 0) = w at *
  generalize argN s 0 = a at *
  generalize argN s 1 = b at *
  generalize argN s 2 = d at *
  refine CallG.start (C := mkC Hvaf.prog) cok (args := [ptr cb 0]) Hvaf.func200 rfl Hvaf.ntmps200 (by simp) (by kernel_rfl) ?_
  skip
  refine CallG.sameL [] hrn ?_
  repeat (first | refine SeqS.go cok ?_ | refine CondS.f rfl ?_)
  refine CallG.sameL [] ha0 ?_
  intro x1
  repeat (first | refine SeqS.go cok ?_ | (refine OpG.keep ?_; first | refine OpG.sL cok 0 rfl rfl rfl rfl rfl rfl rfl (by first | exact Nat.le_of_ble_eq_true rfl | omega | (dsimp only; omega) | (simp only [addS_eq, mulS_eq]; omega)) ?_))
  refine CallG.sameL [_] ha1 ?_
  intro x2
  repeat (first | refine SeqS.go cok ?_ | (refine OpG.keep ?_; first | refine OpG.sL cok 0 rfl rfl rfl rfl rfl rfl rfl (by first | exact Nat.le_of_ble_eq_true rfl | omega | (dsimp only; omega) | (simp only [addS_eq, mulS_eq]; omega)) ?_))
  refine CallG.sameL [_, _] hop ?_
  repeat (first | refine SeqS.go cok ?_ | refine CondS.t rfl ?_ | refine CondS.f rfl ?_ | (refine QuG.keep ?_; first | refine QuG.lN cok 0 rfl rfl rfl rfl rfl (by first | exact Nat.le_of_ble_eq_true rfl | omega | (dsimp only; omega) | (simp only [addS_eq, mulS_eq]; omega)) ?_ | refine QuG.lN cok 1 rfl rfl rfl rfl rfl (by first | exact Nat.le_of_ble_eq_true rfl | omega | (dsimp only; omega) | (simp only [addS_eq, mulS_eq]; omega)) ?_))
  refine (hu _).mono ?_
  rintro r _ - ⟨rfl, rfl⟩
  repeat (first | refine SeqS.go cok ?_)
  refine (hfl _).mono ?_
  rintro r _ - ⟨rfl, rfl⟩
  skip
  refine CallG.behind [_, _] hse ?_
  rintro r J G1 hs ⟨c', hS, h1, h2⟩
  cases hS
  skip
  exact Fin.drop (⟨cb, sz, T, c'⟩ :: G) [_, _] ⟨c', rfl, h1, h2⟩
/-- mach.Machine.OpCompare, 20 -/
theorem mCo20 {I : Ent → Prop} {G : List Ent} {cb sz pc gas : Nat} {T : TypeId} {c : Nat → Value} {K : YK} {s : List Nat} (hsz : 2435 ≤ sz) (hK : MK I cb c K) (hM : MV c pc gas s) (hpb : pc + 1 < 60000) (ho : K.code.getD pc 0 = 20) (h2 : 2 ≤ s.length) :
    CallG Hvaf.prog 200 #[ptr cb 0] ⟨I, ⟨cb, sz, T, c⟩ :: G⟩ (SetP I G cb sz T c (pc + 1) gas (s.take (s.length - 2) ++ [aluN 20 (argN s 0) (argN s 1) (argN s 2)])) := by
  have hrn := mRunning (I := I) (G := G) (cb := cb) (T := T) hsz hK
  have hop := mOpcode (I := I) (G := G) (cb := cb) (T := T) hsz hK hM
  rw [ho] at hop
  have ha0 := mArg (I := I) (G := G) (cb := cb) (T := T) (i := 0) hsz hK.fsb hM (by decide)
  have ha1 := mArg (I := I) (G := G) (cb := cb) (T := T) (i := 1) hsz hK.fsb hM (by decide)
  have ha2 := mArg (I := I) (G := G) (cb := cb) (T := T) (i := 2) hsz hK.fsb hM (by decide)
  have hb0 : argN s 0 < 115792089237316195423570985008687907853269984665640564039457584007913129639936 := argN_lt hM.sb
  have hb1 : argN s 1 < 115792089237316195423570985008687907853269984665640564039457584007913129639936 := argN_lt hM.sb
  have hb2 : argN s 2 < 115792089237316195423570985008687907853269984665640564039457584007913129639936 := argN_lt hM.sb
  have hse := mSettleG (I := I) (G := G) (cb := cb) (T := T) (t := 2) (step := 1) (w := aluN 20 (argN s 0) (argN s 1) (argN s 2)) hsz hK.fsb hM h2 hpb (by have := hM.sl; omega) (aluN_lt hb0 hb1 hb2)
  rw [wcs_word] at hse
  rw [aluE20] at hse ⊢
  have hfl := fun S => mFlag (S := S) (p := decide (wl (argN s 0) = wl (argN s 1)))
  simp only [wl_eq hb0 hb1] at hfl
  generalize (if decide (argN s 0 = argN s 1) = true then 1 else 0) = w at *
  generalize argN s 0 = a at *
  generalize argN s 1 = b at *
  generalize argN s 2 = d at *
  refine CallG.start (C := mkC Hvaf.prog) cok (args := [ptr cb 0]) Hvaf.func200 rfl Hvaf.ntmps200 (by simp) (by kernel_rfl) ?_
  skip
  refine CallG.sameL [] hrn ?_
  repeat (first | refine SeqS.go cok ?_ | refine CondS.f rfl ?_)
  refine CallG.sameL [] ha0 ?_
  intro x1
  repeat (first | refine SeqS.go cok ?_ | (refine OpG.keep ?_; first | refine OpG.sL cok 0 rfl rfl rfl rfl rfl rfl rfl (by first | exact Nat.le_of_ble_eq_true rfl | omega | (dsimp only; omega) | (simp only [addS_eq, mulS_eq]; omega)) ?_))
  refine CallG.sameL [_] ha1 ?_
  intro x2
  repeat (first | refine SeqS.go cok ?_ | (refine OpG.keep ?_; first | refine OpG.sL cok 0 rfl rfl rfl rfl rfl rfl rfl (by first | exact Nat.le_of_ble_eq_true rfl | omega | (dsimp only; omega) | (simp only [addS_eq, mulS_eq]; omega)) ?_))
  refine CallG.sameL [_, _] hop ?_
  repeat (first | refine SeqS.go cok ?_ | refine CondS.t rfl ?_ | refine CondS.f rfl ?_ | (refine QuG.keep ?_; first | refine QuG.lN cok 0 rfl rfl rfl rfl rfl (by first | exact Nat.le_of_ble_eq_true rfl | omega | (dsimp only; omega) | (simp only [addS_eq, mulS_eq]; omega)) ?_ | refine QuG.lN cok 1 rfl rfl rfl rfl rfl (by first | exact Nat.le_of_ble_eq_true rfl | omega | (dsimp only; omega) | (simp only [addS_eq, mulS_eq]; omega)) ?_))
  repeat (first | (refine QuG.keep ?_; refine QuG.eqA cok .u64 (xs := wl a) (ys := wl b) rfl rfl rfl rfl rfl (by decide +kernel) rfl rfl rfl rfl ?_) | refine SeqS.go cok ?_)
  refine (hfl _).mono ?_
  rintro r _ - ⟨rfl, rfl⟩
  skip
  refine CallG.behind [_, _] hse ?_
  rintro r J G1 hs ⟨c', hS, h1, h2⟩
  cases hS
  skip
  exact Fin.drop (⟨cb, sz, T, c'⟩ :: G) [_, _] ⟨c', rfl, h1, h2⟩
/-- mach.Machine.OpCompare, 21 -/
theorem mCo21 {I : Ent → Prop} {G : List Ent} {cb sz pc gas : Nat} {T : TypeId} {c : Nat → Value} {K : YK} {s : List Nat} (hsz : 2435 ≤ sz) (hK : MK I cb c K) (hM : MV c pc gas s) (hpb : pc + 1 < 60000) (ho : K.code.getD pc 0 = 21) (h2 : 1 ≤ s.length) :
    CallG Hvaf.prog 200 #[ptr cb 0] ⟨I, ⟨cb, sz, T, c⟩ :: G⟩ (SetP I G cb sz T c (pc + 1) gas (s.take (s.length - 1) ++ [aluN 21 (argN s 0) (argN s 1) (argN s 2)])) := by
  have hrn := mRunning (I := I) (G := G) (cb := cb) (T := T) hsz hK
  have hop := mOpcode (I := I) (G := G) (cb := cb) (T := T) hsz hK hM
  rw [ho] at hop
  have ha0 := mArg (I := I) (G := G) (cb := cb) (T := T) (i := 0) hsz hK.fsb hM (by decide)
  have ha1 := mArg (I := I) (G := G) (cb := cb) (T := T) (i := 1) hsz hK.fsb hM (by decide)
  have ha2 := mArg (I := I) (G := G) (cb := cb) (T := T) (i := 2) hsz hK.fsb hM (by decide)
  have hb0 : argN s 0 < 115792089237316195423570985008687907853269984665640564039457584007913129639936 := argN_lt hM.sb
  have hb1 : argN s 1 < 115792089237316195423570985008687907853269984665640564039457584007913129639936 := argN_lt hM.sb
  have hb2 : argN s 2 < 115792089237316195423570985008687907853269984665640564039457584007913129639936 := argN_lt hM.sb
  have hse := mSettleG (I := I) (G := G) (cb := cb) (T := T) (t := 1) (step := 1) (w := aluN 21 (argN s 0) (argN s 1) (argN s 2)) hsz hK.fsb hM h2 hpb (by have := hM.sl; omega) (aluN_lt hb0 hb1 hb2)
  rw [wcs_word] at hse
  have hu := fun S => UIsZero_spec (S := S) hb0
  rw [aluE21] at hse ⊢
  generalize (decide (argN s 0 = 0)) = p at *
  have hfl := fun S => mFlag (S := S) (p := p)
  generalize (if p = true then 1 else 0) = w at *
  generalize argN s 0 = a at *
  generalize argN s 1 = b at *
  generalize argN s 2 = d at *
  refine CallG.start (C := mkC Hvaf.prog) cok (args := [ptr cb 0]) Hvaf.func200 rfl Hvaf.ntmps200 (by simp) (by kernel_rfl) ?_
  skip
  refine CallG.sameL [] hrn ?_
  repeat (first | refine SeqS.go cok ?_ | refine CondS.f rfl ?_)
  refine CallG.sameL [] ha0 ?_
  intro x1
  repeat (first | refine SeqS.go cok ?_ | (refine OpG.keep ?_; first | refine OpG.sL cok 0 rfl rfl rfl rfl rfl rfl rfl (by first | exact Nat.le_of_ble_eq_true rfl | omega | (dsimp only; omega) | (simp only [addS_eq, mulS_eq]; omega)) ?_))
  refine CallG.sameL [_] ha1 ?_
  intro x2
  repeat (first | refine SeqS.go cok ?_ | (refine OpG.keep ?_; first | refine OpG.sL cok 0 rfl rfl rfl rfl rfl rfl rfl (by first | exact Nat.le_of_ble_eq_true rfl | omega | (dsimp only; omega) | (simp only [addS_eq, mulS_eq]; omega)) ?_))
  refine CallG.sameL [_, _] hop ?_
  repeat (first | refine SeqS.go cok ?_ | refine CondS.t rfl ?_ | refine CondS.f rfl ?_ | (refine QuG.keep ?_; first | refine QuG.lN cok 1 rfl rfl rfl rfl rfl (by first | exact Nat.le_of_ble_eq_true rfl | omega | (dsimp only; omega) | (simp only [addS_eq, mulS_eq]; omega)) ?_))
  refine (hu _).mono ?_
  rintro r _ - ⟨rfl, rfl⟩
  repeat (first | refine SeqS.go cok ?_)
  refine (hfl _).mono ?_
  rintro r _ - ⟨rfl, rfl⟩
  skip
  refine CallG.behind [_, _] hse ?_
  rintro r J G1 hs ⟨c', hS, h1, h2⟩
  cases hS
  skip
  exact Fin.drop (⟨cb, sz, T, c'⟩ :: G) [_, _] ⟨c', rfl, h1, h2⟩
end Go.Proofs.YgvafwGreat
