import Derived.Test.YgvafwGreatE25
import Derived.Test.YgvafwGreatE19
import Derived.Test.YgvafwGreatE21
import Derived.Test.YgvafwGreatV5
set_option exponentiation.threshold 1000
set_option maxRecDepth 100000
set_option maxHeartbeats 4000000
set_option linter.unusedVariables false
set_option linter.unusedSimpArgs false
-- v2
-- v4
-- v5
-- v6
-- v7
namespace Go.Proofs.YgvafwGreat
open Go.HL Go.Proofs
theorem cut_src {ds : List Nat} (hl : ds.length < 2 ^ 30) (n : Nat) : cutL ds (if n < 18446744073709551616 then n else 18446744073709551615) 32 = cutL ds n 32 := by
  by_cases h : n < 18446744073709551616
  · rw [if_pos h]
  · rw [if_neg h, cut_past (by omega), cut_past (by omega)]
/-- mach.Machine.OpSurround, 53 -/
theorem mSu53 {I : Ent → Prop} {G : List Ent} {cb sz pc gas : Nat} {T : TypeId} {c : Nat → Value} {K : YK} {s : List Nat} (hsz : 2435 ≤ sz) (hK : MK I cb c K) (hM : MV c pc gas s) (hpb : pc + 1 < 60000) (ho : K.code.getD pc 0 = 53) (hs2 : 1 ≤ s.length) (h64 : s.length - 1 < 64) :
    CallG Hvaf.prog 204 #[ptr cb 0] ⟨I, ⟨cb, sz, T, c⟩ :: (G)⟩ (SetP I (G) cb sz T c (pc + 1) gas (s.take (s.length - 1) ++ [bev (cutL K.data (argN s 0) 32)])) := by
  have hsz' : 2435 ≤ sz := by omega
  have hrn := mRunning (I := I) (G := G) (cb := cb) (T := T) hsz' hK
  have hop := mOpcode (I := I) (G := G) (cb := cb) (T := T) hsz' hK hM
  rw [ho] at hop
  have hcl := hK.kb.data
  have hlt := bev_256 (cutL_lt hK.finp.1 (argN s 0) 32) (by rw [cutL_len]; decide)
  have ha0 := mArg (I := I) (G := G) (cb := cb) (T := T) (i := 0) hsz' hK.fsb hM (by decide)
  have hb0 : argN s 0 < 115792089237316195423570985008687907853269984665640564039457584007913129639936 := argN_lt hM.sb
  have hso := fun S => mSource (S := S) (n := argN s 0) hb0
  have hwd := fun G' => mWord32 (S := ⟨I, G'⟩) (fr := if argN s 0 < 18446744073709551616 then argN s 0 else 18446744073709551615) hK.finp (by split <;> omega) (by omega)
  rw [cut_src (by omega)] at hwd
  obtain ⟨iv, hiv⟩ : ∃ iv, c 1857 = iv := ⟨_, rfl⟩
  rw [hiv] at hwd
  have hse := mSettleG (I := I) (G := G) (cb := cb) (T := T) (t := 1) (step := 1) (w := bev (cutL K.data (argN s 0) 32)) hsz' hK.fsb hM hs2 hpb h64 hlt

  rw [wcs_word] at hse
  generalize bev (cutL K.data (argN s 0) 32) = w at *
  generalize (if argN s 0 < 18446744073709551616 then argN s 0 else 18446744073709551615) = fr at *
  generalize argN s 0 = a0 at *
  generalize s.take (s.length - 1) ++ [bev (cutL K.data (argN s 0) 32)] = s' at *
  have hrd2 : ∀ y : Ent, Rd ⟨I, y :: ⟨cb, sz, T, c⟩ :: (G)⟩ ⟨cb, sz, T, c⟩ := fun y => .inr (List.mem_cons_of_mem _ List.mem_cons_self)
  refine CallG.start (C := mkC Hvaf.prog) cok (args := [ptr cb 0]) Hvaf.func204 rfl Hvaf.ntmps204 (by simp) (by kernel_rfl) ?_
  skip
  refine CallG.sameL [] hrn ?_
  repeat (first | refine SeqS.go cok ?_ | refine CondS.f rfl ?_ | refine And.intro (fillOk_of (Eq.refl true)) ?_)
  intro x1
  repeat (first | refine SeqS.go cok ?_ | (refine OpG.keep ?_; first | refine OpG.sL cok 0 rfl rfl rfl rfl rfl rfl rfl (by first | exact Nat.le_of_ble_eq_true rfl | omega | (dsimp only; omega) | (simp only [addS_eq, mulS_eq]; omega)) ?_))
  refine CallG.sameL [_] hop ?_
  repeat (first | (refine QuG.keep ?_; first | refine QuG.l1E cok 1 rfl rfl rfl rfl rfl (by first | exact Nat.le_of_ble_eq_true rfl | omega | (dsimp only; omega) | (simp only [addS_eq, mulS_eq]; omega)) (by assumption) ?_) | refine SeqS.go cok ?_ | refine CondS.t rfl ?_ | refine CondS.f rfl ?_ | refine W.drawI 14 cok [0, 1, 3, 7, 0, 0, 48, 112, 255, 511] [0, 1, 2, 3, 4, 5, 6, 7, 8, 9] [3] (by kernel_rfl) (by kernel_rfl) ?_)
  refine CallG.sameL [_] ha0 ?_
  repeat (first | (refine still_in ?_; first | refine still_nil ?_ | (refine still_keep (by decide) rfl ?_ ?_; first | exact QuV.l1 cok 1 rfl rfl rfl rfl rfl (by first | exact Nat.le_of_ble_eq_true rfl | omega | (dsimp only; omega) | (simp only [addS_eq, mulS_eq]; omega)) (by assumption))))
  refine (hso _).mono ?_
  rintro r _ - ⟨rfl, rfl⟩
  repeat (first | (refine still_in ?_; first | refine still_nil ?_ | (refine still_keep (by decide) rfl ?_ ?_; first | exact QuV.l1 cok 1 rfl rfl rfl rfl rfl (by first | exact Nat.le_of_ble_eq_true rfl | omega | (dsimp only; omega) | (simp only [addS_eq, mulS_eq]; omega)) (by assumption))))
  refine (hwd _).mono ?_
  rintro r _ - ⟨rfl, rfl⟩
  repeat (first | refine SeqS.go cok ?_ | (refine QuG.keep ?_; first | refine QuG.lN cok 0 rfl rfl rfl rfl rfl (by first | exact Nat.le_of_ble_eq_true rfl | omega | (dsimp only; omega) | (simp only [addS_eq, mulS_eq]; omega)) ?_) | (refine still_in ?_; first | refine still_nil ?_ | refine still_drop (by decide) ?_) | (refine OpG.keep ?_; first | refine OpG.sL cok 0 rfl rfl rfl rfl rfl rfl rfl (by first | exact Nat.le_of_ble_eq_true rfl | omega | (dsimp only; omega) | (simp only [addS_eq, mulS_eq]; omega)) ?_))
  refine CallG.behind [_] hse ?_
  rintro r J G1 hs ⟨c', hS, h1, h2⟩
  cases hS
  skip
  exact Fin.drop (⟨cb, sz, T, c'⟩ :: (G)) [_] ⟨c', rfl, h1, h2⟩
/-- mach.Machine.OpSurround, 61 -/
theorem mSu61 {I : Ent → Prop} {G : List Ent} {cb sz pc gas : Nat} {T : TypeId} {c : Nat → Value} {K : YK} {s : List Nat} (hsz : 2435 ≤ sz) (hK : MK I cb c K) (hM : MV c pc gas s) (hpb : pc + 1 < 60000) (ho : K.code.getD pc 0 = 61) (h64 : s.length - 0 < 64) :
    CallG Hvaf.prog 204 #[ptr cb 0] ⟨I, ⟨cb, sz, T, c⟩ :: (G)⟩ (SetP I (G) cb sz T c (pc + 1) gas (s ++ [0])) := by
  have hsz' : 2435 ≤ sz := by omega
  have hrn := mRunning (I := I) (G := G) (cb := cb) (T := T) hsz' hK
  have hop := mOpcode (I := I) (G := G) (cb := cb) (T := T) hsz' hK hM
  rw [ho] at hop
  have hrt := hK.mRet
  have hse := mSettleG (I := I) (G := G) (cb := cb) (T := T) (t := 0) (step := 1) (w := 0) hsz' hK.fsb hM (Nat.zero_le _) hpb h64 zero_lt
  rw [Nat.sub_zero, List.take_length] at hse
  generalize s ++ [0] = s' at *
  have hrd2 : ∀ y : Ent, Rd ⟨I, y :: ⟨cb, sz, T, c⟩ :: (G)⟩ ⟨cb, sz, T, c⟩ := fun y => .inr (List.mem_cons_of_mem _ List.mem_cons_self)
  refine CallG.start (C := mkC Hvaf.prog) cok (args := [ptr cb 0]) Hvaf.func204 rfl Hvaf.ntmps204 (by simp) (by kernel_rfl) ?_
  skip
  refine CallG.sameL [] hrn ?_
  repeat (first | refine SeqS.go cok ?_ | refine CondS.f rfl ?_ | refine And.intro (fillOk_of (Eq.refl true)) ?_)
  intro x1
  repeat (first | refine SeqS.go cok ?_ | (refine OpG.keep ?_; first | refine OpG.sL cok 0 rfl rfl rfl rfl rfl rfl rfl (by first | exact Nat.le_of_ble_eq_true rfl | omega | (dsimp only; omega) | (simp only [addS_eq, mulS_eq]; omega)) ?_))
  refine CallG.sameL [_] hop ?_
  repeat (first | (refine QuG.keep ?_; first | refine QuG.l1E cok 1 rfl rfl rfl rfl rfl (by first | exact Nat.le_of_ble_eq_true rfl | omega | (dsimp only; omega) | (simp only [addS_eq, mulS_eq]; omega)) (by assumption) ?_) | refine SeqS.go cok ?_ | refine CondS.t rfl ?_ | refine CondS.f rfl ?_ | refine And.intro (by dsimp only; omega) ?_ | (refine NatS.keep ?_; first | with_reducible refine NatS.lit ?_) | (refine ValS.keep ?_; first | (with_reducible refine ValS.kU64 ?_; first | (with_reducible refine ValS.convU64 ?_ ?_ ; omega))) | (refine QuG.keep ?_; first | refine QuG.lN cok 0 rfl rfl rfl rfl rfl (by first | exact Nat.le_of_ble_eq_true rfl | omega | (dsimp only; omega) | (simp only [addS_eq, mulS_eq]; omega)) ?_) | (refine OpG.keep ?_; first | refine OpG.s1 cok 0 rfl rfl rfl rfl rfl (by first | exact Nat.le_of_ble_eq_true rfl | omega | (dsimp only; omega) | (simp only [addS_eq, mulS_eq]; omega)) rfl rfl ?_))
  refine CallG.behind [_] hse ?_
  rintro r J G1 hs ⟨c', hS, h1, h2⟩
  cases hS
  skip
  exact Fin.drop (⟨cb, sz, T, c'⟩ :: (G)) [_] ⟨c', rfl, h1, h2⟩
/-- mach.Machine.OpSurround, 71 -/
theorem mSu71 {I : Ent → Prop} {G : List Ent} {cb sz pc gas : Nat} {T : TypeId} {c : Nat → Value} {K : YK} {s : List Nat} {R : List Ent} {V : Vl} (hV : VI I c V G) (hO : VOk V) (hlt : (V.acc K.self).bal < 115792089237316195423570985008687907853269984665640564039457584007913129639936) (hsz : 27019 ≤ sz) (hK : MK I cb c K) (hM : MV c pc gas s) (hpb : pc + 1 < 60000) (ho : K.code.getD pc 0 = 71) (h64 : s.length - 0 < 64) :
    CallG Hvaf.prog 204 #[ptr cb 0] ⟨I, ⟨cb, sz, T, c⟩ :: (R ++ G)⟩ (SetP I (R ++ G) cb sz T c (pc + 1) gas (s ++ [(V.acc K.self).bal])) := by
  have hsz' : 2435 ≤ sz := by omega
  have hrn := mRunning (I := I) (G := R ++ G) (cb := cb) (T := T) hsz' hK
  have hop := mOpcode (I := I) (G := R ++ G) (cb := cb) (T := T) hsz' hK hM
  rw [ho] at hop
  have hmS := hK.mS
  have hrow := hK.fself
  have hA := hK.kb.kself
  have hwl : (bvs K.self).length = 20 := by rw [bvs_len]; exact hA.len
  have hfit : 1812 + 20 ≤ sz := by omega
  have hba := vBalance (R := R) (cb := cb) (T := T) hsz hV hO hA
  have hse := mSettleG (I := I) (G := R ++ G) (cb := cb) (T := T) (t := 0) (step := 1) (w := (V.acc K.self).bal) hsz' hK.fsb hM (Nat.zero_le _) hpb h64 hlt
  rw [Nat.sub_zero, List.take_length] at hse
  rw [wcs_word] at hse
  generalize (V.acc K.self).bal = w at *
  generalize s ++ [(V.acc K.self).bal] = s' at *
  have hrd2 : ∀ y : Ent, Rd ⟨I, y :: ⟨cb, sz, T, c⟩ :: (R ++ G)⟩ ⟨cb, sz, T, c⟩ := fun y => .inr (List.mem_cons_of_mem _ List.mem_cons_self)
  refine CallG.start (C := mkC Hvaf.prog) cok (args := [ptr cb 0]) Hvaf.func204 rfl Hvaf.ntmps204 (by simp) (by kernel_rfl) ?_
  skip
  refine CallG.sameL [] hrn ?_
  repeat (first | refine SeqS.go cok ?_ | refine CondS.f rfl ?_ | refine And.intro (fillOk_of (Eq.refl true)) ?_)
  intro x1
  repeat (first | refine SeqS.go cok ?_ | (refine OpG.keep ?_; first | refine OpG.sL cok 0 rfl rfl rfl rfl rfl rfl rfl (by first | exact Nat.le_of_ble_eq_true rfl | omega | (dsimp only; omega) | (simp only [addS_eq, mulS_eq]; omega)) ?_))
  refine CallG.sameL [_] hop ?_
  repeat (first | (refine QuG.keep ?_; refine QuG.rowE cok hrow (hrd2 _) rfl rfl rfl rfl rfl hwl hfit ?_) | (refine QuG.keep ?_; first | refine QuG.l1E cok 1 rfl rfl rfl rfl rfl (by first | exact Nat.le_of_ble_eq_true rfl | omega | (dsimp only; omega) | (simp only [addS_eq, mulS_eq]; omega)) (by assumption) ?_) | refine SeqS.go cok ?_ | refine CondS.t rfl ?_ | refine CondS.f rfl ?_ | refine W.drawI 25 cok [0, 1, 3, 7, 0, 16, 48, 112, 255, 511] [0, 1, 2, 3, 4, 5, 6, 7, 8, 9] [3, 7] (by kernel_rfl) (by kernel_rfl) ?_)
  refine CallG.sameL [_] hba ?_
  repeat (first | refine SeqS.go cok ?_ | (refine QuG.keep ?_; first | refine QuG.lN cok 0 rfl rfl rfl rfl rfl (by first | exact Nat.le_of_ble_eq_true rfl | omega | (dsimp only; omega) | (simp only [addS_eq, mulS_eq]; omega)) ?_) | (refine still_in ?_; first | refine still_nil ?_ | refine still_drop (by decide) ?_) | (refine OpG.keep ?_; first | refine OpG.sL cok 0 rfl rfl rfl rfl rfl rfl rfl (by first | exact Nat.le_of_ble_eq_true rfl | omega | (dsimp only; omega) | (simp only [addS_eq, mulS_eq]; omega)) ?_))
  refine CallG.behind [_] hse ?_
  rintro r J G1 hs ⟨c', hS, h1, h2⟩
  cases hS
  skip
  exact Fin.drop (⟨cb, sz, T, c'⟩ :: (R ++ G)) [_] ⟨c', rfl, h1, h2⟩
end Go.Proofs.YgvafwGreat
