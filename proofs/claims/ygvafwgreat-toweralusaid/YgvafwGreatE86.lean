import Derived.Test.YgvafwGreatE85
import Derived.Test.YgvafwGreatE84
import Derived.Test.YgvafwGreatE33
set_option exponentiation.threshold 1000
set_option maxRecDepth 100000
set_option maxHeartbeats 4000000
set_option linter.unusedVariables false
set_option linter.unusedSimpArgs false
-- v2
-- v4
-- v5
-- v6
-- v7
-- still: exact QuV.of (QuG.rowE cok hrow (hrd2 _) rfl rfl rfl rfl rfl hwl hfit rfl)
namespace Go.Proofs.YgvafwGreat
open Go.HL Go.Proofs

theorem _root_.Go.HL.CallG.idC {P : Program} {f : FuncId} {args : Array Value} {I : Ent → Prop} {b s : Nat} {T : TypeId} {c0 c : Nat → Value} {G : List Ent} {K : Post} (h0 : c0 = c) (h : CallG P f args ⟨I, ⟨b, s, T, c⟩ :: G⟩ K) : CallG P f args ⟨I, ⟨b, s, T, c0⟩ :: G⟩ K := by rw [h0]; exact h
theorem upd_same {c : Nat → Value} {i : Nat} {v : Value} (h : c i = v) : upd c i v = c := by
  funext k
  by_cases hk : k = i
  · subst hk; rw [updEq]; exact h.symm
  · exact updNe hk
/-- mach.Machine.OpCreate with a value that the account does not have -/
theorem mOpCrV {I : Ent → Prop} {R G : List Ent} {cb sz pc gas : Nat} {T : TypeId} {c : Nat → Value} {K : YK} {V : Vl} {s : List Nat} (hsz : 27019 ≤ sz) (hK : MK I cb c K) (hM : MV c pc gas s) (hV : VI I c V G) (hO : VOk V) (ho : K.code.getD pc 0 = 240) (h3 : s.length = 3) (hpb : pc + 1 < 60000) (ha0 : 0 < argN s 0) (hb : (V.acc K.self).bal = 0) (hn : (V.acc K.self).nonce = 1) :
    CallG Hvaf.prog 210 #[ptr cb 0] ⟨I, ⟨cb, sz, T, c⟩ :: (R ++ G)⟩ (SetP I (R ++ G) cb sz T c (pc + 1) gas [0]) := by
  have hsz' : 2435 ≤ sz := by omega
  have hmS := hK.mS
  have hTop := hK.mTop
  have hrn := mRunning (I := I) (G := R ++ G) (cb := cb) (T := T) hsz' hK
  have hop := mOpcode (I := I) (G := R ++ G) (cb := cb) (T := T) hsz' hK hM
  rw [ho] at hop
  have hA := hK.kb.kself
  have ha := mArg (I := I) (G := R ++ G) (cb := cb) (T := T) (i := 0) hsz' hK.fsb hM (by decide)
  have hba : argN s 0 < 115792089237316195423570985008687907853269984665640564039457584007913129639936 := argN_lt hM.sb
  have hno := vNonce (R := R) (cb := cb) (T := T) hsz hV hO hA
  rw [hn] at hno
  have hbl := vBalance (R := R) (cb := cb) (T := T) hsz hV hO hA
  rw [hb] at hbl
  have hlt := fun S => ULt_spec (S := S) (a := 0) (b := argN s 0) (by decide) hba
  rw [decide_eq_true ha0] at hlt
  have hse := mSettleG (I := I) (G := R ++ G) (cb := cb) (T := T) (t := 3) (step := 1) (w := 0) hsz' hK.fsb hM (by omega) hpb (by omega) (by decide)
  rw [h3, show s.take (3 - 3) ++ [0] = [0] from rfl] at hse
  unfold SetP at hse ⊢
  have hrow := hK.fself
  have hwl : (bvs K.self).length = 20 := by rw [bvs_len]; exact hA.len
  have hfit : 1812 + 20 ≤ sz := by omega
  have hrd2 : ∀ y : Ent, Rd ⟨I, y :: ⟨cb, sz, T, c⟩ :: (R ++ G)⟩ ⟨cb, sz, T, c⟩ := fun y => .inr (List.mem_cons_of_mem _ List.mem_cons_self)
  generalize argN s 0 = a at *
  refine CallG.start (C := mkC Hvaf.prog) cok (args := [ptr cb 0]) Hvaf.func210 rfl Hvaf.ntmps210 (by simp) (by kernel_rfl) ?_
  skip
  refine CallG.sameL [] hrn ?_
  repeat (first | refine SeqS.go cok ?_ | refine CondS.f rfl ?_)
  refine CallG.sameL [] hop ?_
  repeat (first | refine SeqS.go cok ?_ | refine CondS.f rfl ?_ | (refine OpG.keep ?_; first | refine OpG.s1 cok 0 rfl rfl rfl rfl rfl (by first | exact Nat.le_of_ble_eq_true rfl | omega | (dsimp only; omega) | (simp only [addS_eq, mulS_eq]; omega)) rfl rfl ?_))
  refine CallG.idC (c := c) (upd_same hK.mRet) ?_
  refine CallG.sameL [] ha ?_
  skip
  intro x1
  repeat (first | (refine QuG.keep ?_; refine QuG.rowE cok hrow (hrd2 _) rfl rfl rfl rfl rfl hwl hfit ?_) | (refine QuG.keep ?_; first | refine QuG.l1E cok 1 rfl rfl rfl rfl rfl (by first | exact Nat.le_of_ble_eq_true rfl | omega | (dsimp only; omega) | (simp only [addS_eq, mulS_eq]; omega)) (by assumption) ?_) | refine SeqS.go cok ?_ | (refine OpG.keep ?_; first | refine OpG.sL cok 0 rfl rfl rfl rfl rfl rfl rfl (by first | exact Nat.le_of_ble_eq_true rfl | omega | (dsimp only; omega) | (simp only [addS_eq, mulS_eq]; omega)) ?_) | refine W.drawI 8 cok [0, 1, 3, 7, 0, 16, 48, 112, 255, 511] [0, 1, 2, 3, 4, 5, 6, 7, 8, 9] [3, 7] (by kernel_rfl) (by kernel_rfl) ?_)
  refine CallG.sameL [_] hno ?_
  repeat (first | (refine QuG.keep ?_; refine QuG.rowE cok hrow (hrd2 _) rfl rfl rfl rfl rfl hwl hfit ?_) | (refine QuG.keep ?_; first | refine QuG.l1E cok 1 rfl rfl rfl rfl rfl (by first | exact Nat.le_of_ble_eq_true rfl | omega | (dsimp only; omega) | (simp only [addS_eq, mulS_eq]; omega)) (by assumption) ?_) | refine SeqS.go cok ?_ | refine GuardS.yes rfl ?_ | (refine QuG.keep ?_; first | refine QuG.lN cok 0 rfl rfl rfl rfl rfl (by first | exact Nat.le_of_ble_eq_true rfl | omega | (dsimp only; omega) | (simp only [addS_eq, mulS_eq]; omega)) ?_) | (refine still_in ?_; first | refine still_drop (by decide) ?_) | refine W.drawI 9 cok [0, 1, 3, 7, 15, 31, 63, 127, 255, 511, 63, 1087, 3135, 7231, 16383, 63, 65535, 131071, 262143, 524287, 1048575, 2097151] [0, 1, 2, 3, 4, 5, 6, 7, 8, 9, 10, 11, 12, 13, 15, 14, 16, 17, 18, 19, 20, 21] [3, 9, 13, 15] (by kernel_rfl) (by kernel_rfl) ?_)
  refine CallG.sameL [_] hbl ?_
  repeat (first | refine GuardS.yes rfl ?_ | (refine still_in ?_; first | refine still_drop (by decide) ?_ | (refine still_keep (by decide) rfl ?_ ?_; first | exact QuV.lN cok 0 rfl rfl rfl rfl rfl (by first | exact Nat.le_of_ble_eq_true rfl | omega | (dsimp only; omega) | (simp only [addS_eq, mulS_eq]; omega)) rfl)))
  refine (hlt _).mono ?_
  rintro r _ - ⟨rfl, rfl⟩
  repeat (first | refine SeqS.go cok ?_ | refine GuardS.no rfl ?_ | refine CondS.t rfl ?_ | refine And.intro (fillOk_of (Eq.refl true)) ?_ | (refine still_in ?_; first | refine still_drop (by decide) ?_))
  refine CallG.behind [_] hse ?_
  rintro r J1 _ hs1 ⟨c', e1, h1, h2⟩
  cases e1
  repeat (first | refine SeqS.go cok ?_)
  exact Fin.drop (⟨cb, sz, T, c'⟩ :: (R ++ G)) [_] ⟨c', rfl, h1, h2⟩
end Go.Proofs.YgvafwGreat
