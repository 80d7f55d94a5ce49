import Derived.Test.YgvafwGreatE63
import Derived.Test.YgvafwGreatV21
import Derived.Test.YgvafwGreatV15
import Derived.Test.YgvafwGreatV10
import Derived.Test.YgvafwGreatV6a
import Derived.Test.YgvafwGreatU11
import Derived.Test.YgvafwGreatY79
set_option exponentiation.threshold 1000
set_option maxRecDepth 100000
set_option maxHeartbeats 4000000
set_option linter.unusedVariables false
set_option linter.unusedSimpArgs false
-- v2
-- v4
-- v5
-- v6
-- v7
-- still: exact QuV.of (QuG.ld cok (x := ⟨cb, sz, T, c⟩) (.inr (by simp)) rfl rfl rfl rfl (by dsimp only; omega) hm rfl)
-- plus: (refine QuG.keep ?_; fail "none")
-- plus: (refine OpG.keep ?_; fail "none")
-- still: exact QuV.l1 cok 5 rfl rfl rfl rfl rfl (by first | exact Nat.le_of_ble_eq_true rfl | omega) rfl
-- still: exact QuV.lN cok 5 rfl rfl rfl rfl rfl (by first | exact Nat.le_of_ble_eq_true rfl | omega) rfl
-- still: exact QuV.l1 cok 6 rfl rfl rfl rfl rfl (by first | exact Nat.le_of_ble_eq_true rfl | omega) rfl
-- still: exact QuV.lN cok 6 rfl rfl rfl rfl rfl (by first | exact Nat.le_of_ble_eq_true rfl | omega) rfl
namespace Go.Proofs.YgvafwGreat
open Go.HL Go.Proofs

theorem mMul0 {S : St} {g : Nat} (hg : g < 18446744073709551616) : CallG Hvaf.prog 105 #[WV g 0 0 0, wordV 0] S fun r S' => S = S' ∧ r = wordV 0 := by
  have h := UMul_spec (S := S) (a := g) (b := 0) (Nat.lt_of_lt_of_le hg (by decide)) (by decide)
  rw [Nat.mul_zero] at h
  rw [WV_eq hg (by decide) (by decide) (by decide) (n := g) (by omega)]
  exact h
section
variable {I : Ent → Prop} {G : List Ent} {cb sz gas dc : Nat} {T : TypeId} {c : Nat → Value} {V : Vl} {da : Option Addr} {ds : List Nat}
/-- engine.verdict: played -/
theorem eVerdict0 (hsz : 27019 ≤ sz) (hM : VdI cb c) (hV : VI I c V G) (hO : VOk V) (hNd : Byt ⟨I, []⟩ (.slice da ds.length dc) ds) (hg : gas ≤ 1048576) (hd : ds.length ≤ 1024) (hi : intN ds ≤ gas) (hn0 : (V.acc (adNo 240)).nonce = 0) (hc0 : (V.acc (adNo 240)).code = []) (hb0 : (V.acc (adNo 240)).bal = 2 ^ 128) :
    CallG Hvaf.prog 100 #[ptr cb 0, txV (.slice da ds.length dc) gas] ⟨I, ⟨cb, sz, T, c⟩ :: G⟩ fun r S' => S'.G = ⟨cb, sz, T, c⟩ :: G ∧ r = .tuple #[.int .u8 0, wordV 0] := by
  have hm := hM.mS
  have hp := hM.ph
  have ha := hM.ap
  have hno := vNonce (R := []) (cb := cb) (T := T) hsz hV hO (a := adNo 240) ⟨rfl, by decide⟩
  rw [hn0] at hno
  have hco := vCodeS (G := G) (cb := cb) (T := T) hsz hV hO (a := adNo 240) ⟨rfl, by decide⟩
  rw [hc0] at hco
  have hbl := fun (J : Ent → Prop) (hs : HL.Sub I J) => vBalance (R := []) (cb := cb) (T := T) hsz (hV.up hs) hO (a := adNo 240) ⟨rfl, by decide⟩
  rw [hb0] at hbl
  have hbf := hM.bf
  have hgl := hM.gl
  have hmo := fun S => mMulOver0 (S := S) (g := gas) (by omega)
  have hin := fun (J : Ent → Prop) (hs : HL.Sub I J) (G : List Ent) => mIntrinsic (G := G) (gas := gas) (hNd.mono hs (by simp)) hd
  have hib : intN ds < 2 ^ 30 := by have := zcN_le ds; unfold intN; omega
  refine CallG.start (C := mkC Hvaf.prog) cok (args := [ptr cb 0, txV (.slice da ds.length dc) gas]) Hvaf.func100 rfl Hvaf.ntmps100 (by simp) (by kernel_rfl) ?_
  intro b3 b5
  repeat (first | (refine QuG.keep ?_; first | refine QuG.l1E cok 2 rfl rfl rfl rfl rfl (by first | exact Nat.le_of_ble_eq_true rfl | omega | (dsimp only; omega) | (simp only [addS_eq, mulS_eq]; omega)) (by assumption) ?_) | refine SeqS.go cok ?_ | refine GuardS.yes rfl ?_ | refine CondS.f rfl ?_ | (refine QuG.keep ?_; first | refine QuG.l1 cok 1 rfl rfl rfl rfl rfl (by first | exact Nat.le_of_ble_eq_true rfl | omega | (dsimp only; omega) | (simp only [addS_eq, mulS_eq]; omega)) ?_) | (refine GuardS.keep ?_; first | refine GuardS.F0 rfl (by omega) ?_))
  refine CallG.behind [_] (yListOK (Nat.le_of_ble_eq_true rfl)) ?_
  rintro r J1 _ hs1 ⟨e1, rfl⟩
  cases e1
  repeat (first | (refine QuG.keep ?_; first | refine QuG.l1E cok 2 rfl rfl rfl rfl rfl (by first | exact Nat.le_of_ble_eq_true rfl | omega | (dsimp only; omega) | (simp only [addS_eq, mulS_eq]; omega)) (by assumption) ?_) | refine SeqS.go cok ?_ | refine GuardS.yes rfl ?_ | refine CondS.f rfl ?_ | (refine QuG.keep ?_; first | refine QuG.lN cok 1 rfl rfl rfl rfl rfl (by first | exact Nat.le_of_ble_eq_true rfl | omega | (dsimp only; omega) | (simp only [addS_eq, mulS_eq]; omega)) ?_) | refine W.drawI 7 cok [0, 1, 3, 7, 0, 16, 63, 127] [0, 1, 2, 3, 4, 5, 6, 7] [3, 5] (by kernel_rfl) (by kernel_rfl) ?_)
  refine CallG.behind [_, _] hno ?_
  rintro r J2 _ hs2 ⟨e2, rfl⟩
  cases e2
  repeat (first | (refine QuG.keep ?_; first | refine QuG.l1E cok 2 rfl rfl rfl rfl rfl (by first | exact Nat.le_of_ble_eq_true rfl | omega | (dsimp only; omega) | (simp only [addS_eq, mulS_eq]; omega)) (by assumption) ?_) | refine SeqS.go cok ?_ | refine CondS.f rfl ?_ | (refine QuG.keep ?_; first | refine QuG.l1 cok 1 rfl rfl rfl rfl rfl (by first | exact Nat.le_of_ble_eq_true rfl | omega | (dsimp only; omega) | (simp only [addS_eq, mulS_eq]; omega)) ?_ | refine QuG.lN cok 1 rfl rfl rfl rfl rfl (by first | exact Nat.le_of_ble_eq_true rfl | omega | (dsimp only; omega) | (simp only [addS_eq, mulS_eq]; omega)) ?_) | (refine still_in ?_; first | refine still_drop (by decide) ?_) | refine W.drawI 12 cok [0, 1, 3, 7, 0, 16, 63, 127, 255, 511] [0, 1, 2, 3, 4, 5, 6, 7, 8, 9] [3, 5] (by kernel_rfl) (by kernel_rfl) ?_)
  refine CallG.behind [_, _] hco ?_
  rintro r J3 _ hs3 ⟨J3', xa, xc, e3, rfl, hB3⟩
  cases e3
  replace hs3 : HL.Sub I J3 := hs3
  repeat (first | refine SeqS.go cok ?_ | refine GuardS.no rfl ?_ | refine CondS.f rfl ?_ | (refine QuG.keep ?_; first | refine QuG.l1 cok 1 rfl rfl rfl rfl rfl (by first | exact Nat.le_of_ble_eq_true rfl | omega | (dsimp only; omega) | (simp only [addS_eq, mulS_eq]; omega)) ?_ | refine QuG.lN cok 1 rfl rfl rfl rfl rfl (by first | exact Nat.le_of_ble_eq_true rfl | omega | (dsimp only; omega) | (simp only [addS_eq, mulS_eq]; omega)) ?_) | (refine still_in ?_; first | refine still_drop (by decide) ?_) | refine W.drawI 16 cok [0, 1, 0, 4, 15, 31] [0, 1, 2, 3, 4, 5] [1, 2] (by kernel_rfl) (by kernel_rfl) ?_)
  refine (hin J3 hs3 _).mono ?_
  rintro r _ - ⟨rfl, rfl⟩
  repeat (first | (refine QuG.keep ?_; first | refine QuG.l1E cok 2 rfl rfl rfl rfl rfl (by first | exact Nat.le_of_ble_eq_true rfl | omega | (dsimp only; omega) | (simp only [addS_eq, mulS_eq]; omega)) (by assumption) ?_) | refine SeqS.go cok ?_ | (refine QuG.keep ?_; first | refine QuG.l1 cok 1 rfl rfl rfl rfl rfl (by first | exact Nat.le_of_ble_eq_true rfl | omega | (dsimp only; omega) | (simp only [addS_eq, mulS_eq]; omega)) ?_ | refine QuG.lN cok 1 rfl rfl rfl rfl rfl (by first | exact Nat.le_of_ble_eq_true rfl | omega | (dsimp only; omega) | (simp only [addS_eq, mulS_eq]; omega)) ?_) | (refine still_in ?_; first | refine still_drop (by decide) ?_ | (refine still_keep (by decide) rfl ?_ ?_; first | exact QuV.l1 cok 1 rfl rfl rfl rfl rfl (by first | exact Nat.le_of_ble_eq_true rfl | omega | (dsimp only; omega) | (simp only [addS_eq, mulS_eq]; omega)) rfl)) | refine W.drawI 18 cok [0, 1, 0, 4, 12, 28, 60, 127, 255] [0, 1, 2, 3, 4, 5, 6, 7, 8] [1, 6] (by kernel_rfl) (by kernel_rfl) ?_ | (refine CondS.keep ?_; first | refine CondS.d0 rfl (by omega) ?_))
  refine (eFees (dv := .slice da ds.length dc) (gas := gas)).mono ?_
  rintro r _ - ⟨rfl, rfl⟩
  intro b7 b8
  repeat (first | (refine QuG.keep ?_; refine QuG.rowE cok (x := ⟨cb, sz, T, c⟩) hbf (.inr (by simp)) rfl rfl rfl rfl rfl rfl (by show _ + 32 ≤ sz; omega) ?_) | refine SeqS.go cok ?_ | (refine OpG.keep ?_; first | refine OpG.sL cok 0 rfl rfl rfl rfl rfl rfl rfl (by first | exact Nat.le_of_ble_eq_true rfl | omega | (dsimp only; omega) | (simp only [addS_eq, mulS_eq]; omega)) ?_ | refine OpG.sL cok 1 rfl rfl rfl rfl rfl rfl rfl (by first | exact Nat.le_of_ble_eq_true rfl | omega | (dsimp only; omega) | (simp only [addS_eq, mulS_eq]; omega)) ?_))
  refine mFB0.mono ?_
  rintro r _ - ⟨rfl, rfl⟩
  intro b9
  repeat (first | refine SeqS.go cok ?_ | refine And.intro (fillOk_of (Eq.refl true)) ?_ | (refine QuG.keep ?_; first | refine QuG.l1 cok 4 rfl rfl rfl rfl rfl (by first | exact Nat.le_of_ble_eq_true rfl | omega | (dsimp only; omega) | (simp only [addS_eq, mulS_eq]; omega)) ?_ | refine QuG.lN cok 2 rfl rfl rfl rfl rfl (by first | exact Nat.le_of_ble_eq_true rfl | omega | (dsimp only; omega) | (simp only [addS_eq, mulS_eq]; omega)) ?_) | (refine OpG.keep ?_; first | refine OpG.sL cok 0 rfl rfl rfl rfl rfl rfl rfl (by first | exact Nat.le_of_ble_eq_true rfl | omega | (dsimp only; omega) | (simp only [addS_eq, mulS_eq]; omega)) ?_))
  refine (hmo _).mono ?_
  rintro r _ - ⟨rfl, rfl⟩
  intro b10
  repeat (first | (refine QuG.keep ?_; first | refine QuG.lN cok 5 rfl rfl rfl rfl rfl (by first | exact Nat.le_of_ble_eq_true rfl | omega) ?_) | refine SeqS.go cok ?_ | (refine QuG.keep ?_; first | refine QuG.lN cok 0 rfl rfl rfl rfl rfl (by first | exact Nat.le_of_ble_eq_true rfl | omega | (dsimp only; omega) | (simp only [addS_eq, mulS_eq]; omega)) ?_) | (refine OpG.keep ?_; first | refine OpG.sL cok 0 rfl rfl rfl rfl rfl rfl rfl (by first | exact Nat.le_of_ble_eq_true rfl | omega | (dsimp only; omega) | (simp only [addS_eq, mulS_eq]; omega)) ?_) | refine W.drawI 23 cok [0, 0, 2, 6, 15, 31, 63, 63, 0, 383, 1023] [0, 1, 2, 3, 4, 5, 6, 7, 8, 9, 10] [0, 2] (by kernel_rfl) (by kernel_rfl) ?_)
  refine mFB0.mono ?_
  rintro r _ - ⟨rfl, rfl⟩
  repeat (first | (refine still_in ?_; first | refine still_nil ?_ | refine still_drop (by decide) ?_ | (refine still_keep (by decide) rfl ?_ ?_; first | exact QuV.lN cok 0 rfl rfl rfl rfl rfl (by first | exact Nat.le_of_ble_eq_true rfl | omega | (dsimp only; omega) | (simp only [addS_eq, mulS_eq]; omega)) rfl)))
  refine (AddOver_spec (a := 0) (b := 0) (by decide) (by decide)).mono ?_
  rintro r _ - ⟨rfl, rfl⟩
  repeat (first | (refine still_in ?_; first | refine still_nil ?_ | refine still_drop (by decide) ?_))
  intro b12
  repeat (first | (refine QuG.keep ?_; first | refine QuG.lN cok 6 rfl rfl rfl rfl rfl (by first | exact Nat.le_of_ble_eq_true rfl | omega) ?_ | refine QuG.ld cok (x := ⟨cb, sz, T, c⟩) (.inr (by simp)) rfl rfl rfl rfl (by dsimp only; omega) hm ?_) | refine SeqS.go cok ?_ | refine GuardS.yes rfl ?_ | (refine QuG.keep ?_; first | refine QuG.lN cok 0 rfl rfl rfl rfl rfl (by first | exact Nat.le_of_ble_eq_true rfl | omega | (dsimp only; omega) | (simp only [addS_eq, mulS_eq]; omega)) ?_) | (refine still_in ?_; first | refine still_drop (by decide) ?_) | (refine OpG.keep ?_; first | refine OpG.sL cok 0 rfl rfl rfl rfl rfl rfl rfl (by first | exact Nat.le_of_ble_eq_true rfl | omega | (dsimp only; omega) | (simp only [addS_eq, mulS_eq]; omega)) ?_) | refine W.drawI 24 cok [0, 1, 3, 7, 15, 31, 63, 127, 255, 31, 543, 2047, 31, 8191, 16383, 32767] [0, 1, 2, 3, 4, 5, 6, 7, 8, 9, 10, 12, 11, 13, 14, 15] [8, 10, 12] (by kernel_rfl) (by kernel_rfl) ?_)
  refine CallG.behind [_, _, _, _, _, _, _] (hbl J3 hs3) ?_
  rintro r J4 _ hs4 ⟨e4, rfl⟩
  cases e4
  repeat (first | refine GuardS.yes rfl ?_ | (refine still_in ?_; first | refine still_drop (by decide) ?_ | (refine still_keep (by decide) rfl ?_ ?_; first | exact QuV.lN cok 0 rfl rfl rfl rfl rfl (by first | exact Nat.le_of_ble_eq_true rfl | omega | (dsimp only; omega) | (simp only [addS_eq, mulS_eq]; omega)) rfl)))
  refine (ULt_spec (a := 2 ^ 128) (b := 0) (by decide) (by decide)).mono ?_
  rintro r _ - ⟨rfl, rfl⟩
  repeat (first | refine SeqS.go cok ?_ | refine CondS.f rfl ?_ | (refine QuG.keep ?_; first | refine QuG.lN cok 3 rfl rfl rfl rfl rfl (by first | exact Nat.le_of_ble_eq_true rfl | omega | (dsimp only; omega) | (simp only [addS_eq, mulS_eq]; omega)) ?_ | refine QuG.lN cok 4 rfl rfl rfl rfl rfl (by first | exact Nat.le_of_ble_eq_true rfl | omega | (dsimp only; omega) | (simp only [addS_eq, mulS_eq]; omega)) ?_) | (refine still_in ?_; first | refine still_drop (by decide) ?_))
  refine (UGt_spec (a := 0) (b := 0) (by decide) (by decide)).mono ?_
  rintro r _ - ⟨rfl, rfl⟩
  repeat (first | refine SeqS.go cok ?_ | refine CondS.f rfl ?_ | (refine QuG.keep ?_; first | refine QuG.lN cok 2 rfl rfl rfl rfl rfl (by first | exact Nat.le_of_ble_eq_true rfl | omega | (dsimp only; omega) | (simp only [addS_eq, mulS_eq]; omega)) ?_ | refine QuG.lN cok 4 rfl rfl rfl rfl rfl (by first | exact Nat.le_of_ble_eq_true rfl | omega | (dsimp only; omega) | (simp only [addS_eq, mulS_eq]; omega)) ?_))
  refine (ULt_spec (a := 0) (b := 0) (by decide) (by decide)).mono ?_
  rintro r _ - ⟨rfl, rfl⟩
  repeat (first | refine SeqS.go cok ?_ | refine CondS.f rfl ?_ | (refine QuG.keep ?_; first | refine QuG.lN cok 2 rfl rfl rfl rfl rfl (by first | exact Nat.le_of_ble_eq_true rfl | omega | (dsimp only; omega) | (simp only [addS_eq, mulS_eq]; omega)) ?_ | refine QuG.lN cok 4 rfl rfl rfl rfl rfl (by first | exact Nat.le_of_ble_eq_true rfl | omega | (dsimp only; omega) | (simp only [addS_eq, mulS_eq]; omega)) ?_))
  refine (USub_spec (a := 0) (b := 0) (by decide) (by decide)).mono ?_
  rintro r _ - ⟨rfl, rfl⟩
  repeat (first | (refine QuG.keep ?_; first | refine QuG.lN cok 5 rfl rfl rfl rfl rfl (by first | exact Nat.le_of_ble_eq_true rfl | omega) ?_) | (refine OpG.keep ?_; first | refine OpG.sL cok 5 rfl rfl rfl rfl rfl rfl rfl (by first | exact Nat.le_of_ble_eq_true rfl | omega) ?_) | refine SeqS.go cok ?_ | (refine QuG.keep ?_; first | refine QuG.lN cok 3 rfl rfl rfl rfl rfl (by first | exact Nat.le_of_ble_eq_true rfl | omega | (dsimp only; omega) | (simp only [addS_eq, mulS_eq]; omega)) ?_))
  refine (ULt_spec (a := 0) (b := 0) (by decide) (by decide)).mono ?_
  rintro r _ - ⟨rfl, rfl⟩
  repeat (first | (refine QuG.keep ?_; first | refine QuG.lN cok 5 rfl rfl rfl rfl rfl (by first | exact Nat.le_of_ble_eq_true rfl | omega) ?_) | refine SeqS.go cok ?_ | refine CondS.f rfl ?_ | (refine QuG.keep ?_; first | refine QuG.lN cok 2 rfl rfl rfl rfl rfl (by first | exact Nat.le_of_ble_eq_true rfl | omega | (dsimp only; omega) | (simp only [addS_eq, mulS_eq]; omega)) ?_))
  refine (UAdd_spec (a := 0) (b := 0) (by decide) (by decide)).mono ?_
  rintro r _ - ⟨rfl, rfl⟩
  repeat (first | (refine OpG.keep ?_; first | refine OpG.sL cok 5 rfl rfl rfl rfl rfl rfl rfl (by first | exact Nat.le_of_ble_eq_true rfl | omega) ?_) | refine SeqS.go cok ?_ | (refine LdG.keep ?_; first | refine LdG.lN cok 5 rfl rfl rfl rfl rfl (by first | exact Nat.le_of_ble_eq_true rfl | omega | (dsimp only; omega) | (simp only [addS_eq, mulS_eq]; omega)) ?_))
  exact Fin.drop _ [_, _, _, _, _, _, _] ⟨rfl, rfl⟩
end
end Go.Proofs.YgvafwGreat
