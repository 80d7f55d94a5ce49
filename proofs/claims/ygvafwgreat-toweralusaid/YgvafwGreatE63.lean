import Derived.Test.YgvafwGreatE62
import Derived.Test.YgvafwGreatV15
import Derived.Test.YgvafwGreatV10
import Derived.Test.YgvafwGreatV6a
import Derived.Test.YgvafwGreatU11
import Derived.Test.YgvafwGreatY79
set_option exponentiation.threshold 1000
set_option maxRecDepth 100000
set_option maxHeartbeats 4000000
set_option linter.unusedVariables false
set_option linter.unusedSimpArgs false
-- v2
-- v4
-- v5
-- v6
-- v7
namespace Go.Proofs.YgvafwGreat
open Go.HL Go.Proofs

theorem mFB0 {S : St} : CallG Hvaf.prog 93 #[bytesV z32] S fun r S' => S = S' ∧ r = wordV 0 := by
  have h := FromBytes_spec (S := S) (ds := z32) rfl (by decide)
  rw [show bev z32 = 0 by decide] at h
  exact h
/-- engine.fees -/
theorem eFees {I : Ent → Prop} {G : List Ent} {gas : Nat} {dv : Value} :
    CallG Hvaf.prog 172 #[txV dv gas] ⟨I, G⟩ fun r S' => ⟨I, G⟩ = S' ∧ r = .tuple #[wordV 0, wordV 0] := by
  refine CallG.start (C := mkC Hvaf.prog) cok (args := [txV dv gas]) Hvaf.func172 rfl Hvaf.ntmps172 (by simp) (by kernel_rfl) ?_
  intro b1 b2 b3
  repeat (first | refine SeqS.go cok ?_)
  refine CallG.focus 2 rfl ?_
  refine (yFees (Nat.le_of_ble_eq_true rfl)).mono ?_
  rintro r _ - ⟨rfl, rfl⟩
  intro b4 b5
  repeat (first | refine SeqS.go cok ?_ | (refine QuG.keep ?_; first | refine QuG.lN cok 0 rfl rfl rfl rfl rfl (by first | exact Nat.le_of_ble_eq_true rfl | omega | (dsimp only; omega) | (simp only [addS_eq, mulS_eq]; omega)) ?_ | refine QuG.lN cok 1 rfl rfl rfl rfl rfl (by first | exact Nat.le_of_ble_eq_true rfl | omega | (dsimp only; omega) | (simp only [addS_eq, mulS_eq]; omega)) ?_) | (refine OpG.keep ?_; first | refine OpG.sL cok 0 rfl rfl rfl rfl rfl rfl rfl (by first | exact Nat.le_of_ble_eq_true rfl | omega | (dsimp only; omega) | (simp only [addS_eq, mulS_eq]; omega)) ?_ | refine OpG.sL cok 1 rfl rfl rfl rfl rfl rfl rfl (by first | exact Nat.le_of_ble_eq_true rfl | omega | (dsimp only; omega) | (simp only [addS_eq, mulS_eq]; omega)) ?_) | refine W.drawI 2 cok [0, 1, 0, 7, 15, 31] [0, 2, 1, 3, 4, 5] [0, 2] (by kernel_rfl) (by kernel_rfl) ?_)
  refine mFB0.mono ?_
  rintro r _ - ⟨rfl, rfl⟩
  repeat (first | (refine still_in ?_; first | refine still_nil ?_ | refine still_drop (by decide) ?_ | (refine still_keep (by decide) rfl ?_ ?_; first | exact QuV.lN cok 0 rfl rfl rfl rfl rfl (by first | exact Nat.le_of_ble_eq_true rfl | omega | (dsimp only; omega) | (simp only [addS_eq, mulS_eq]; omega)) rfl)))
  refine mFB0.mono ?_
  rintro r _ - ⟨rfl, rfl⟩
  repeat (first | refine SeqS.go cok ?_ | (refine still_in ?_; first | refine still_nil ?_ | refine still_drop (by decide) ?_) | (refine LdG.keep ?_; first | refine LdG.lN cok 3 rfl rfl rfl rfl rfl (by first | exact Nat.le_of_ble_eq_true rfl | omega | (dsimp only; omega) | (simp only [addS_eq, mulS_eq]; omega)) ?_ | refine LdG.lN cok 4 rfl rfl rfl rfl rfl (by first | exact Nat.le_of_ble_eq_true rfl | omega | (dsimp only; omega) | (simp only [addS_eq, mulS_eq]; omega)) ?_) | (refine OpG.keep ?_; first | refine OpG.sL cok 3 rfl rfl rfl rfl rfl rfl rfl (by first | exact Nat.le_of_ble_eq_true rfl | omega | (dsimp only; omega) | (simp only [addS_eq, mulS_eq]; omega)) ?_ | refine OpG.sL cok 4 rfl rfl rfl rfl rfl rfl rfl (by first | exact Nat.le_of_ble_eq_true rfl | omega | (dsimp only; omega) | (simp only [addS_eq, mulS_eq]; omega)) ?_))
  exact Fin.drop G [_, _, _, _, _] ⟨rfl, rfl⟩
theorem mMulOver0 {S : St} {g : Nat} (hg : g < 18446744073709551616) : CallG Hvaf.prog 173 #[WV g 0 0 0, wordV 0] S fun r S' => S = S' ∧ r = .tuple #[wordV 0, .bool false] := by
  have h := MulOver_spec (S := S) (a := g) (b := 0) (Nat.lt_of_lt_of_le hg (by decide)) (by decide)
  rw [Nat.mul_zero] at h
  rw [WV_eq hg (by decide) (by decide) (by decide) (n := g) (by omega)]
  exact h
theorem vCodeS {I : Ent → Prop} {G : List Ent} {cb sz : Nat} {T : TypeId} {c : Nat → Value} {V : Vl} {a : List Nat} (hsz : 27019 ≤ sz) (hV : VI I c V G) (hO : VOk V) (ha : AdOk a) :
    CallG Hvaf.prog 113 #[ptr cb 2435, bytesV a] ⟨I, ⟨cb, sz, T, c⟩ :: G⟩ fun r S' => ∃ J xa xc, S' = ⟨J, ⟨cb, sz, T, c⟩ :: G⟩ ∧ r = .slice xa (V.acc a).code.length xc ∧ Byt ⟨J, []⟩ (.slice xa (V.acc a).code.length xc) (V.acc a).code := by
  refine (vCode (R := []) hsz hV hO ha).mono ?_
  rintro r ⟨J, _⟩ hs ⟨rfl, hb⟩
  obtain ⟨xa, xc, rfl, -⟩ := hb.form
  exact ⟨J, xa, xc, rfl, rfl, hb⟩
/-- What verdict needs of the machine. -/
structure VdI (cb : Nat) (c : Nat → Value) : Prop where
  mS : c 0 = ptr cb 2435
  ph : c 2404 = .int .u8 0
  ap : c 2406 = .int .u8 0
  gl : c 2282 = .int .u64 1048576
  bf : Row c 2347 (bvs z32)
section
variable {I : Ent → Prop} {G : List Ent} {cb sz gas dc : Nat} {T : TypeId} {c : Nat → Value} {V : Vl} {da : Option Addr} {ds : List Nat}
/-- engine.verdict: too great -/
theorem eVerdictG (hsz : 27019 ≤ sz) (hM : VdI cb c) (hg : 1048576 < gas ∨ 1024 < ds.length) (hgb : gas < 18446744073709551616) (hdb : ds.length < 2 ^ 47) :
    CallG Hvaf.prog 100 #[ptr cb 0, txV (.slice da ds.length dc) gas] ⟨I, ⟨cb, sz, T, c⟩ :: G⟩ fun r S' => S' = ⟨I, ⟨cb, sz, T, c⟩ :: G⟩ ∧ r = .tuple #[.int .u8 3, wordV 0] := by
  have hm := hM.mS
  have hp := hM.ph
  have ha := hM.ap
  rcases Nat.lt_or_ge 1048576 gas with h | h
  · refine CallG.start (C := mkC Hvaf.prog) cok (args := [ptr cb 0, txV (.slice da ds.length dc) gas]) Hvaf.func100 rfl Hvaf.ntmps100 (by simp) (by kernel_rfl) ?_
    intro b3 b5
    repeat (first | (refine QuG.keep ?_; first | refine QuG.l1E cok 2 rfl rfl rfl rfl rfl (by first | exact Nat.le_of_ble_eq_true rfl | omega | (dsimp only; omega) | (simp only [addS_eq, mulS_eq]; omega)) (by assumption) ?_) | refine SeqS.go cok ?_ | refine GuardS.yes rfl ?_ | refine GuardS.no rfl ?_ | refine CondS.t rfl ?_ | refine CondS.f rfl ?_ | (refine QuG.keep ?_; first | refine QuG.l1 cok 1 rfl rfl rfl rfl rfl (by first | exact Nat.le_of_ble_eq_true rfl | omega | (dsimp only; omega) | (simp only [addS_eq, mulS_eq]; omega)) ?_ | refine QuG.lN cok 0 rfl rfl rfl rfl rfl (by first | exact Nat.le_of_ble_eq_true rfl | omega | (dsimp only; omega) | (simp only [addS_eq, mulS_eq]; omega)) ?_) | (refine still_in ?_; first | refine still_drop (by decide) ?_) | (refine LdG.keep ?_; first | refine LdG.lN cok 0 rfl rfl rfl rfl rfl (by first | exact Nat.le_of_ble_eq_true rfl | omega | (dsimp only; omega) | (simp only [addS_eq, mulS_eq]; omega)) ?_) | (refine OpG.keep ?_; first | refine OpG.sL cok 0 rfl rfl rfl rfl rfl rfl rfl (by first | exact Nat.le_of_ble_eq_true rfl | omega | (dsimp only; omega) | (simp only [addS_eq, mulS_eq]; omega)) ?_) | refine W.drawI 6 cok [0, 0, 3] [0, 1, 2] [0] (by kernel_rfl) (by kernel_rfl) ?_ | (refine GuardS.keep ?_; first | refine GuardS.F1 rfl (by omega) ?_))
    exact Fin.drop _ [_, _] ⟨rfl, rfl⟩
  · have h2 : 1024 < ds.length := by omega
    refine CallG.start (C := mkC Hvaf.prog) cok (args := [ptr cb 0, txV (.slice da ds.length dc) gas]) Hvaf.func100 rfl Hvaf.ntmps100 (by simp) (by kernel_rfl) ?_
    intro b3 b5
    repeat (first | (refine QuG.keep ?_; first | refine QuG.l1E cok 2 rfl rfl rfl rfl rfl (by first | exact Nat.le_of_ble_eq_true rfl | omega | (dsimp only; omega) | (simp only [addS_eq, mulS_eq]; omega)) (by assumption) ?_) | refine SeqS.go cok ?_ | refine GuardS.yes rfl ?_ | refine GuardS.no rfl ?_ | refine CondS.t rfl ?_ | refine CondS.f rfl ?_ | (refine QuG.keep ?_; first | refine QuG.l1 cok 1 rfl rfl rfl rfl rfl (by first | exact Nat.le_of_ble_eq_true rfl | omega | (dsimp only; omega) | (simp only [addS_eq, mulS_eq]; omega)) ?_ | refine QuG.lN cok 0 rfl rfl rfl rfl rfl (by first | exact Nat.le_of_ble_eq_true rfl | omega | (dsimp only; omega) | (simp only [addS_eq, mulS_eq]; omega)) ?_) | (refine still_in ?_; first | refine still_drop (by decide) ?_) | (refine LdG.keep ?_; first | refine LdG.lN cok 0 rfl rfl rfl rfl rfl (by first | exact Nat.le_of_ble_eq_true rfl | omega | (dsimp only; omega) | (simp only [addS_eq, mulS_eq]; omega)) ?_) | (refine OpG.keep ?_; first | refine OpG.sL cok 0 rfl rfl rfl rfl rfl rfl rfl (by first | exact Nat.le_of_ble_eq_true rfl | omega | (dsimp only; omega) | (simp only [addS_eq, mulS_eq]; omega)) ?_) | refine W.drawI 6 cok [0, 0, 3] [0, 1, 2] [0] (by kernel_rfl) (by kernel_rfl) ?_ | (refine GuardS.keep ?_; first | refine GuardS.F1 rfl (by omega) ?_ | refine GuardS.F0 rfl (by omega) ?_))
    exact Fin.drop _ [_, _] ⟨rfl, rfl⟩
/-- engine.verdict: too little gas -/
theorem eVerdictI (hsz : 27019 ≤ sz) (hM : VdI cb c) (hV : VI I c V G) (hO : VOk V) (hNd : Byt ⟨I, []⟩ (.slice da ds.length dc) ds) (hg : gas ≤ 1048576) (hd : ds.length ≤ 1024) (hi : gas < intN ds) (hn0 : (V.acc (adNo 240)).nonce = 0) (hc0 : (V.acc (adNo 240)).code = []) :
    CallG Hvaf.prog 100 #[ptr cb 0, txV (.slice da ds.length dc) gas] ⟨I, ⟨cb, sz, T, c⟩ :: G⟩ fun r S' => S'.G = ⟨cb, sz, T, c⟩ :: G ∧ r = .tuple #[.int .u8 8, wordV 0] := by
  have hm := hM.mS
  have hp := hM.ph
  have ha := hM.ap
  have hno := vNonce (R := []) (cb := cb) (T := T) hsz hV hO (a := adNo 240) ⟨rfl, by decide⟩
  rw [hn0] at hno
  have hco := vCodeS (G := G) (cb := cb) (T := T) hsz hV hO (a := adNo 240) ⟨rfl, by decide⟩
  rw [hc0] at hco
  have hin := fun (J : Ent → Prop) (hs : HL.Sub I J) (G : List Ent) => mIntrinsic (G := G) (gas := gas) (hNd.mono hs (by simp)) hd
  have hib : intN ds < 2 ^ 30 := by have := zcN_le ds; unfold intN; omega
  refine CallG.start (C := mkC Hvaf.prog) cok (args := [ptr cb 0, txV (.slice da ds.length dc) gas]) Hvaf.func100 rfl Hvaf.ntmps100 (by simp) (by kernel_rfl) ?_
  intro b3 b5
  repeat (first | (refine QuG.keep ?_; first | refine QuG.l1E cok 2 rfl rfl rfl rfl rfl (by first | exact Nat.le_of_ble_eq_true rfl | omega | (dsimp only; omega) | (simp only [addS_eq, mulS_eq]; omega)) (by assumption) ?_) | refine SeqS.go cok ?_ | refine GuardS.yes rfl ?_ | refine CondS.f rfl ?_ | (refine QuG.keep ?_; first | refine QuG.l1 cok 1 rfl rfl rfl rfl rfl (by first | exact Nat.le_of_ble_eq_true rfl | omega | (dsimp only; omega) | (simp only [addS_eq, mulS_eq]; omega)) ?_) | (refine GuardS.keep ?_; first | refine GuardS.F0 rfl (by omega) ?_))
  refine CallG.behind [_] (yListOK (Nat.le_of_ble_eq_true rfl)) ?_
  rintro r J1 _ hs1 ⟨e1, rfl⟩
  cases e1
  repeat (first | (refine QuG.keep ?_; first | refine QuG.l1E cok 2 rfl rfl rfl rfl rfl (by first | exact Nat.le_of_ble_eq_true rfl | omega | (dsimp only; omega) | (simp only [addS_eq, mulS_eq]; omega)) (by assumption) ?_) | refine SeqS.go cok ?_ | refine GuardS.yes rfl ?_ | refine CondS.f rfl ?_ | (refine QuG.keep ?_; first | refine QuG.lN cok 1 rfl rfl rfl rfl rfl (by first | exact Nat.le_of_ble_eq_true rfl | omega | (dsimp only; omega) | (simp only [addS_eq, mulS_eq]; omega)) ?_) | refine W.drawI 7 cok [0, 1, 3, 7, 0, 16, 63, 127] [0, 1, 2, 3, 4, 5, 6, 7] [3, 5] (by kernel_rfl) (by kernel_rfl) ?_)
  refine CallG.behind [_, _] hno ?_
  rintro r J2 _ hs2 ⟨e2, rfl⟩
  cases e2
  repeat (first | (refine QuG.keep ?_; first | refine QuG.l1E cok 2 rfl rfl rfl rfl rfl (by first | exact Nat.le_of_ble_eq_true rfl | omega | (dsimp only; omega) | (simp only [addS_eq, mulS_eq]; omega)) (by assumption) ?_) | refine SeqS.go cok ?_ | refine CondS.f rfl ?_ | (refine QuG.keep ?_; first | refine QuG.l1 cok 1 rfl rfl rfl rfl rfl (by first | exact Nat.le_of_ble_eq_true rfl | omega | (dsimp only; omega) | (simp only [addS_eq, mulS_eq]; omega)) ?_ | refine QuG.lN cok 1 rfl rfl rfl rfl rfl (by first | exact Nat.le_of_ble_eq_true rfl | omega | (dsimp only; omega) | (simp only [addS_eq, mulS_eq]; omega)) ?_) | (refine still_in ?_; first | refine still_drop (by decide) ?_) | refine W.drawI 12 cok [0, 1, 3, 7, 0, 16, 63, 127, 255, 511] [0, 1, 2, 3, 4, 5, 6, 7, 8, 9] [3, 5] (by kernel_rfl) (by kernel_rfl) ?_)
  refine CallG.behind [_, _] hco ?_
  rintro r J3 _ hs3 ⟨J3', xa, xc, e3, rfl, hB3⟩
  cases e3
  replace hs3 : HL.Sub I J3 := hs3
  repeat (first | refine SeqS.go cok ?_ | refine GuardS.no rfl ?_ | refine CondS.f rfl ?_ | (refine QuG.keep ?_; first | refine QuG.l1 cok 1 rfl rfl rfl rfl rfl (by first | exact Nat.le_of_ble_eq_true rfl | omega | (dsimp only; omega) | (simp only [addS_eq, mulS_eq]; omega)) ?_ | refine QuG.lN cok 1 rfl rfl rfl rfl rfl (by first | exact Nat.le_of_ble_eq_true rfl | omega | (dsimp only; omega) | (simp only [addS_eq, mulS_eq]; omega)) ?_) | (refine still_in ?_; first | refine still_drop (by decide) ?_) | refine W.drawI 16 cok [0, 1, 0, 4, 15, 31] [0, 1, 2, 3, 4, 5] [1, 2] (by kernel_rfl) (by kernel_rfl) ?_)
  refine (hin J3 hs3 _).mono ?_
  rintro r _ - ⟨rfl, rfl⟩
  repeat (first | refine SeqS.go cok ?_ | (refine QuG.keep ?_; first | refine QuG.lN cok 0 rfl rfl rfl rfl rfl (by first | exact Nat.le_of_ble_eq_true rfl | omega | (dsimp only; omega) | (simp only [addS_eq, mulS_eq]; omega)) ?_) | (refine still_in ?_; first | refine still_drop (by decide) ?_ | (refine still_keep (by decide) rfl ?_ ?_; first | exact QuV.l1 cok 1 rfl rfl rfl rfl rfl (by first | exact Nat.le_of_ble_eq_true rfl | omega | (dsimp only; omega) | (simp only [addS_eq, mulS_eq]; omega)) rfl)) | (refine LdG.keep ?_; first | refine LdG.lN cok 0 rfl rfl rfl rfl rfl (by first | exact Nat.le_of_ble_eq_true rfl | omega | (dsimp only; omega) | (simp only [addS_eq, mulS_eq]; omega)) ?_) | (refine OpG.keep ?_; first | refine OpG.sL cok 0 rfl rfl rfl rfl rfl rfl rfl (by first | exact Nat.le_of_ble_eq_true rfl | omega | (dsimp only; omega) | (simp only [addS_eq, mulS_eq]; omega)) ?_) | refine W.drawI 17 cok [0, 0, 3] [0, 1, 2] [0] (by kernel_rfl) (by kernel_rfl) ?_ | (refine CondS.keep ?_; first | refine CondS.d1 rfl (by omega) ?_))
  exact Fin.drop _ [_, _] ⟨rfl, rfl⟩
end
end Go.Proofs.YgvafwGreat
