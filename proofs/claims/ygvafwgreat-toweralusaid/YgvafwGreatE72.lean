import Derived.Test.YgvafwGreatE68u
import Derived.Test.YgvafwGreatE71
set_option exponentiation.threshold 1000
set_option maxRecDepth 100000
set_option maxHeartbeats 40000000
set_option linter.unusedVariables false
set_option linter.unusedSimpArgs false
-- v2
-- v4
-- v5
-- v6
-- v7
namespace Go.Proofs.YgvafwGreat
open Go.HL Go.Proofs

theorem RW.gone {K : YK} {V : Vl} {w : YW} (h : RW K V w) (hO : VOk V) : ∀ x ∈ V.ac, x.gone = false := by
  intro x hx
  have h1 := (h.mgn x.ad).2
  have : V.acc x.ad = x := by
    unfold Vl.acc Vl.ix
    obtain ⟨i, hi, rfl⟩ := List.getElem_of_mem hx
    have hnd := hO.and
    have hf : (V.ac.findIdx fun y => y.ad == V.ac[i].ad) = i := by
      rw [List.findIdx_eq hi]
      refine ⟨beq_self_eq_true _, fun j hj => ?_⟩
      rw [beq_eq_false_iff_ne]
      intro e
      have := (List.pairwise_iff_getElem.1 hnd) j i (by rw [List.length_map]; omega) (by rw [List.length_map]; exact hi) hj
      apply this
      rw [List.getElem_map, List.getElem_map]
      exact e
    rw [hf, List.getD_eq_getElem?_getD, List.getElem?_eq_getElem hi]; rfl
  rw [this] at h1; exact h1
theorem rw_ac {K : YK} {V : Vl} {w : YW} (h : RW K V w) : 0 < V.ac.length := by
  obtain ⟨y, l, e, _⟩ := h.x0
  rw [e]; exact Nat.succ_pos _
/-- What Finish leaves. -/
def FinP (cb sz : Nat) (T : TypeId) (K : YK) (w : YW) (gas g st : Nat) (out : List Nat) : Post := fun r S' =>
  ∃ J c' MA MS Y V' ov lv, r = rptV 0 st (usedN gas g w.rf) ov lv (List.replicate 20 0) ∧ S' = ⟨J, ⟨cb, sz, T, c'⟩ :: (MA ++ (MS ++ Y))⟩ ∧ XI J c' (V'.ac.map coolA) (V'.sl.map coolS) MA MS ∧ VOk V' ∧ RW K V' { w with al := putA { getA (putA { getA w.al (adNo 240) with bal := 2 ^ 128 } w.al) (adNo 192) with bal := 0 } (putA { getA w.al (adNo 240) with bal := 2 ^ 128 } w.al) } ∧ Byt ⟨J, []⟩ ov out ∧ LogsI J lv w.lg
theorem lg_sl {I : Ent → Prop} {v : Value} {ml : List LG} (h : LogsI I v ml) : ∃ a n c, v = .slice a n c := by
  obtain ⟨vss, hR, _⟩ := h.out
  obtain ⟨a, c, e⟩ := hR.form
  exact ⟨a, _, c, e⟩
theorem PayP.sl {cb sz : Nat} {T : TypeId} {M : List Ent} {c : Nat → Value} {K : YK} {w : YW} {gas g st : Nat} {out : List Nat} {r : Value} {S' : St} (h : PayP cb sz T M c K w gas g st out r S') : ∃ J c' G' V' oa on oc la ln lc, r = rptV 0 st (usedN gas g w.rf) (.slice oa on oc) (.slice la ln lc) (List.replicate 20 0) ∧ S' = ⟨J, ⟨cb, sz, T, c'⟩ :: (M ++ G')⟩ ∧ VI J c' V' G' ∧ VOk V' ∧ RW K V' { w with al := putA { getA (putA { getA w.al (adNo 240) with bal := 2 ^ 128 } w.al) (adNo 192) with bal := 0 } (putA { getA w.al (adNo 240) with bal := 2 ^ 128 } w.al) } ∧ 0 < V'.jr.length ∧ Byt ⟨J, []⟩ (.slice oa on oc) out ∧ LogsI J (.slice la ln lc) w.lg ∧ Out c c' := by
  obtain ⟨J, c', G', V', ov, lv, h1, h2, h3, h4, h5, h6, h7, h8, h9⟩ := h
  obtain ⟨oa, oc, rfl, -⟩ := h7.form
  obtain ⟨la, ln, lc, rfl⟩ := lg_sl h8
  exact ⟨J, c', G', V', oa, _, oc, la, ln, lc, h1, h2, h3, h4, h5, h6, h7, h8, h9⟩
/-- engine.Chain.Finish -/
theorem eFinish {I : Ent → Prop} {M G : List Ent} {cb sz gas g st rn rc : Nat} {T : TypeId} {c : Nat → Value} {K : YK} {w : YW} {ra : Option Addr} {out : List Nat} (hsz : 27024 ≤ sz) (hF : PayF cb c gas g st ra rn rc) (hT : c 27023 = .bool false) (hpay : CallG Hvaf.prog 47 #[ptr cb 0] ⟨I, ⟨cb, sz, T, c⟩ :: (M ++ G)⟩ (PayP cb sz T M c K w gas g st out)) :
    CallG Hvaf.prog 26 #[ptr cb 0] ⟨I, ⟨cb, sz, T, c⟩ :: (M ++ G)⟩ (FinP cb sz T K w gas g st out) := by
  unfold FinP
  have hpay2 := hpay.mono fun r S' _ h => PayP.sl h
  refine CallG.start (C := mkC Hvaf.prog) cok (args := [ptr cb 0]) Hvaf.func26 rfl Hvaf.ntmps26 (by simp) (by kernel_rfl) ?_
  intro b2
  repeat (first | refine SeqS.go cok ?_)
  refine CallG.behind [_] hpay2 ?_
  rintro r J1 _ hs1 ⟨J1', c1, G1, V1, oa, on, oc, la, ln, lc, rfl, e1, hV1, hO1, hR1, hj1, hB1, hL1, ho1⟩
  cases e1
  have hT1 : c1 27023 = .bool false := (ho1 _ (.inr (by decide))).trans hT
  have hF1 := hF.out ho1
  have k1 := hF1.mS
  have hre := eRest (R := M) (cb := cb) (sz := sz) (T := T) (by omega) hV1 hO1 (hR1.gone hO1) hj1 (rw_ac hR1) k1
  intro b3
  repeat (first | (refine QuG.keep ?_; first | refine QuG.l1E cok 2 rfl rfl rfl rfl rfl (by first | exact Nat.le_of_ble_eq_true rfl | omega | (dsimp only; omega) | (simp only [addS_eq, mulS_eq]; omega)) (by assumption) ?_) | refine SeqS.go cok ?_ | refine CondS.t rfl ?_ | refine CondS.f rfl ?_ | (refine QuG.keep ?_; first | refine QuG.l1 cok 0 rfl rfl rfl rfl rfl (by first | exact Nat.le_of_ble_eq_true rfl | omega | (dsimp only; omega) | (simp only [addS_eq, mulS_eq]; omega)) ?_) | (refine OpG.keep ?_; first | refine OpG.sL cok 0 rfl rfl rfl rfl rfl rfl rfl (by first | exact Nat.le_of_ble_eq_true rfl | omega | (dsimp only; omega) | (simp only [addS_eq, mulS_eq]; omega)) ?_))
  refine CallG.behind [_, _] hre ?_
  rintro r J2 _ hs2 ⟨c2, MA, MS, Y, e2, hX⟩
  cases e2
  repeat (first | refine SeqS.go cok ?_ | (refine QuG.keep ?_; first | refine QuG.lN cok 0 rfl rfl rfl rfl rfl (by first | exact Nat.le_of_ble_eq_true rfl | omega | (dsimp only; omega) | (simp only [addS_eq, mulS_eq]; omega)) ?_) | (refine LdG.keep ?_; first | refine LdG.lN cok 1 rfl rfl rfl rfl rfl (by first | exact Nat.le_of_ble_eq_true rfl | omega | (dsimp only; omega) | (simp only [addS_eq, mulS_eq]; omega)) ?_) | (refine OpG.keep ?_; first | refine OpG.sL cok 1 rfl rfl rfl rfl rfl rfl rfl (by first | exact Nat.le_of_ble_eq_true rfl | omega | (dsimp only; omega) | (simp only [addS_eq, mulS_eq]; omega)) ?_))
  refine Fin.drop (⟨cb, sz, T, c2⟩ :: (MA ++ (MS ++ Y))) [_, _] ?_
  exact ⟨_, c2, MA, MS, Y, V1, _, _, rfl, rfl, hX, hO1, hR1, hB1, hL1⟩
end Go.Proofs.YgvafwGreat
