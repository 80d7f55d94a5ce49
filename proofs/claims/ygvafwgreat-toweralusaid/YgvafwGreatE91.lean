import Derived.Test.YgvafwGreatE90
import Derived.Test.YgvafwGreatE83
import Derived.Test.YgvafwGreatE81
import Derived.Test.YgvafwGreatE58
import Derived.Test.YgvafwGreatE53
set_option exponentiation.threshold 1000
set_option maxRecDepth 100000
set_option maxHeartbeats 4000000
set_option linter.unusedVariables false
set_option linter.unusedSimpArgs false
-- v2
namespace Go.Proofs.YgvafwGreat
open Go.HL Go.Proofs

/-- The bounds that hold along a run. -/
structure NBd (V : Vl) (σ : NS) : Prop where
  gm : σ.gas + memC (σ.mem.length / 32) ≤ 1048576
  md : σ.mem.length % 32 = 0
  ba : σ.gas + 2600 * V.ac.length ≤ 1074576
  bs : σ.gas + 2100 * V.sl.length ≤ 1048576
  bt : σ.gas + 100 * V.tp.length ≤ 1048576
  bj : σ.gas + 33 * V.jr.length ≤ 1048906
  bl : σ.gas + 375 * V.lg.length ≤ 1048576
  br : V.rf + 199 * σ.gas ≤ 208666624
/-- A child that creates runs; τ is the state behind it. -/
structure ChI (I : Ent → Prop) (cb sz : Nat) (c1 c' : Nat → Value) (K : YK) (V : Vl) (τ : NS) (M G : List Ent) : Prop where
  eS : 27019 ≤ sz
  ar : ArI (upd c' 10 (.int .u8 ((1 : Nat) : Int))) τ.mem M
  st : ∃ cP pc g0 g1 n, ChC I cb cP c' pc g0 g1 n ∧ MK I cb cP K ∧ KeepC c1 cP ∧ τ.pc = pc + 1 ∧ τ.gas = g0 + g1 ∧ pc + 1 < 60000
  ts : τ.s = [bev crAd]
  eV : VI I c' V G
  eO : VOk V
  rj : RJ K V τ.w
  bd : NBd V τ
section
variable {I : Ent → Prop} {cb sz : Nat} {T : TypeId} {c : Nat → Value} {K : YK} {V : Vl} {σ : NS} {M G : List Ent}
/-- The child's Step. -/
theorem mChild {c1 : Nat → Value} (h : ChI I cb sz c1 c K V σ M G) :
    CallG Hvaf.prog 46 #[ptr cb 0] ⟨I, ⟨cb, sz, T, c⟩ :: (M ++ G)⟩ fun r S' => r = .bool true ∧ ∃ c', S' = ⟨I, ⟨cb, sz, T, c'⟩ :: (M ++ G)⟩ ∧ NI I cb sz c' K V σ M G ∧ KeepC c1 c' := by
  obtain ⟨cP, pc, g0, g1, n, hC, hK, hk, e1, e2, hpb⟩ := h.st
  have hgs : σ.gas ≤ 1048576 := by have := h.bd.gm; omega
  have hsb : c 1808 = .int .u16 ((0 : Nat) : Int) := (hC.ot 1808 (by decide) (by decide) (by decide) (by decide) (by decide) (by decide) (by decide) (by decide) (by decide) (by decide) (by decide)).trans hK.fsb
  have hM : MV (chE c (g0 + g1)) pc (g0 + g1) [] := ⟨(updNe (by decide)).trans ((updNe (by decide)).trans ((updNe (by decide)).trans ((updNe (by decide)).trans hC.pcv))), (updNe (by decide)).trans ((updNe (by decide)).trans ((updNe (by decide)).trans ((updNe (by decide)).trans hC.sp))), updEq, fun i hi => absurd hi (Nat.not_lt_zero _), Nat.zero_le _, by simp, by omega, Nat.lt_of_le_of_lt (show g0 + g1 ≤ 1048576 by omega) (by decide)⟩
  refine (cStep (by have := h.eS; omega) (hC.ch1 (by omega)) hC.a10 hC.gs (by omega) hC.ol hsb hM hpb).mono ?_
  rintro r S' _ ⟨rfl, c', rfl, hM', hS⟩
  have e : ∀ k, (k < 2435 ∨ 27018 < k) → (k = 0 ∨ 1803 ≤ k ∧ k < 1866 ∨ 2258 ≤ k) → k ≠ 1807 → k ≠ 1809 → k ≠ 1810 → c' k = cP k := fun k a1 a2 a3 a4 a5 => by
    rw [hS k (by omega) a3 a4]
    show upd (upd (upd (upd c 10 _) 2259 _) 2258 _) 1810 _ k = _
    rw [updNe a5]
    by_cases x1 : k = 2258
    · subst x1; rw [updEq]; exact hK.mTop.symm
    rw [updNe x1]
    by_cases x2 : k = 2259
    · subst x2; rw [updEq]; exact hK.mRet.symm
    rw [updNe x2, updNe (by omega)]
    by_cases x3 : k = 2404
    · subst x3; exact hC.ph.trans hK.mPh.symm
    exact hC.ot k a1 (by omega) (by omega) (by omega) a3 a4 a5 (by omega) x1 x2 x3
  have eA : ∀ k, k < 11 → c' k = upd c 10 (.int .u8 ((1 : Nat) : Int)) k := fun k hk => by
    rw [hS k (by omega) (by omega) (by omega)]
    exact (updNe (by omega)).trans ((updNe (by omega)).trans (updNe (by omega)))
  refine ⟨rfl, c', rfl, ⟨⟨h.eS, h.ar.cong (eA 1 (by decide)) (eA 2 (by decide)) (eA 3 (by decide)) (eA 10 (by decide)), hK.congr (fun _ h => h) fun k a1 a2 a3 a4 a5 => e k (.inl a1) a2 a3 a4 a5, by rw [e1, e2, h.ts]; exact hM', VI.congr h.eV fun k a1 a2 => ?_, h.eO, h.rj.nm ▸ Nat.le_add_left _ _, h.rj.mq, h.rj.pk, h.rj.oks h.eO⟩, h.rj, h.bd.gm, h.bd.md, h.bd.ba, h.bd.bs, h.bd.bt, h.bd.bj, h.bd.bl, h.bd.br⟩, fun k a1 a2 a3 a4 a5 => (e k a1 a2 a3 a4 a5).trans (hk k a1 a2 a3 a4 a5)⟩
  rw [hS k (by omega) (by omega) (by omega)]
  exact (updNe (by omega)).trans ((updNe (by omega)).trans ((updNe (by omega)).trans (updNe (by omega))))
/-- mach.Machine.Step at SELFDESTRUCT -/
theorem mStep255 (h : NI I cb sz c K V σ M G) (ho : K.code.getD σ.pc 0 = 255) (h1 : 1 ≤ σ.s.length) (hmd : σ.w.md = []) (hbl : (getA σ.w.al K.self).bal = 0) (hg : 7600 ≤ σ.gas) :
    CallG Hvaf.prog 46 #[ptr cb 0] ⟨I, ⟨cb, sz, T, c⟩ :: (M ++ G)⟩ fun r S' => r = .bool true ∧ StP cb sz T c K σ.gas (.inr ⟨0, σ.gas - dstN σ.w σ.s, [], { σ.w with wa := withA (adN (argN σ.s 0)) σ.w.wa }⟩) S' := by
  have hsz' : 2435 ≤ sz := by have := h.ei.eS; omega
  have hb0 : (V.acc K.self).bal = 0 := (h.rj.rel.acc K.self).2.1.symm.trans hbl
  have hm0 : (V.acc K.self).made = false := by
    cases hq : (V.acc K.self).made with
    | false => rfl
    | true => have := ((h.rj.rel.mgn K.self).1.1 hq); rw [hmd] at this; cases this
  have hsl := h.ei.eM.sl
  have hdy := mDy255 (R := M) (cb := cb) (T := T) h.ei.eS h.ei.eK h.ei.eM h.ei.eV h.ei.eO hb0 _ rfl
  have hd : 5000 + (if (V.acc (adN (argN σ.s 0))).warm = true then 0 else 2600) = dstN σ.w σ.s := by
    unfold dstN
    by_cases hw : adN (argN σ.s 0) ∈ σ.w.wa
    · rw [if_pos hw, if_pos ((h.rj.rel.wrm _).2 hw)]
    · rw [if_neg hw, if_neg (fun hc => hw ((h.rj.rel.wrm _).1 hc))]
  have hle : (if (V.acc (adN (argN σ.s 0))).warm = true then 0 else 2600) ≤ 2600 := by split <;> omega
  have hps := mPsYN (o := 255) (sg := 5000) h.ei (by decide) (by decide) (by decide) (by decide) (mRs255 (I := I) (G := M ++ G) (cb := cb) (sz := sz) (T := T) (c := c)) (by decide) hdy (Nat.lt_of_le_of_lt hle (by decide)) (by decide) (Nat.zero_le _) (by omega)
  rw [hd] at hps
  have hadm := mAdP (o := 255) (tk := 1) (gv := 0) (sg := 5000) hsz' h.ei.eK h.ei.eM h1 (by omega) (by decide) hps
  have hdl : dstN σ.w σ.s ≤ 7600 := by rw [← hd]; omega
  have b1 := h.ba
  have b4 := h.bj
  refine (mStP (o := 255) (Q := fun r S' => StP cb sz T c K σ.gas (.inr ⟨0, σ.gas - dstN σ.w σ.s, [], { σ.w with wa := withA (adN (argN σ.s 0)) σ.w.wa }⟩) S') h.ei ho (by decide) hadm ?_).mono ?_
  · intro c' M' g1 g2 g3
    have hk : KeepC c c' := fun k x1 x2 x3 x4 x5 => g3 k (by omega) (by omega) x5
    have hei : EI I cb sz c' K V σ.pc (σ.gas - dstN σ.w σ.s) σ.s σ.mem M' G := h.ei.move (fun _ h => h) hk g2 g1 (fun k x1 x2 => g3 k (by omega) (by omega) (by omega))
    refine (mExDst (mOpDst (R := M') hei.eS hei.eA.tp hei.eK hei.eM hei.eV hei.eO (by omega) (by omega) hb0 hm0)).mono ?_
    rintro r S' _ ⟨r2, c2, G2, V2, rfl, hV2, hO2, hQ2, hW2⟩
    obtain ⟨hR2, hG2⟩ := wmRJ h.rj hW2
    have l1 := hG2.ga
    have l2 := hG2.gs
    have l4 := hG2.gj
    have b2 := h.bs
    refine ⟨I, c2, V2, M', G2, _, rfl, Byt.nil _, hV2, hO2, hR2.rel, hk.trans (KeepC.out hQ2), ⟨?_, ?_, ?_⟩, Nat.sub_le _ _⟩
    · have : (if adN (argN σ.s 0) ∈ σ.w.wa then 0 else 1) ≤ 1 := by split <;> omega
      omega
    · omega
    · have : (if adN (argN σ.s 0) ∈ σ.w.wa then 0 else 1) ≤ 1 := by split <;> omega
      omega
  · rintro r S' _ ⟨rfl, r2, hq⟩
    exact ⟨rfl, hq⟩
end
end Go.Proofs.YgvafwGreat
