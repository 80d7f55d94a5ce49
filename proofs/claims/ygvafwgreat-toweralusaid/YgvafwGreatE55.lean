import Derived.Test.YgvafwGreatE54
set_option exponentiation.threshold 1000
set_option maxRecDepth 100000
set_option maxHeartbeats 4000000
set_option linter.unusedVariables false
set_option linter.unusedSimpArgs false
-- v2
-- v4
-- v5
-- v6
-- v7
namespace Go.Proofs.YgvafwGreat
open Go.HL Go.Proofs
/-- The world behind a store. -/
def stW (K : YK) (w : YW) (k n plus : Nat) : YW := { w with rf := w.rf - 0 + plus, al := putA { getA w.al K.self with slots := storeS k n (decide (n = 0)) (getA w.al K.self).slots } w.al }
theorem sstA {K : YK} {V : Vl} {w : YW} {k n : Nat} (h : RJ K V w) (hv : n = (V.slt k).val) : RJ K V (stW K w k n 0) := by
  refine h.setW ?_
  have := (h.rel.storeS hv).setRf (w.rf - 0 + 0) (by show w.rf = V.rf; exact h.rel.rf)
  exact this
theorem sstB {K : YK} {V : Vl} {w : YW} {k n : Nat} (h : RJ K V w) (t : Nat → Int) : RJ K (V.setS k t { V.slt' k with val := n } ⟨3, V.is k, 0, (V.slt' k).val, false⟩) (stW K w k n 0) := by
  have h1 := h.store k n t (getA_addr _ _ (fun _ _ => trivial))
  exact h1.setW (h1.rel.setRf (w.rf - 0 + 0) (by rw [(setS_ac V k t _ _).2.2.1]; exact h.rel.rf))
theorem sstC {K : YK} {V : Vl} {w : YW} {k n : Nat} (h : RJ K V w) (t : Nat → Int) (hr : V.rf < 2 ^ 40) {V2 : Vl} (h2 : V2 = V.setS k t { V.slt' k with val := n } ⟨3, V.is k, 0, (V.slt' k).val, false⟩) : RJ K { V2 with jr := V2.jr ++ [⟨6, 0, V2.rf, 0, false⟩], rf := V2.rf + 19900 } (stW K w k n 19900) := by
  subst h2
  have h1 := h.store k n t (getA_addr _ _ (fun _ _ => trivial))
  have hrf := (setS_ac V k t { V.slt' k with val := n } ⟨3, V.is k, 0, (V.slt' k).val, false⟩).2.2.1
  have h3 := h1.refund ((V.setS k t { V.slt' k with val := n } ⟨3, V.is k, 0, (V.slt' k).val, false⟩).rf + 19900) (by rw [hrf]; exact hr)
  have e : (V.setS k t { V.slt' k with val := n } ⟨3, V.is k, 0, (V.slt' k).val, false⟩).rf + 19900 = w.rf - 0 + 19900 := by rw [hrf, h.rel.rf]; omega
  have h4 := h3
  unfold stW
  rw [← e]
  exact h4
theorem sst_3 {K : YK} {V : Vl} {w : YW} {s : List Nat} (h : RW K V w) (hst : K.st = []) : sstoreN K w s = sstN 0 (V.slt (argN s 0)).val (argN s 1) (!(V.slt (argN s 0)).warm) := (h.sst hst s).symm
theorem sst_snd {v n : Nat} {cold : Bool} : (sstN 0 v n cold).2 = (0, 0) ∨ (n ≠ v ∧ (sstN 0 v n cold).2 = (19900, 0)) := by
  by_cases h1 : n = v
  · left; rw [sst_A h1]
  · by_cases h2 : v = 0
    · left; rw [sst_B h1 h2]
    · by_cases h3 : n = 0
      · right; exact ⟨h1, by rw [sst_C h1 h2 h3]⟩
      · left; rw [sst_D h1 h2 h3]
theorem ex85 {I : Ent → Prop} {cb sz : Nat} {T : TypeId} {c : Nat → Value} {K : YK} {V : Vl} {w : YW} {pc gas : Nat} {s mem : List Nat} {M G : List Ent} (h : EI I cb sz c K V pc gas s mem M G) (hR : RJ K V w) (hp1 : pc + 1 < 60000) (hst : K.st = []) (ho : K.code.getD pc 0 = 85) (h2 : 2 ≤ s.length) (hroom : V.sl.length < 1980) (hj : V.jr.length < 59980) (hrf : V.rf ≤ 209600000) :
    CallG Hvaf.prog 121 #[ptr cb 0, .int .u8 ((85 : Nat) : Int)] ⟨I, ⟨cb, sz, T, c⟩ :: (M ++ G)⟩ fun _ S' => ∃ r, OpP cb sz T c K V 0 (DS K w s) 0 3 0 (sstoreN K w s).2.1 (plainN kecN K ⟨pc, gas, s, mem, w⟩ 85) r S' := by
  have hsw := hR.rel.swm (argN s 0)
  have hix := hR.ix
  have hor := hR.rel.sor (argN s 0)
  have hr40 : V.rf < 2 ^ 40 := by omega
  have hw : ∀ plus, (sstoreN K w s).2 = (plus, 0) → (plainN kecN K ⟨pc, gas, s, mem, w⟩ 85).w = stW K { w with ms := warmM (K.self, argN s 0, 0) w.ms } (argN s 0) (argN s 1) plus := by
    intro plus hp
    show wrlN K mem w s 85 = _
    have e : wrlN K mem w s 85 = { w with rf := w.rf - (sstoreN K w s).2.2 + (sstoreN K w s).2.1, ms := warmM (K.self, argN s 0, 0) w.ms, al := putA { getA w.al K.self with slots := storeS (argN s 0) (argN s 1) (decide (argN s 1 = 0)) (getA w.al K.self).slots } w.al } := rfl
    rw [e, hp]; rfl
  rw [sst_3 hR.rel hst] at hw ⊢
  unfold DS
  rw [← hsw]
  cases hwm : (V.slt (argN s 0)).warm with
  | true =>
    rw [hwm] at hw hsw
    rw [warm_same hsw.symm] at hw
    rw [if_pos rfl]
    have hf := is_found hwm
    by_cases hq : argN s 1 = (V.slt (argN s 0)).val
    · rw [sst_A hq] at hw ⊢
      have hR2 := sstA hR hq
      rw [← hw 0 rfl] at hR2
      refine mExOpStorage (by decide) ((OpP.ofSetP h hR2 rfl rfl (σ := plainN kecN K ⟨pc, gas, s, mem, w⟩ 85) (mSs85wA h.eV h.eO hix.1 hix.2 hor h.eS h.eK h.eM hp1 ho h2 hwm hroom hj hq)).mono ?_)
      intro r S' hs hx
      exact hx.wk (by omega) (by omega) (by omega) (by omega) (by omega) (by omega)
    · rcases sst_snd (v := (V.slt (argN s 0)).val) (n := argN s 1) (cold := !true) with hp | ⟨_, hp⟩
      · rw [hp] at hw ⊢
        refine mExOpStorage (by decide) (OpP.ofSetV h rfl (σ := plainN kecN K ⟨pc, gas, s, mem, w⟩ 85) ?_ (mSs85wB h.eV h.eO hix.1 hix.2 hor h.eS h.eK h.eM hp1 ho h2 hwm hroom hj hq hp))
        rintro V' ⟨V1, t2, rfl, rfl⟩
        rw [hw 0 rfl]
        exact ⟨sstB hR t2, ((Gr.refl _).setS _ _ _ _ hf).wk (by omega) (by omega) (by omega) (by omega) (by omega) (by omega)⟩
      · rw [hp] at hw ⊢
        refine mExOpStorage (by decide) (OpP.ofSetV h rfl (σ := plainN kecN K ⟨pc, gas, s, mem, w⟩ 85) ?_ (mSs85wC h.eV h.eO hix.1 hix.2 hor h.eS h.eK h.eM hp1 ho h2 hwm hroom hj hq hp hrf))
        rintro V' ⟨V1, t2, rfl, V2, rfl, rfl⟩
        rw [hw 19900 rfl]
        exact ⟨sstC hR t2 hr40 rfl, (((Gr.refl _).setS _ _ _ _ hf).refund).wk (by omega) (by omega) (by omega) (by omega) (by omega) (by omega)⟩
  | false =>
    rw [hwm] at hw hsw
    rw [if_neg (by decide)]
    by_cases hq : argN s 1 = (V.slt (argN s 0)).val
    · rw [sst_A hq] at hw ⊢
      refine mExOpStorage (by decide) (OpP.ofSetV h rfl (σ := plainN kecN K ⟨pc, gas, s, mem, w⟩ 85) ?_ (mSs85cA h.eV h.eO hix.1 hix.2 hor h.eS h.eK h.eM hp1 ho h2 hwm hroom hj hq))
      rintro V' ⟨t, rfl⟩
      rw [hw 0 rfl]
      exact ⟨sstA (hR.warmS (argN s 0) t) (hq.trans slt_set.symm), ((Gr.refl _).setS1 _ _ _ _).wk (by omega) (by omega) (by omega) (by omega) (by omega) (by omega)⟩
    · rcases sst_snd (v := (V.slt (argN s 0)).val) (n := argN s 1) (cold := !false) with hp | ⟨_, hp⟩
      · rw [hp] at hw ⊢
        refine mExOpStorage (by decide) (OpP.ofSetV h rfl (σ := plainN kecN K ⟨pc, gas, s, mem, w⟩ 85) ?_ (mSs85cB h.eV h.eO hix.1 hix.2 hor h.eS h.eK h.eM hp1 ho h2 hwm hroom hj hq hp))
        rintro V' ⟨t, V1, t2, rfl, rfl⟩
        rw [hw 0 rfl]
        exact ⟨sstB (hR.warmS (argN s 0) t) t2, (((Gr.refl _).setS1 _ _ _ _).setS _ _ _ _ (setS_is (x := { V.slt' (argN s 0) with warm := true }) (V.slt'_key _))).wk (by omega) (by omega) (by omega) (by omega) (by omega) (by omega)⟩
      · rw [hp] at hw ⊢
        refine mExOpStorage (by decide) (OpP.ofSetV h rfl (σ := plainN kecN K ⟨pc, gas, s, mem, w⟩ 85) ?_ (mSs85cC h.eV h.eO hix.1 hix.2 hor h.eS h.eK h.eM hp1 ho h2 hwm hroom hj hq hp hrf))
        rintro V' ⟨t, V1, t2, rfl, V2, rfl, rfl⟩
        rw [hw 19900 rfl]
        exact ⟨sstC (hR.warmS (argN s 0) t) t2 (by rw [(setS_ac V _ _ _ _).2.2.1]; exact hr40) rfl, ((((Gr.refl _).setS1 _ _ _ _).setS _ _ _ _ (setS_is (x := { V.slt' (argN s 0) with warm := true }) (V.slt'_key _))).refund).wk (by omega) (by omega) (by omega) (by omega) (by omega) (by omega)⟩
end Go.Proofs.YgvafwGreat
