import Derived.Test.YgvafwGreatE53
set_option exponentiation.threshold 1000
set_option maxRecDepth 100000
set_option maxHeartbeats 4000000
set_option linter.unusedVariables false
set_option linter.unusedSimpArgs false
-- v2
-- v4
-- v5
-- v6
-- v7
namespace Go.Proofs.YgvafwGreat
open Go.HL Go.Proofs
/-- The refund counter on its own, on both sides. -/
theorem RW.setRf {K : YK} {V : Vl} {w : YW} (h : RW K V w) (n : Nat) (hn : n = V.rf) : RW K V { w with rf := n } := ⟨h.acc, h.wrm, h.mgn, h.slo, h.sor, h.swm, h.tmp, hn, h.lg, h.x0⟩
theorem getA_addr (al : List YA) (a : List Nat) (h : ∀ x ∈ al, True) : (getA al a).addr = a := by
  unfold getA
  cases hf : al.find? (fun x => x.addr == a) with
  | none => rfl
  | some y => have := List.find?_some hf; simpa using this
/-- A value stored that stands there already. -/
theorem RW.storeS {K : YK} {V : Vl} {w : YW} (h : RW K V w) {k v : Nat} (hv : v = (V.slt k).val) : RW K V { w with al := putA { getA w.al K.self with slots := Go.Proofs.YgvafwGreat.storeS k v (decide (v = 0)) (getA w.al K.self).slots } w.al } := by
  have hK : (getA w.al K.self).addr = K.self := getA_addr _ _ (fun _ _ => trivial)
  have hg := fun b => getA_put (a := { getA w.al K.self with slots := Go.Proofs.YgvafwGreat.storeS k v (decide (v = 0)) (getA w.al K.self).slots }) (b := b) (al := w.al)
  refine ⟨fun b => ?_, h.wrm, h.mgn, fun j => ?_, h.sor, h.swm, h.tmp, h.rf, h.lg, h.x0⟩
  · show (getA (putA _ w.al) b).nonce = _ ∧ (getA (putA _ w.al) b).bal = _ ∧ (getA (putA _ w.al) b).code = _
    rw [hg b]
    by_cases hb : (getA w.al K.self).addr = b
    · rw [if_pos hb]; rw [hK] at hb; subst hb; exact h.acc _
    · rw [if_neg hb]; exact h.acc b
  · show loadS (getA (putA _ w.al) K.self).slots j = _
    rw [hg K.self, if_pos hK]
    show loadS (Go.Proofs.YgvafwGreat.storeS k v (decide (v = 0)) (getA w.al K.self).slots) j = _
    rw [load_store]
    by_cases hb : k = j
    · rw [if_pos hb, hv, hb]
    · rw [if_neg hb]; exact h.slo j
theorem warmM_id {K : YK} {w : YW} {k : Nat} (h : (findT K.self k w.ms).isSome = true) : ({ w with ms := warmM (K.self, k, 0) w.ms } : YW) = w := by rw [warm_same h]
/-- Growth, step by step. -/
theorem Gr.setS {V W : Vl} {a b d e f g : Nat} (h : Gr V W a b d e f g) (k : Nat) (t : Nat → Int) (x : VSl) (y : VE) (hf : W.is k < W.sl.length) : Gr V (W.setS k t x y) a b d (e + 1) f g := by
  have l1 := setS_len W k t x y
  have l2 := setS_ac W k t x y
  exact ⟨by rw [l2.1]; exact h.ga, by rw [setS_same hf]; exact h.gs, by rw [l2.2.1]; exact h.gt, by rw [l1.2]; have := h.gj; omega, by rw [l2.2.2.2]; exact h.gl, by rw [l2.2.2.1]; exact h.gr⟩
theorem Gr.setS1 {V W : Vl} {a b d e f g : Nat} (h : Gr V W a b d e f g) (k : Nat) (t : Nat → Int) (x : VSl) (y : VE) : Gr V (W.setS k t x y) a (b + 1) d (e + 1) f g := by
  have l1 := setS_len W k t x y
  have l2 := setS_ac W k t x y
  exact ⟨by rw [l2.1]; exact h.ga, by have := h.gs; have := l1.1; omega, by rw [l2.2.1]; exact h.gt, by rw [l1.2]; have := h.gj; omega, by rw [l2.2.2.2]; exact h.gl, by rw [l2.2.2.1]; exact h.gr⟩
theorem Gr.refund {V W : Vl} {a b d e f g : Nat} (h : Gr V W a b d e f g) : Gr V { W with jr := W.jr ++ [⟨6, 0, W.rf, 0, false⟩], rf := W.rf + 19900 } a b d (e + 1) f (g + 19900) := by
  refine ⟨h.ga, h.gs, h.gt, ?_, h.gl, ?_⟩
  · show (W.jr ++ [_]).length ≤ _; have := h.gj; simp; omega
  · show W.rf + 19900 ≤ _; have := h.gr; omega
theorem Gr.wk {V W : Vl} {a b d e f g a' b' d' e' f' g' : Nat} (h : Gr V W a b d e f g) (h1 : a ≤ a') (h2 : b ≤ b') (h3 : d ≤ d') (h4 : e ≤ e') (h5 : f ≤ f') (h6 : g ≤ g') : Gr V W a' b' d' e' f' g' :=
  ⟨by have := h.ga; omega, by have := h.gs; omega, by have := h.gt; omega, by have := h.gj; omega, by have := h.gl; omega, by have := h.gr; omega⟩
theorem setS_is {V : Vl} {k : Nat} {t : Nat → Int} {x : VSl} {e : VE} (hx : x.key = k) : (V.setS k t x e).is k < (V.setS k t x e).sl.length := by
  have h := (V.ens_sl k t).1
  rcases Nat.lt_or_ge ((V.setS k t x e).is k) (V.setS k t x e).sl.length with hc | hc
  · exact hc
  · exfalso
    have hmem : x ∈ (V.setS k t x e).sl := by
      show x ∈ (V.ens k t).sl.set (V.is k) x
      exact List.mem_set h x
    have : ((V.setS k t x e).sl.findIdx fun y => y.key == k) < (V.setS k t x e).sl.length := List.findIdx_lt_length_of_exists ⟨x, hmem, by simp [hx]⟩
    exact absurd this (by show ¬ (V.setS k t x e).is k < _; omega)
theorem slt_set {V : Vl} {k : Nat} {t : Nat → Int} {e : VE} : ((V.setS k t { V.slt' k with warm := true } e).slt k).val = (V.slt k).val := by
  rw [setS_slt (x := { V.slt' k with warm := true }) (V.slt'_key k), if_pos rfl]
  exact (V.slt'_eq k).1
end Go.Proofs.YgvafwGreat
