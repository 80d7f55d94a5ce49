import Derived.Test.YgvafwGreatR2
import Derived.Test.YgvafwGreatE65
set_option exponentiation.threshold 1000
set_option maxRecDepth 100000
set_option maxHeartbeats 4000000
set_option linter.unusedVariables false
set_option linter.unusedSimpArgs false
-- v2
namespace Go.Proofs.YgvafwGreat
open Go.HL Go.Proofs

theorem RW.putN {K : YK} {V : Vl} {w : YW} (h : RW K V w) (a : List Nat) (n : Nat) (t : Nat → Int) (e : VE) (hA : (getA w.al a).addr = a) : RW K (V.setA a t { V.acc' a with nonce := n } e) { w with al := putA { getA w.al a with nonce := n } w.al } := by
  obtain ⟨e1, e2, e3, e4, e5, e6⟩ := V.acc'_eq a
  have hacc := fun b => setA_acc (V := V) (t := t) (e := e) (x := { V.acc' a with nonce := n }) (V.acc'_ad a) b
  obtain ⟨_, hsl, htp, _, _, _, hrf, hlg⟩ := Ext.ent V a t
  have hs : (V.setA a t { V.acc' a with nonce := n } e).sl = V.sl := by show (V.ent a t).sl = V.sl; unfold Vl.ent; split <;> rfl
  have ht : (V.setA a t { V.acc' a with nonce := n } e).tp = V.tp := by show (V.ent a t).tp = V.tp; unfold Vl.ent; split <;> rfl
  have hg : ∀ b, getA (putA { getA w.al a with nonce := n } w.al) b = if a = b then { getA w.al a with nonce := n } else getA w.al b := fun b => by
    have := getA_put (a := { getA w.al a with nonce := n }) (b := b) (al := w.al)
    rw [this]
    show (if (getA w.al a).addr = b then _ else _) = _
    rw [hA]
  refine ⟨fun b => ?_, fun b => ?_, fun b => ?_, fun k => ?_, fun k => ?_, fun k => ?_, fun k => ?_, by show w.rf = (V.ent a t).rf; rw [hrf]; exact h.rf, by show w.lg = (V.ent a t).lg; rw [hlg]; exact h.lg, x0_set (V.acc'_ad a) h.x0⟩
  · rw [hacc b]
    show (getA (putA { getA w.al a with nonce := n } w.al) b).nonce = _ ∧ (getA (putA { getA w.al a with nonce := n } w.al) b).bal = _ ∧ (getA (putA { getA w.al a with nonce := n } w.al) b).code = _
    rw [hg b]
    by_cases hb : a = b
    · subst hb; rw [if_pos rfl, if_pos rfl]
      have := h.acc a
      rw [← e1, ← e2, ← e3] at this
      refine ⟨?_, ?_, ?_⟩ <;> first | rfl | exact this.2.1 | exact this.2.2
    · rw [if_neg hb, if_neg hb]; exact h.acc b
  · rw [hacc b]
    by_cases hb : a = b
    · subst hb; rw [if_pos rfl]; show (V.acc' a).warm = true ↔ _; rw [e4]; exact h.wrm a
    · rw [if_neg hb]; exact h.wrm b
  · rw [hacc b]
    by_cases hb : a = b
    · subst hb; rw [if_pos rfl]; show ((V.acc' a).made = true ↔ _) ∧ (V.acc' a).gone = false; rw [e5, e6]; exact h.mgn a
    · rw [if_neg hb]; exact h.mgn b
  · rw [Vl.slt_lk, hs]
    have : (getA (putA { getA w.al a with nonce := n } w.al) K.self).slots = (getA w.al K.self).slots := by
      rw [hg]
      by_cases hb : a = K.self
      · rw [if_pos hb, ← hb]
      · rw [if_neg hb]
    show loadS (getA (putA { getA w.al a with nonce := n } w.al) K.self).slots k = _
    rw [this]; exact h.slo k
  · rw [Vl.slt_lk, hs]; exact h.sor k
  · rw [Vl.slt_lk, hs]; exact h.swm k
  · rw [Vl.tmp_lk, ht]; exact h.tmp k
theorem RW.putB {K : YK} {V : Vl} {w : YW} (h : RW K V w) (a : List Nat) (n : Nat) (t : Nat → Int) (e : VE) (hA : (getA w.al a).addr = a) : RW K (V.setA a t { V.acc' a with bal := n } e) { w with al := putA { getA w.al a with bal := n } w.al } := by
  obtain ⟨e1, e2, e3, e4, e5, e6⟩ := V.acc'_eq a
  have hacc := fun b => setA_acc (V := V) (t := t) (e := e) (x := { V.acc' a with bal := n }) (V.acc'_ad a) b
  obtain ⟨_, hsl, htp, _, _, _, hrf, hlg⟩ := Ext.ent V a t
  have hs : (V.setA a t { V.acc' a with bal := n } e).sl = V.sl := by show (V.ent a t).sl = V.sl; unfold Vl.ent; split <;> rfl
  have ht : (V.setA a t { V.acc' a with bal := n } e).tp = V.tp := by show (V.ent a t).tp = V.tp; unfold Vl.ent; split <;> rfl
  have hg : ∀ b, getA (putA { getA w.al a with bal := n } w.al) b = if a = b then { getA w.al a with bal := n } else getA w.al b := fun b => by
    have := getA_put (a := { getA w.al a with bal := n }) (b := b) (al := w.al)
    rw [this]
    show (if (getA w.al a).addr = b then _ else _) = _
    rw [hA]
  refine ⟨fun b => ?_, fun b => ?_, fun b => ?_, fun k => ?_, fun k => ?_, fun k => ?_, fun k => ?_, by show w.rf = (V.ent a t).rf; rw [hrf]; exact h.rf, by show w.lg = (V.ent a t).lg; rw [hlg]; exact h.lg, x0_set (V.acc'_ad a) h.x0⟩
  · rw [hacc b]
    show (getA (putA { getA w.al a with bal := n } w.al) b).nonce = _ ∧ (getA (putA { getA w.al a with bal := n } w.al) b).bal = _ ∧ (getA (putA { getA w.al a with bal := n } w.al) b).code = _
    rw [hg b]
    by_cases hb : a = b
    · subst hb; rw [if_pos rfl, if_pos rfl]
      have := h.acc a
      rw [← e1, ← e2, ← e3] at this
      refine ⟨?_, ?_, ?_⟩ <;> first | rfl | exact this.1 | exact this.2.2
    · rw [if_neg hb, if_neg hb]; exact h.acc b
  · rw [hacc b]
    by_cases hb : a = b
    · subst hb; rw [if_pos rfl]; show (V.acc' a).warm = true ↔ _; rw [e4]; exact h.wrm a
    · rw [if_neg hb]; exact h.wrm b
  · rw [hacc b]
    by_cases hb : a = b
    · subst hb; rw [if_pos rfl]; show ((V.acc' a).made = true ↔ _) ∧ (V.acc' a).gone = false; rw [e5, e6]; exact h.mgn a
    · rw [if_neg hb]; exact h.mgn b
  · rw [Vl.slt_lk, hs]
    have : (getA (putA { getA w.al a with bal := n } w.al) K.self).slots = (getA w.al K.self).slots := by
      rw [hg]
      by_cases hb : a = K.self
      · rw [if_pos hb, ← hb]
      · rw [if_neg hb]
    show loadS (getA (putA { getA w.al a with bal := n } w.al) K.self).slots k = _
    rw [this]; exact h.slo k
  · rw [Vl.slt_lk, hs]; exact h.sor k
  · rw [Vl.slt_lk, hs]; exact h.swm k
  · rw [Vl.tmp_lk, ht]; exact h.tmp k
/-- The vault amid the opening of a transaction. -/
structure VQ (K : YK) (V : Vl) (w : YW) (k : Nat) : Prop where
  ok : VOk V
  rw : RW K V w
  nm : V.nm = 0
  jl : V.jr.length = k
  al : V.ac.length ≤ 2 + k
  sl : V.sl = []
  tp : V.tp = []
  jx : ∀ e ∈ V.jr, e.kd = 6 → e.n < 2 ^ 40
theorem VQ.set {K : YK} {V : Vl} {w w' : YW} {k : Nat} {a : List Nat} {t : Nat → Int} {x : VA} {e : VE} (h : VQ K V w k) (hO : VOk (V.setA a t x e)) (hR : RW K (V.setA a t x e) w') (he : e.kd ≠ 6) : VQ K (V.setA a t x e) w' (k + 1) := by
  obtain ⟨⟨X, hX, _⟩, _, _, _, hnm, _⟩ := Ext.ent V a t
  refine ⟨hO, hR, by show (V.ent a t).nm = 0; rw [hnm]; exact h.nm, ?_, ?_, ?_, ?_, ?_⟩
  · show (V.jr ++ [e]).length = k + 1
    rw [List.length_append, h.jl]; rfl
  · show ((V.ent a t).ac.set _ x).length ≤ _
    rw [List.length_set]
    have := h.al
    unfold Vl.ent
    split
    · omega
    · show (V.ac ++ [newA a]).length ≤ _
      rw [List.length_append, List.length_singleton]; omega
  · show (V.ent a t).sl = []
    rw [← h.sl]; unfold Vl.ent; split <;> rfl
  · show (V.ent a t).tp = []
    rw [← h.tp]; unfold Vl.ent; split <;> rfl
  · intro y hy
    have hy : y ∈ V.jr ++ [e] := hy
    rcases List.mem_append.1 hy with h' | h'
    · exact h.jx y h'
    · rw [List.mem_singleton.1 h']; exact fun hk => absurd hk he
section
variable {I : Ent → Prop} {G : List Ent} {cb sz k : Nat} {T : TypeId} {c : Nat → Value} {K : YK} {V : Vl} {w : YW} {a : List Nat}
/-- What a change of an account leaves. -/
def SetQ (I : Ent → Prop) (cb sz : Nat) (T : TypeId) (c : Nat → Value) (K : YK) (w' : YW) (k : Nat) (S' : St) : Prop := ∃ c' G' V', S' = ⟨I, ⟨cb, sz, T, c'⟩ :: G'⟩ ∧ VI I c' V' G' ∧ VQ K V' w' k ∧ Out c c'
theorem vPutNonceQ {n : Nat} (hsz : 27019 ≤ sz) (hV : VI I c V G) (hQ : VQ K V w k) (ha : AdOk a) (hk : k < 100) (hn : n < 18446744073709551616) (hA : (getA w.al a).addr = a) :
    CallG Hvaf.prog 106 #[ptr cb 2435, bytesV a, .int .u64 (n : Nat)] ⟨I, ⟨cb, sz, T, c⟩ :: G⟩ fun r S' => r = .bool true ∧ SetQ I cb sz T c K { w with al := putA { getA w.al a with nonce := n } w.al } (k + 1) S' := by
  have h1 := hQ.al
  have h2 := hQ.jl
  refine (vPutNonce (R := []) hsz hV hQ.ok ha (by omega) (by omega) hn).mono ?_
  rintro r S' - ⟨h3, c', G', t, h4, h5, h6, h7⟩
  exact ⟨h3, c', G', _, h4, h5, hQ.set h6 (hQ.rw.putN a n t _ hA) (by simp), h7⟩
theorem vPutBalQ {n : Nat} (hsz : 27019 ≤ sz) (hV : VI I c V G) (hQ : VQ K V w k) (ha : AdOk a) (hk : k < 100) (hn : n < 115792089237316195423570985008687907853269984665640564039457584007913129639936) (hA : (getA w.al a).addr = a) :
    CallG Hvaf.prog 107 #[ptr cb 2435, bytesV a, wordV n] ⟨I, ⟨cb, sz, T, c⟩ :: G⟩ fun r S' => r = .bool true ∧ SetQ I cb sz T c K { w with al := putA { getA w.al a with bal := n } w.al } (k + 1) S' := by
  have h1 := hQ.al
  have h2 := hQ.jl
  refine (vPutBalance (R := []) hsz hV hQ.ok ha (by omega) (by omega) hn).mono ?_
  rintro r S' - ⟨h3, c', G', t, h4, h5, h6, h7⟩
  exact ⟨h3, c', G', _, h4, h5, hQ.set h6 (hQ.rw.putB a n t _ hA) (by simp), h7⟩
theorem eWarmQ (hsz : 27019 ≤ sz) (hV : VI I c V G) (hQ : VQ K V w k) (ha : AdOk a) (hk : k < 100) (hw : a ∉ w.wa) :
    CallG Hvaf.prog 110 #[ptr cb 2435, bytesV a] ⟨I, ⟨cb, sz, T, c⟩ :: G⟩ fun r S' => SetQ I cb sz T c K { w with wa := withA a w.wa } (k + 1) S' := by
  have h1 := hQ.al
  have h2 := hQ.jl
  have h3 : (V.acc a).warm = false := by
    cases hc : (V.acc a).warm with
    | false => rfl
    | true => exact absurd ((hQ.rw.wrm a).1 hc) hw
  refine (eWarm (R := []) hsz hV hQ.ok ha (by omega) (by omega) h3).mono ?_
  rintro r S' - ⟨c', G', t, h4, h5, h6, h7⟩
  exact ⟨c', G', _, h4, h5, hQ.set h6 (hQ.rw.warmA a t _) (by simp), h7⟩
end
end Go.Proofs.YgvafwGreat
