import Derived.Test.YgvafwGreatR3
import Derived.Test.YgvafwGreatR2
import Derived.Test.YgvafwGreatE57
import Derived.Test.YgvafwGreatS2
set_option exponentiation.threshold 1000
set_option maxRecDepth 100000
set_option maxHeartbeats 4000000
set_option linter.unusedVariables false
set_option linter.unusedSimpArgs false
-- v2
namespace Go.Proofs.YgvafwGreat
open Go.HL Go.Proofs

theorem undo_nm (V : Vl) (e : VE) (k : Nat) : undo1 { V with nm := k } e = { undo1 V e with nm := k } := by
  unfold undo1; repeat (first | split | rfl)
theorem pop_nm (V : Vl) (k : Nat) : pop1 { V with nm := k } = { pop1 V with nm := k } := by
  show ({ undo1 { V with nm := k } (V.jr.getD (V.jr.length - 1) dVE) with jr := V.jr.dropLast } : Vl) = _
  rw [undo_nm]; rfl
theorem popN_nm : ∀ (n : Nat) (V : Vl) (k : Nat), popN n { V with nm := k } = { popN n V with nm := k }
  | 0, V, k => rfl
  | n + 1, V, k => by
    show popN n (pop1 { V with nm := k }) = _
    rw [pop_nm, popN_nm n]; rfl
theorem PopOk_nm : ∀ (n : Nat) (V : Vl) (k : Nat), PopOk n V → PopOk n { V with nm := k }
  | 0, _, _, _ => trivial
  | n + 1, V, k, h => by
    refine ⟨{ h.1 with }, ?_⟩
    rw [pop_nm]; exact PopOk_nm n _ k h.2
theorem RJ0.marks {K : YK} {V : Vl} {w : YW} (h : RJ0 K V w) (k : Nat) : RJ0 K { V with nm := k } w :=
  ⟨h.rel.nm k, h.mq, PopOk_nm _ _ _ h.pk, by
    show RW K (popN (V.jr.length - V.mq) { V with nm := k }) _
    rw [popN_nm]; exact h.bk.nm k, h.jx⟩
theorem pop_putN {V : Vl} {a : List Nat} {t : Nat → Int} {n : Nat} : pop1 (V.setA a t { V.acc' a with nonce := n } ⟨1, V.ix a, (V.acc' a).nonce, 0, false⟩) = V.ent a t := by
  obtain ⟨h1, h2⟩ := V.ent_ac a t
  unfold pop1
  have hj : (V.setA a t { V.acc' a with nonce := n } ⟨1, V.ix a, (V.acc' a).nonce, 0, false⟩).jr = V.jr ++ [⟨1, V.ix a, (V.acc' a).nonce, 0, false⟩] := rfl
  rw [hj, jr_last.1, jr_last.2]
  refine vl_ext ?_ rfl (Ext.ent V a t).jr.symm rfl rfl rfl rfl rfl rfl rfl rfl
  show ((V.ent a t).ac.set (V.ix a) _).set (V.ix a) { ((V.ent a t).ac.set (V.ix a) _).getD (V.ix a) dVA with nonce := (V.acc' a).nonce } = (V.ent a t).ac
  rw [set_get h1, set_set_same (d := dVA) h1 (by rw [h2])]
theorem pop_made {V : Vl} {a : List Nat} {t : Nat → Int} {n : Nat} : pop1 (V.setA a t { V.acc' a with made := true } ⟨9, V.ix a, 0, 0, (V.acc' a).made⟩) = V.ent a t := by
  obtain ⟨h1, h2⟩ := V.ent_ac a t
  unfold pop1
  have hj : (V.setA a t { V.acc' a with made := true } ⟨9, V.ix a, 0, 0, (V.acc' a).made⟩).jr = V.jr ++ [⟨9, V.ix a, 0, 0, (V.acc' a).made⟩] := rfl
  rw [hj, jr_last.1, jr_last.2]
  refine vl_ext ?_ rfl (Ext.ent V a t).jr.symm rfl rfl rfl rfl rfl rfl rfl rfl
  show ((V.ent a t).ac.set (V.ix a) _).set (V.ix a) { ((V.ent a t).ac.set (V.ix a) _).getD (V.ix a) dVA with made := (V.acc' a).made } = (V.ent a t).ac
  rw [set_get h1, set_set_same (d := dVA) h1 (by rw [h2])]
theorem RW.mkMade {K : YK} {V : Vl} {w : YW} (h : RW K V w) (a : List Nat) (t : Nat → Int) (e : VE) : RW K (V.setA a t { V.acc' a with made := true } e) { w with md := withA a w.md } := by
  obtain ⟨e1, e2, e3, e4, e5, e6⟩ := V.acc'_eq a
  have hacc := fun b => setA_acc (V := V) (t := t) (e := e) (x := { V.acc' a with made := true }) (V.acc'_ad a) b
  obtain ⟨_, hsl, htp, _, _, _, hrf, hlg⟩ := Ext.ent V a t
  have hs : (V.setA a t { V.acc' a with made := true } e).sl = V.sl := by show (V.ent a t).sl = V.sl; unfold Vl.ent; split <;> rfl
  have ht : (V.setA a t { V.acc' a with made := true } e).tp = V.tp := by show (V.ent a t).tp = V.tp; unfold Vl.ent; split <;> rfl
  refine ⟨fun b => ?_, fun b => ?_, fun b => ?_, fun k => ?_, fun k => ?_, fun k => ?_, fun k => ?_, by show w.rf = (V.ent a t).rf; rw [hrf]; exact h.rf, by show w.lg = (V.ent a t).lg; rw [hlg]; exact h.lg, x0_set (V.acc'_ad a) h.x0⟩
  · rw [hacc b]
    by_cases hb : a = b
    · subst hb; rw [if_pos rfl]; show _ = (V.acc' a).nonce ∧ _ = (V.acc' a).bal ∧ _ = (V.acc' a).code; rw [e1, e2, e3]; exact h.acc a
    · rw [if_neg hb]; exact h.acc b
  · rw [hacc b]
    by_cases hb : a = b
    · subst hb; rw [if_pos rfl]; show (V.acc' a).warm = true ↔ _; rw [e4]; exact h.wrm a
    · rw [if_neg hb]; exact h.wrm b
  · rw [hacc b]
    show (_ ↔ b ∈ withA a w.md) ∧ _
    rw [mem_withA]
    by_cases hb : a = b
    · subst hb; rw [if_pos rfl]; show (true = true ↔ _) ∧ (V.acc' a).gone = false; rw [e6]; exact ⟨by simp, (h.mgn a).2⟩
    · rw [if_neg hb, (h.mgn b).1]; exact ⟨by simp [Ne.symm hb], (h.mgn b).2⟩
  · rw [Vl.slt_lk, hs]; exact h.slo k
  · rw [Vl.slt_lk, hs]; exact h.sor k
  · rw [Vl.slt_lk, hs]; exact h.swm k
  · rw [Vl.tmp_lk, ht]; exact h.tmp k
theorem RJ0.warmA {K : YK} {V : Vl} {w : YW} (h : RJ0 K V w) (a : List Nat) (t : Nat → Int) : RJ0 K (V.setA a t { V.acc' a with warm := true } ⟨4, V.ix a, 0, 0, (V.acc' a).warm⟩) { w with wa := withA a w.wa } := by
  refine h.push (h.rel.warmA a t _) (Ext.ent V a t).mq rfl ⟨by simp, fun _ => ?_, by simp, by simp, by simp⟩ (by rw [pop_warmA]; exact Ext.ent V a t) (by simp)
  show V.ix a < ((V.ent a t).ac.set _ _).length
  rw [List.length_set]; exact (V.ent_ac a t).1
theorem RJ0.putN {K : YK} {V : Vl} {w : YW} (h : RJ0 K V w) (a : List Nat) (n : Nat) (t : Nat → Int) (hA : (getA w.al a).addr = a) : RJ0 K (V.setA a t { V.acc' a with nonce := n } ⟨1, V.ix a, (V.acc' a).nonce, 0, false⟩) { w with al := putA { getA w.al a with nonce := n } w.al } := by
  refine h.push (h.rel.putN a n t _ hA) (Ext.ent V a t).mq rfl ⟨by simp, fun _ => ?_, by simp, by simp, by simp⟩ (by rw [pop_putN]; exact Ext.ent V a t) (by simp)
  show V.ix a < ((V.ent a t).ac.set _ _).length
  rw [List.length_set]; exact (V.ent_ac a t).1
theorem RJ0.made {K : YK} {V : Vl} {w : YW} (h : RJ0 K V w) (a : List Nat) (t : Nat → Int) : RJ0 K (V.setA a t { V.acc' a with made := true } ⟨9, V.ix a, 0, 0, (V.acc' a).made⟩) { w with md := withA a w.md } := by
  refine h.push (h.rel.mkMade a t _) (Ext.ent V a t).mq rfl ⟨by simp, fun _ => ?_, by simp, by simp, by simp⟩ (by rw [pop_made (n := 0)]; exact Ext.ent V a t) (by simp)
  show V.ix a < ((V.ent a t).ac.set _ _).length
  rw [List.length_set]; exact (V.ent_ac a t).1
end Go.Proofs.YgvafwGreat
