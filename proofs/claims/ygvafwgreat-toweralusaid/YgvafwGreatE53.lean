import Derived.Test.YgvafwGreatE52
import Derived.Test.YgvafwGreatE32
import Derived.Test.YgvafwGreatE36
import Derived.Test.YgvafwGreatE34
import Derived.Test.YgvafwGreatE35
set_option exponentiation.threshold 1000
set_option maxRecDepth 100000
set_option maxHeartbeats 4000000
set_option linter.unusedVariables false
set_option linter.unusedSimpArgs false
-- v2
-- v4
-- v5
-- v6
-- v7
namespace Go.Proofs.YgvafwGreat
open Go.HL Go.Proofs
theorem RJ.setW {K : YK} {V : Vl} {w w' : YW} (h : RJ K V w) (h' : RW K V w') (h9 : w'.md = w.md := by rfl) : RJ K V w' := ⟨⟨h', h.mq, h.pk, h.bk, h.jx⟩, by rw [h9]; exact h.nm⟩
theorem setA_len (V : Vl) (a : List Nat) (t : Nat → Int) (x : VA) (e : VE) : (V.setA a t x e).ac.length ≤ V.ac.length + 1 ∧ (V.setA a t x e).jr.length = V.jr.length + 1 ∧ (V.setA a t x e).sl = V.sl ∧ (V.setA a t x e).tp = V.tp ∧ (V.setA a t x e).lg = V.lg ∧ (V.setA a t x e).rf = V.rf := by
  refine ⟨?_, by show (V.jr ++ [e]).length = _; simp, ?_, ?_, ?_, ?_⟩
  · show ((V.ent a t).ac.set _ _).length ≤ _
    rw [List.length_set]; unfold Vl.ent; split
    · omega
    · simp
  all_goals (show _ = _; unfold Vl.setA Vl.ent; split <;> rfl)
/-- An account made warm, on both sides. -/
theorem wmRJ {K : YK} {V V' : Vl} {w : YW} {a : List Nat} (hR : RJ K V w) (h : WmP V a V') : RJ K V' { w with wa := withA a w.wa } ∧ Gr V V' (if a ∈ w.wa then 0 else 1) 0 0 (if a ∈ w.wa then 0 else 1) 0 0 := by
  rcases h with ⟨h1, rfl⟩ | ⟨h1, t, rfl⟩
  · have hm : a ∈ w.wa := (hR.rel.wrm a).1 h1
    have e : withA a w.wa = w.wa := by unfold withA; rw [if_pos hm]
    rw [e, if_pos hm]
    exact ⟨hR, Gr.refl _⟩
  · have hm : ¬ a ∈ w.wa := fun hc => by rw [(hR.rel.wrm a).2 hc] at h1; exact absurd h1 (by decide)
    rw [if_neg hm]
    obtain ⟨l1, l2, l3, l4, l5, l6⟩ := setA_len V a t { V.acc' a with warm := true } ⟨4, V.ix a, 0, 0, (V.acc' a).warm⟩
    exact ⟨hR.warmA a t, ⟨l1, by rw [l3]; omega, by rw [l4]; omega, by rw [l2]; omega, by rw [l5]; omega, by rw [l6]; omega⟩⟩
theorem ex71 {I : Ent → Prop} {cb sz : Nat} {T : TypeId} {c : Nat → Value} {K : YK} {V : Vl} {w : YW} {pc gas : Nat} {s mem : List Nat} {M G : List Ent} (h : EI I cb sz c K V pc gas s mem M G) (hR : RJ K V w) (hp1 : pc + 1 < 60000) (ho : K.code.getD pc 0 = 71) (h64 : s.length < 64) : CallG Hvaf.prog 121 #[ptr cb 0, .int .u8 ((71 : Nat) : Int)] ⟨I, ⟨cb, sz, T, c⟩ :: (M ++ G)⟩ fun _ S' => ∃ r, OpP cb sz T c K V 0 0 0 0 0 0 (plainN kecN K ⟨pc, gas, s, mem, w⟩ 71) r S' := by
  have hv : (getA w.al K.self).bal = (V.acc K.self).bal := (hR.rel.acc K.self).2.1
  exact mExOpSurround (by decide) (OpP.ofSetP2 h hR rfl rfl (σ := plainN kecN K ⟨pc, gas, s, mem, w⟩ 71) rfl rfl (t0 (s := s) hv) (mSu71 h.eV h.eO (Vl.acc_lt h.eO _).1 h.eS h.eK h.eM hp1 ho h64))
theorem ex49 {I : Ent → Prop} {cb sz : Nat} {T : TypeId} {c : Nat → Value} {K : YK} {V : Vl} {w : YW} {pc gas : Nat} {s mem : List Nat} {M G : List Ent} (h : EI I cb sz c K V pc gas s mem M G) (hR : RJ K V w) (hp1 : pc + 1 < 60000) (ho : K.code.getD pc 0 = 49) (h1 : 1 ≤ s.length) (hroom : V.ac.length < 1990) (hj : V.jr.length < 59990) : CallG Hvaf.prog 121 #[ptr cb 0, .int .u8 ((49 : Nat) : Int)] ⟨I, ⟨cb, sz, T, c⟩ :: (M ++ G)⟩ fun _ S' => ∃ r, OpP cb sz T c K V (if adN (argN s 0) ∈ w.wa then 0 else 1) 0 0 (if adN (argN s 0) ∈ w.wa then 0 else 1) 0 0 (plainN kecN K ⟨pc, gas, s, mem, w⟩ 49) r S' := by
  have hs : (plainN kecN K ⟨pc, gas, s, mem, w⟩ 49).s = s.take (s.length - 1) ++ [(V.acc (adN (argN s 0))).bal] := by
    show s.take (s.length - 1) ++ [(getA w.al (adN (argN s 0))).bal] = _
    rw [(hR.rel.acc _).2.1]
  refine mExOpAccount (by decide) (OpP.ofSetK h rfl (σ := plainN kecN K ⟨pc, gas, s, mem, w⟩ 49) (P := WmP V (adN (argN s 0))) (fun V' hV' => wmRJ hR hV') ?_)
  rw [hs]
  exact mAc49 h.eV h.eO h.eS h.eK h.eM hp1 ho h1 hroom hj
theorem ex59 {I : Ent → Prop} {cb sz : Nat} {T : TypeId} {c : Nat → Value} {K : YK} {V : Vl} {w : YW} {pc gas : Nat} {s mem : List Nat} {M G : List Ent} (h : EI I cb sz c K V pc gas s mem M G) (hR : RJ K V w) (hp1 : pc + 1 < 60000) (ho : K.code.getD pc 0 = 59) (h1 : 1 ≤ s.length) (hroom : V.ac.length < 1990) (hj : V.jr.length < 59990) : CallG Hvaf.prog 121 #[ptr cb 0, .int .u8 ((59 : Nat) : Int)] ⟨I, ⟨cb, sz, T, c⟩ :: (M ++ G)⟩ fun _ S' => ∃ r, OpP cb sz T c K V (if adN (argN s 0) ∈ w.wa then 0 else 1) 0 0 (if adN (argN s 0) ∈ w.wa then 0 else 1) 0 0 (plainN kecN K ⟨pc, gas, s, mem, w⟩ 59) r S' := by
  have hs : (plainN kecN K ⟨pc, gas, s, mem, w⟩ 59).s = s.take (s.length - 1) ++ [(V.acc (adN (argN s 0))).code.length] := by
    show s.take (s.length - 1) ++ [(getA w.al (adN (argN s 0))).code.length] = _
    rw [(hR.rel.acc _).2.2]
  refine mExOpAccount (by decide) (OpP.ofSetK h rfl (σ := plainN kecN K ⟨pc, gas, s, mem, w⟩ 59) (P := WmP V (adN (argN s 0))) (fun V' hV' => wmRJ hR hV') ?_)
  rw [hs]
  exact mAc59 h.eV h.eO h.eS h.eK h.eM hp1 ho h1 hroom hj
theorem emp_eq {K : YK} {V : Vl} {w : YW} (h : RW K V w) (a : List Nat) : emptyA (getA w.al a) = emptyV (V.acc a) := by
  unfold emptyA emptyV; rw [(h.acc a).1, (h.acc a).2.1, (h.acc a).2.2]
theorem ex63 {I : Ent → Prop} {cb sz : Nat} {T : TypeId} {c : Nat → Value} {K : YK} {V : Vl} {w : YW} {pc gas : Nat} {s mem : List Nat} {M G : List Ent} (h : EI I cb sz c K V pc gas s mem M G) (hR : RJ K V w) (hp1 : pc + 1 < 60000) (ho : K.code.getD pc 0 = 63) (h1 : 1 ≤ s.length) (hroom : V.ac.length < 1990) (hj : V.jr.length < 59990) : CallG Hvaf.prog 121 #[ptr cb 0, .int .u8 ((63 : Nat) : Int)] ⟨I, ⟨cb, sz, T, c⟩ :: (M ++ G)⟩ fun _ S' => ∃ r, OpP cb sz T c K V (if adN (argN s 0) ∈ w.wa then 0 else 1) 0 0 (if adN (argN s 0) ∈ w.wa then 0 else 1) 0 0 (plainN kecN K ⟨pc, gas, s, mem, w⟩ 63) r S' := by
  refine mExOpAccount (by decide) (OpP.ofSetK h rfl (σ := plainN kecN K ⟨pc, gas, s, mem, w⟩ 63) (P := WmP V (adN (argN s 0))) (fun V' hV' => wmRJ hR hV') ?_)
  have hv : (plainN kecN K ⟨pc, gas, s, mem, w⟩ 63).s = s.take (s.length - 1) ++ [if emptyA (getA w.al (adN (argN s 0))) = true then 0 else bev (kecN (getA w.al (adN (argN s 0))).code)] := rfl
  rw [hv, emp_eq hR.rel, (hR.rel.acc _).2.2]
  cases he : emptyV (V.acc (adN (argN s 0))) with
  | true => rw [if_pos rfl]; exact mAc63e h.eV h.eO h.eS h.eK h.eM hp1 ho h1 hroom hj he
  | false => rw [if_neg (by decide)]; exact mAc63n h.eV h.eO h.eS h.eK h.eM hp1 ho h1 hroom hj he
theorem ex60 {I : Ent → Prop} {cb sz : Nat} {T : TypeId} {c : Nat → Value} {K : YK} {V : Vl} {w : YW} {pc gas : Nat} {s mem : List Nat} {M G : List Ent} (h : EI I cb sz c K V pc gas s mem M G) (hR : RJ K V w) (hp1 : pc + 1 < 60000) (ho : K.code.getD pc 0 = 60) (h4 : 4 ≤ s.length) (hroom : V.ac.length < 1990) (hj : V.jr.length < 59990) (hin : reachN s 60 ≤ mem.length) : CallG Hvaf.prog 121 #[ptr cb 0, .int .u8 ((60 : Nat) : Int)] ⟨I, ⟨cb, sz, T, c⟩ :: (M ++ G)⟩ fun _ S' => ∃ r, OpP cb sz T c K V (if adN (argN s 0) ∈ w.wa then 0 else 1) 0 0 (if adN (argN s 0) ∈ w.wa then 0 else 1) 0 0 (plainN kecN K ⟨pc, gas, s, mem, w⟩ 60) r S' := by
  by_cases hz : argN s 3 = 0
  · have hm : (plainN kecN K ⟨pc, gas, s, mem, w⟩ 60).mem = mem := by
      show cpyL mem _ (argN s 1) (argN s 2) (argN s 3) = mem
      unfold cpyL; rw [if_pos hz]
    exact mExOpCopy (by decide) (OpP.ofSetK h hm (σ := plainN kecN K ⟨pc, gas, s, mem, w⟩ 60) (P := WmP V (adN (argN s 0))) (fun V' hV' => wmRJ hR hV') (mCp60z h.eV h.eO h.eS h.eK h.eM hp1 ho h4 hroom hj hz))
  · have hm : (plainN kecN K ⟨pc, gas, s, mem, w⟩ 60).mem = writeL mem (argN s 1) (cutL (V.acc (adN (argN s 0))).code (argN s 2) (argN s 3)) := by
      show cpyL mem (getA w.al (adN (argN s 0))).code (argN s 1) (argN s 2) (argN s 3) = _
      unfold cpyL; rw [if_neg hz, (hR.rel.acc _).2.2]
    have hin2 : argN s 1 + argN s 3 ≤ mem.length := (end_in hin).resolve_left hz
    have hc8 : ∀ d ∈ (V.acc (adN (argN s 0))).code, d < 256 := by
      rcases lk_mem VA.ad dVA (adN (argN s 0)) V.ac with ⟨q1, _⟩ | q1
      · exact (h.eV.cd _ q1).1
      · rw [Vl.acc_lk, q1]; intro d hd; simp at hd
    obtain ⟨b, cap, cm, b1, b2, rfl, b4⟩ := h.eA.blk (by omega)
    refine mExOpCopy (by decide) ((mCp60 h.eV h.eO h.eS h.eA b1 b2 b4 h.eK h.eM hp1 ho h4 hroom hj hz hin2).mono ?_)
    rintro r S' hs ⟨J, c', G', V', cm', rfl, k1, k2, k3, k4, k5, k6⟩
    obtain ⟨q1, q2⟩ := wmRJ hR k5
    have hA2 : ArI c' (plainN kecN K ⟨pc, gas, s, mem, w⟩ 60).mem [⟨b, mulS cap 1, 5, cm'⟩] := h.eA.write b1 b2 ⟨k2 1 (by omega) (by decide) (by decide) (by decide), k2 2 (by omega) (by decide) (by decide) (by decide), k2 3 (by omega) (by decide) (by decide) (by decide), k2 10 (by omega) (by decide) (by decide) (by decide)⟩ (by rw [hm]; exact writeL_len' _ _ _) (by rw [hm]; exact writeL_lt h.eA.bf.b8 (cutL_lt hc8 _ _)) (by rw [hm]; exact k6)
    exact ⟨J, c', V', [⟨b, mulS cap 1, 5, cm'⟩], G', rfl, h.moveV hs (KeepC.stkv k2) k1 hA2 k3 k4 q1, q1, KeepC.stkv k2, q2⟩
theorem ex92 {I : Ent → Prop} {cb sz : Nat} {T : TypeId} {c : Nat → Value} {K : YK} {V : Vl} {w : YW} {pc gas : Nat} {s mem : List Nat} {M G : List Ent} (h : EI I cb sz c K V pc gas s mem M G) (hR : RJ K V w) (hp1 : pc + 1 < 60000) (ho : K.code.getD pc 0 = 92) (h1 : 1 ≤ s.length) : CallG Hvaf.prog 121 #[ptr cb 0, .int .u8 ((92 : Nat) : Int)] ⟨I, ⟨cb, sz, T, c⟩ :: (M ++ G)⟩ fun _ S' => ∃ r, OpP cb sz T c K V 0 0 0 0 0 0 (plainN kecN K ⟨pc, gas, s, mem, w⟩ 92) r S' := by
  have hs : (plainN kecN K ⟨pc, gas, s, mem, w⟩ 92).s = s.take (s.length - 1) ++ [(V.tmp (argN s 0)).val] := by
    show s.take (s.length - 1) ++ [valT (findT K.self (argN s 0) w.tp)] = _
    rw [hR.rel.tmp]
  refine mExOpTransient (by decide) (OpP.ofSetP2 h hR rfl rfl (σ := plainN kecN K ⟨pc, gas, s, mem, w⟩ 92) rfl rfl hs (mTr92 h.eV h.eO hR.ix.1 hR.ix.2 h.eS h.eK h.eM hp1 ho h1 (by have := h.eM.sl; omega)))
theorem setT_len (V : Vl) (k : Nat) (t : Nat → Int) (x : VTp) (e : VE) : (V.setT k t x e).tp.length ≤ V.tp.length + 1 ∧ (V.setT k t x e).jr.length = V.jr.length + 1 := by
  refine ⟨?_, by show (V.jr ++ [e]).length = _; simp⟩
  show ((V.ete k t).tp.set _ _).length ≤ _
  rw [List.length_set]; unfold Vl.ete; split
  · omega
  · simp
theorem RW.tstS {K : YK} {V : Vl} {w : YW} (h : RW K V w) {k v : Nat} (hv : v = (V.tmp k).val) : RW K V { w with tp := tstT (K.self, k, v) (decide (v = 0)) w.tp } := by
  refine ⟨h.acc, h.wrm, h.mgn, h.slo, h.sor, h.swm, fun j => ?_, h.rf, h.lg, h.x0⟩
  show valT (findT K.self j (tstT (K.self, k, v) (decide (v = 0)) w.tp)) = _
  rw [val_tst]
  by_cases hb : k = j
  · rw [if_pos ⟨rfl, hb⟩, hv, hb]
  · rw [if_neg (fun h => hb h.2)]; exact h.tmp j
theorem OpP.wk {cb sz : Nat} {T : TypeId} {c : Nat → Value} {K : YK} {V : Vl} {a b d e f g a' b' d' e' f' g' : Nat} {σ : NS} {r : Value} {S : St} (h : OpP cb sz T c K V a b d e f g σ r S) (h1 : a ≤ a') (h2 : b ≤ b') (h3 : d ≤ d') (h4 : e ≤ e') (h5 : f ≤ f') (h6 : g ≤ g') : OpP cb sz T c K V a' b' d' e' f' g' σ r S := by
  obtain ⟨J, c', V', M', G', q1, q2, q3, q4, q5⟩ := h
  exact ⟨J, c', V', M', G', q1, q2, q3, q4, ⟨by have := q5.ga; omega, by have := q5.gs; omega, by have := q5.gt; omega, by have := q5.gj; omega, by have := q5.gl; omega, by have := q5.gr; omega⟩⟩
theorem ex93 {I : Ent → Prop} {cb sz : Nat} {T : TypeId} {c : Nat → Value} {K : YK} {V : Vl} {w : YW} {pc gas : Nat} {s mem : List Nat} {M G : List Ent} (h : EI I cb sz c K V pc gas s mem M G) (hR : RJ K V w) (hp1 : pc + 1 < 60000) (ho : K.code.getD pc 0 = 93) (h2 : 2 ≤ s.length) (hroom : V.tp.length < 11990) (hj : V.jr.length < 59990) : CallG Hvaf.prog 121 #[ptr cb 0, .int .u8 ((93 : Nat) : Int)] ⟨I, ⟨cb, sz, T, c⟩ :: (M ++ G)⟩ fun _ S' => ∃ r, OpP cb sz T c K V 0 0 1 1 0 0 (plainN kecN K ⟨pc, gas, s, mem, w⟩ 93) r S' := by
  by_cases hq : argN s 1 = (V.tmp (argN s 0)).val
  · have hR2 : RJ K V (plainN kecN K ⟨pc, gas, s, mem, w⟩ 93).w := hR.setW (hR.rel.tstS hq)
    refine mExOpTransient (by decide) ((OpP.ofSetP h hR2 rfl rfl (σ := plainN kecN K ⟨pc, gas, s, mem, w⟩ 93) (mTr93e h.eV h.eO hR.ix.1 hR.ix.2 h.eS h.eK h.eM hp1 ho h2 hq)).mono ?_)
    intro r S' hs hx
    exact hx.wk (by omega) (by omega) (by omega) (by omega) (by omega) (by omega)
  · refine mExOpTransient (by decide) (OpP.ofSetV h rfl (σ := plainN kecN K ⟨pc, gas, s, mem, w⟩ 93) ?_ (mTr93n h.eV h.eO hR.ix.1 hR.ix.2 h.eS h.eK h.eM hp1 ho h2 hq hroom hj))
    rintro V' ⟨t, rfl⟩
    refine ⟨hR.tst (argN s 0) (argN s 1) t, ?_⟩
    have l1 := fun x e => setT_len V (argN s 0) t x e
    have l2 := fun x e => setT_ac V (argN s 0) t x e
    exact ⟨by rw [(l2 _ _).1]; omega, by rw [(l2 _ _).2.1]; omega, (l1 _ _).1, by rw [(l1 _ _).2]; omega, by rw [(l2 _ _).2.2.2]; omega, by rw [(l2 _ _).2.2.1]; omega⟩
theorem is_found {V : Vl} {k : Nat} (h : (V.slt k).warm = true) : V.is k < V.sl.length := by
  rcases Nat.lt_or_ge (V.is k) V.sl.length with hc | hc
  · exact hc
  · rw [Vl.slt, List.getD_eq_getElem?_getD, List.getElem?_eq_none hc] at h; simp at h
theorem setS_same {V : Vl} {k : Nat} {t : Nat → Int} {x : VSl} {e : VE} (h : V.is k < V.sl.length) : (V.setS k t x e).sl.length = V.sl.length := by
  show ((V.ens k t).sl.set _ _).length = _
  rw [List.length_set]; unfold Vl.ens; rw [if_pos h]
theorem warm_same {t : TM} {ml : List TM} (h : (findT t.1 t.2.1 ml).isSome = true) : warmM t ml = ml := by unfold warmM; rw [if_pos h]
def DS (K : YK) (w : YW) (s : List Nat) : Nat := if (findT K.self (argN s 0) w.ms).isSome then 0 else 1
theorem ex84 {I : Ent → Prop} {cb sz : Nat} {T : TypeId} {c : Nat → Value} {K : YK} {V : Vl} {w : YW} {pc gas : Nat} {s mem : List Nat} {M G : List Ent} (h : EI I cb sz c K V pc gas s mem M G) (hR : RJ K V w) (hp1 : pc + 1 < 60000) (ho : K.code.getD pc 0 = 84) (h1 : 1 ≤ s.length) (hroom : V.sl.length < 1990) (hj : V.jr.length < 59990) : CallG Hvaf.prog 121 #[ptr cb 0, .int .u8 ((84 : Nat) : Int)] ⟨I, ⟨cb, sz, T, c⟩ :: (M ++ G)⟩ fun _ S' => ∃ r, OpP cb sz T c K V 0 (DS K w s) 0 (DS K w s) 0 0 (plainN kecN K ⟨pc, gas, s, mem, w⟩ 84) r S' := by
  have hs : (plainN kecN K ⟨pc, gas, s, mem, w⟩ 84).s = s.take (s.length - 1) ++ [(V.slt (argN s 0)).val] := by
    show s.take (s.length - 1) ++ [loadS (getA w.al K.self).slots (argN s 0)] = _
    rw [hR.rel.slo]
  have hsw := hR.rel.swm (argN s 0)
  unfold DS
  cases hw : (V.slt (argN s 0)).warm with
  | true =>
    rw [hw] at hsw
    rw [if_pos hsw.symm]
    have hww : (plainN kecN K ⟨pc, gas, s, mem, w⟩ 84).w = w := by
      show ({ w with ms := warmM (K.self, argN s 0, 0) w.ms } : YW) = w
      rw [warm_same hsw.symm]
    exact mExOpStorage (by decide) (OpP.ofSetP2 h hR hww rfl (σ := plainN kecN K ⟨pc, gas, s, mem, w⟩ 84) rfl rfl hs (mSl84w h.eV h.eO hR.ix.1 hR.ix.2 (hR.rel.sor _) h.eS h.eK h.eM hp1 ho h1 hw))
  | false =>
    rw [hw] at hsw
    rw [if_neg (by rw [← hsw]; decide)]
    refine mExOpStorage (by decide) (OpP.ofSetV h rfl (σ := plainN kecN K ⟨pc, gas, s, mem, w⟩ 84) (P := fun V' => ∃ t, V' = V.setS (argN s 0) t { V.slt' (argN s 0) with warm := true } ⟨5, V.is (argN s 0), 0, 0, (V.slt' (argN s 0)).warm⟩) ?_ ?_)
    · rintro V' ⟨t, rfl⟩
      refine ⟨hR.warmS (argN s 0) t, ?_⟩
      have l1 := fun x e => setS_len V (argN s 0) t x e
      have l2 := fun x e => setS_ac V (argN s 0) t x e
      exact ⟨by rw [(l2 _ _).1]; omega, (l1 _ _).1, by rw [(l2 _ _).2.1]; omega, by rw [(l1 _ _).2]; omega, by rw [(l2 _ _).2.2.2]; omega, by rw [(l2 _ _).2.2.1]; omega⟩
    · rw [hs]
      exact mSl84c h.eV h.eO hR.ix.1 hR.ix.2 (hR.rel.sor _) h.eS h.eK h.eM hp1 ho h1 hw hroom hj
theorem exLog {I : Ent → Prop} {cb sz : Nat} {T : TypeId} {c : Nat → Value} {K : YK} {V : Vl} {w : YW} {pc gas o : Nat} {s mem : List Nat} {M G : List Ent} (h : EI I cb sz c K V pc gas s mem M G) (hR : RJ K V w) (hp1 : pc + 1 < 60000) (ho : K.code.getD pc 0 = o) (ho1 : 160 ≤ o) (ho2 : o ≤ 164) (hs2 : o - 158 ≤ s.length) (hin : reachN s o ≤ mem.length) (hj : V.jr.length < 59990) (hll : V.lg.length < 2798) (hml : mem.length ≤ 717280) : CallG Hvaf.prog 121 #[ptr cb 0, .int .u8 ((o : Nat) : Int)] ⟨I, ⟨cb, sz, T, c⟩ :: (M ++ G)⟩ fun _ S' => ∃ r, OpP cb sz T c K V 0 0 0 1 1 0 (plainN kecN K ⟨pc, gas, s, mem, w⟩ o) r S' := by
  have hr : reachN s o = endN (argN s 0) (argN s 1) := by unfold reachN; rw [if_pos (by omega)]
  rw [hr] at hin
  have hin2 := end_in hin
  have har : arN o = (o - 160 + 2, 0, true) := (by decide +kernel : ∀ o, o < 256 → o < 160 ∨ 164 < o ∨ arN o = (o - 160 + 2, 0, true)) o (by omega) |>.resolve_left (by omega) |>.resolve_left (by omega)
  have hpc : (plainN kecN K ⟨pc, gas, s, mem, w⟩ o).pc = pc + 1 := by
    show nextN K pc s o = _
    unfold nextN immN; rw [if_neg (by omega), if_neg (by omega)]
  have hm : (plainN kecN K ⟨pc, gas, s, mem, w⟩ o).mem = mem := by
    show memN K mem w s o = mem
    unfold memN; repeat rw [if_neg (by omega)]
  have hs : (plainN kecN K ⟨pc, gas, s, mem, w⟩ o).s = s.take (s.length - (o - 158)) := by
    show stkN kecN K pc gas mem w s o = _
    unfold stkN; rw [if_neg (by omega), if_neg (by omega), har, if_neg (show ¬ (0 = 1) by decide)]
    show s.take (s.length - (o - 160 + 2)) = _
    rw [show o - 160 + 2 = o - 158 by omega]
  have hargs : (argsN s (o - 158)).drop 2 = (List.range (o - 160)).map fun i => argN s (2 + i) := by
    unfold argsN
    apply List.ext_getElem
    · simp; omega
    · intro i a b
      simp
  have hw : (plainN kecN K ⟨pc, gas, s, mem, w⟩ o).w = { w with lg := w.lg ++ [(K.self, (List.range (o - 160)).map (fun i => argN s (2 + i)), cutL mem (argN s 0) (argN s 1))] } := by
    show wrlN K mem w s o = _
    unfold wrlN; rw [if_neg (by omega), if_neg (by omega), if_neg (by omega), if_neg (by omega), if_pos ⟨ho1, ho2⟩, hargs]
  have hdl : argN s 1 ≤ 717280 := by rcases hin2 with hc | hc <;> omega
  refine (mExRows (by omega) (by omega) (mRwOpLog ho1 ho2 (OpP.ofSetK h hm (σ := plainN kecN K ⟨pc, gas, s, mem, w⟩ o) (da := 0) (ds := 0) (dt := 0) (dj := 1) (dl := 1) (dr := 0) (P := fun V' => V' = { V with jr := V.jr ++ [⟨7, 0, 0, 0, false⟩], lg := V.lg ++ [(K.self, (List.range (o - 160)).map (fun i => argN s (2 + i)), cutL mem (argN s 0) (argN s 1))] }) ?_ ?_))).mono ?_
  · rintro V' rfl
    rw [hw]
    exact ⟨hR.log _, ⟨by show V.ac.length ≤ _; omega, by show V.sl.length ≤ _; omega, by show V.tp.length ≤ _; omega, by show (V.jr ++ [_]).length ≤ _; simp, by show (V.lg ++ [_]).length ≤ _; simp, by show V.rf ≤ _; omega⟩⟩
  · rw [hpc, hs]
    exact mLog h.eV h.eO h.eS h.eA (fun x hx => hx) h.eK h.eM hp1 ho ho1 ho2 hs2 hin2 hj hll hdl
  · rintro r S' - ⟨_, r2, hq⟩; exact ⟨r2, hq⟩
end Go.Proofs.YgvafwGreat
