import Derived.Test.YgvafwGreatE56
set_option exponentiation.threshold 1000
set_option maxRecDepth 100000
set_option maxHeartbeats 4000000
set_option linter.unusedVariables false
set_option linter.unusedSimpArgs false
-- v2
-- v4
-- v5
-- v6
-- v7
namespace Go.Proofs.YgvafwGreat
open Go.HL Go.Proofs
/-- What holds of a running engine. -/
structure NI (I : Ent → Prop) (cb sz : Nat) (c : Nat → Value) (K : YK) (V : Vl) (σ : NS) (M G : List Ent) : Prop where
  ei : EI I cb sz c K V σ.pc σ.gas σ.s σ.mem M G
  rj : RJ K V σ.w
  gm : σ.gas + memC (σ.mem.length / 32) ≤ 1048576
  md : σ.mem.length % 32 = 0
  ba : σ.gas + 2600 * V.ac.length ≤ 1074576
  bs : σ.gas + 2100 * V.sl.length ≤ 1048576
  bt : σ.gas + 100 * V.tp.length ≤ 1048576
  bj : σ.gas + 33 * V.jr.length ≤ 1048906
  bl : σ.gas + 375 * V.lg.length ≤ 1048576
  br : V.rf + 199 * σ.gas ≤ 208666624
/-- The vault at the end is not too great. -/
structure VB (V : Vl) : Prop where
  ac : V.ac.length ≤ 420
  sl : V.sl.length ≤ 500
  jr : V.jr.length ≤ 32000
theorem cpyL_len (mem src : List Nat) (d o n : Nat) : (cpyL mem src d o n).length = mem.length := by unfold cpyL; split; rfl; exact writeL_len' _ _ _
theorem memN_len {K : YK} {mem : List Nat} {w : YW} {s : List Nat} {o : Nat} : (memN K mem w s o).length = mem.length := by
  unfold memN
  repeat' split
  all_goals first | exact writeL_len' _ _ _ | exact cpyL_len _ _ _ _ _ | rfl
theorem growL_len {mem : List Nat} {k : Nat} : (growL mem k).length / 32 = max (mem.length / 32) k ∧ 32 * k ≤ (growL mem k).length + 31 ∧ (k ≤ 22415 → mem.length ≤ 717280 → (growL mem k).length ≤ 717280) ∧ (mem.length / 32 < k → (growL mem k).length = 32 * k) ∧ mem.length ≤ (growL mem k).length := by
  unfold growL
  by_cases h : k ≤ mem.length / 32
  · rw [if_pos h]; omega
  · rw [if_neg h, List.length_append, List.length_replicate]; omega
theorem undo_len (V : Vl) (e : VE) : (undo1 V e).ac.length = V.ac.length ∧ (undo1 V e).sl.length = V.sl.length := by
  unfold undo1
  repeat' split
  all_goals exact ⟨by first | rfl | exact List.length_set, by first | rfl | exact List.length_set⟩
theorem popN_len : ∀ (k : Nat) (V : Vl), (popN k V).ac.length = V.ac.length ∧ (popN k V).sl.length = V.sl.length ∧ (popN k V).jr.length ≤ V.jr.length
  | 0, V => ⟨rfl, rfl, Nat.le_refl _⟩
  | k + 1, V => by
    have h1 := popN_len k (pop1 V)
    have h2 := undo_len V (V.jr.getD (V.jr.length - 1) dVE)
    have h3 := pop1_len V
    refine ⟨h1.1.trans h2.1, h1.2.1.trans h2.2, ?_⟩
    show (popN k (pop1 V)).jr.length ≤ _
    omega
theorem RW.nm {K : YK} {V : Vl} {w : YW} (h : RW K V w) (k : Nat) : RW K { V with nm := k } w := ⟨h.acc, h.wrm, h.mgn, h.slo, h.sor, h.swm, h.tmp, h.rf, h.lg, h.x0⟩
/-- What a step leaves. -/
def StP (cb sz : Nat) (T : TypeId) (c : Nat → Value) (K : YK) (g : Nat) : NS ⊕ NE → St → Prop
  | .inl σ', S' => ∃ J c' V' M' G', S' = ⟨J, ⟨cb, sz, T, c'⟩ :: (M' ++ G')⟩ ∧ NI J cb sz c' K V' σ' M' G' ∧ KeepC c c' ∧ σ'.gas < g
  | .inr e, S' => ∃ J c0 V' M' G' rv, S' = ⟨J, ⟨cb, sz, T, endC c0 e.st e.gas rv⟩ :: (M' ++ G')⟩ ∧ Byt ⟨J, []⟩ rv e.out ∧ VI J c0 V' G' ∧ VOk V' ∧ RW K V' e.w ∧ KeepC c c0 ∧ VB V' ∧ e.gas ≤ g
section
variable {I : Ent → Prop} {cb sz : Nat} {T : TypeId} {c : Nat → Value} {K : YK} {V : Vl} {σ : NS} {M G : List Ent}
theorem NI.next (h : NI I cb sz c K V σ M G) {o da ds dt dj dl dr : Nat} (hle : costN K σ.w σ.s σ.mem.length o ≤ σ.gas) (hpos : 1 ≤ costN K σ.w σ.s σ.mem.length o) (hB : Bd da ds dt dj dl dr (costN K σ.w σ.s σ.mem.length o)) {c1 : Nat → Value} (hk : KeepC c c1) {r : Value} {S' : St} (hx : OpP cb sz T c1 K V da ds dt dj dl dr (plainN kecN K (paidN K σ o) o) r S') : StP cb sz T c K σ.gas (.inl (plainN kecN K (paidN K σ o) o)) S' := by
  obtain ⟨J, c', V', M', G', rfl, q2, q3, q4, q5⟩ := hx
  have hg : (plainN kecN K (paidN K σ o) o).gas = σ.gas - costN K σ.w σ.s σ.mem.length o := rfl
  have hm : (plainN kecN K (paidN K σ o) o).mem.length = (growL σ.mem ((reachN σ.s o + 31) / 32)).length := memN_len
  have hgl := growL_len (mem := σ.mem) (k := (reachN σ.s o + 31) / 32)
  have hcm : costN K σ.w σ.s σ.mem.length o + memC (σ.mem.length / 32) ≥ memC (max (σ.mem.length / 32) ((reachN σ.s o + 31) / 32)) := by
    unfold costN
    by_cases hc : (reachN σ.s o + 31) / 32 ≤ σ.mem.length / 32
    · rw [if_pos hc, Nat.max_eq_left hc]; omega
    · rw [if_neg hc, Nat.max_eq_right (by omega)]
      have := memC_mono (show σ.mem.length / 32 ≤ (reachN σ.s o + 31) / 32 by omega)
      omega
  generalize costN K σ.w σ.s σ.mem.length o = cost at *
  have g0 := h.gm
  have g1 := h.ba
  have g2 := h.bs
  have g3 := h.bt
  have g4 := h.bj
  have g5 := h.bl
  have g6 := h.br
  have b1 := hB.a
  have b2 := hB.s
  have b3 := hB.t
  have b4 := hB.j
  have b5 := hB.l
  have b6 := hB.r
  have e1 := q5.ga
  have e2 := q5.gs
  have e3 := q5.gt
  have e4 := q5.gj
  have e5 := q5.gl
  have e6 := q5.gr
  refine ⟨J, c', V', M', G', rfl, ⟨q2, q3, ?_, ?_, ?_, ?_, ?_, ?_, ?_, ?_⟩, hk.trans q4, ?_⟩
  · rw [hg, hm, hgl.1]; omega
  · rw [hm]
    have hmd := h.md
    rcases Nat.lt_or_ge (σ.mem.length / 32) ((reachN σ.s o + 31) / 32) with hc | hc
    · rw [hgl.2.2.2.1 hc]; omega
    · rw [growL_same hc]; exact hmd
  all_goals (rw [hg]; omega)
end
end Go.Proofs.YgvafwGreat
