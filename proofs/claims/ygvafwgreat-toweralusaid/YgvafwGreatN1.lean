import Derived.Test.YgvafwGreatE58
import Derived.Test.YgvafwGreatK17
import Derived.Test.YgvafwGreatY43
set_option exponentiation.threshold 1000
set_option maxRecDepth 100000
set_option maxHeartbeats 4000000
set_option linter.unusedVariables false
set_option linter.unusedSimpArgs false
-- v2
namespace Go.Proofs.YgvafwGreat
open Go.HL Go.Proofs
/-! ### What holds of the abstract run -/
def szW (K : YK) (w : YW) : Nat := w.al.length + (getA w.al K.self).slots.length + w.wa.length + w.ms.length + w.tp.length + w.lg.length
structure WOk (K : YK) (w : YW) : Prop where
  bal : ∀ a, (getA w.al a).bal < 2 ^ 256
  cl : ∀ a, (getA w.al a).code.length < 2 ^ 20
  sv : ∀ k, loadS (getA w.al K.self).slots k < 2 ^ 256
  tv : ∀ a k, valT (findT a k w.tp) < 2 ^ 256
  cb : ∀ a, ∀ d ∈ (getA w.al a).code, d < 256
structure NOk (K : YK) (σ : NS) : Prop where
  sb : ∀ x ∈ σ.s, x < 2 ^ 256
  sl : σ.s.length ≤ 64
  mb : ∀ d ∈ σ.mem, d < 256
  md : σ.mem.length % 32 = 0
  gm : σ.gas + memC (σ.mem.length / 32) ≤ 1048576
  sz : σ.gas + 30 * szW K σ.w ≤ 1060000
  rf : σ.w.rf + 199 * σ.gas ≤ 208666624
  wk : WOk K σ.w
theorem big {n k : Nat} (h : n < k) (hk : k ≤ 2 ^ 30 := by decide) : n < 2 ^ 256 := Nat.lt_of_lt_of_le h (Nat.le_trans hk (by decide +kernel))
theorem ite_l2 {c : Prop} [Decidable c] {a b n : Nat} (h1 : c → a < n) (h2 : ¬ c → b < n) : (if c then a else b) < n := by
  by_cases h : c
  · rw [if_pos h]; exact h1 h
  · rw [if_neg h]; exact h2 h
theorem valN_lt {K : YK} {pc gas o : Nat} {mem s : List Nat} {w : YW} (hK : KB K) (hcb : ∀ d ∈ K.code, d < 256) (hdb : ∀ d ∈ K.data, d < 256) (hpc : pc < 2 ^ 20) (hg : gas < 2 ^ 30) (hmb : ∀ d ∈ mem, d < 256) (hml : mem.length < 2 ^ 30) (hw : WOk K w) (hs : ∀ x ∈ s, x < 2 ^ 256) : valN kecN K pc gas mem w s o < 2 ^ 256 := by
  have hk : ∀ bs, bev (kecN bs) < 2 ^ 256 := fun bs => bev_256 (kecN_b8 bs) (by rw [kecN_len]; decide)
  have hcu : ∀ (l : List Nat) a n, (∀ d ∈ l, d < 256) → n ≤ 32 → bev (cutL l a n) < 2 ^ 256 := fun l a n h hn => bev_256 (cutL_lt h a n) (by rw [cutL_len]; exact hn)
  have had : ∀ a, AdOk a → bev a < 2 ^ 256 := fun a h => bev_256 h.b8 (by rw [h.len]; decide)
  have hal : ∀ o, aluN o (argN s 0) (argN s 1) (argN s 2) < 2 ^ 256 := fun o => aluN_lt (argN_lt hs) (argN_lt hs) (argN_lt hs)
  have h0 : (0 : Nat) < 2 ^ 256 := by decide +kernel
  have hcl := hK.code
  have hdl := hK.data
  have hcd : AdOk (adNo 192) := ⟨by decide, by decide⟩
  have hca := hw.cl (adN (argN s 0))
  unfold valN
  refine ite_l2 (fun _ => hk _) fun _ => ?_
  refine ite_l2 (fun _ => hal _) fun _ => ?_
  refine ite_l2 (fun h => hcu _ _ _ hcb (by omega)) fun _ => ?_
  refine ite_l2 (fun h => had _ hK.kself) fun _ => ?_
  refine ite_l2 (fun h => had _ hK.kcaller) fun _ => ?_
  refine ite_l2 (fun h => hcu _ _ _ hdb (Nat.le_refl _)) fun _ => ?_
  refine ite_l2 (fun h => big hdl) fun _ => ?_
  refine ite_l2 (fun h => big hcl) fun _ => ?_
  refine ite_l2 (fun h => hw.bal _) fun _ => ?_
  refine ite_l2 (fun h => hcu _ _ _ hmb (Nat.le_refl _)) fun _ => ?_
  refine ite_l2 (fun h => hw.sv _) fun _ => ?_
  refine ite_l2 (fun h => hw.tv _ _) fun _ => ?_
  refine ite_l2 (fun h => big hpc) fun _ => ?_
  refine ite_l2 (fun h => big hml) fun _ => ?_
  refine ite_l2 (fun h => big hg) fun _ => ?_
  refine ite_l2 (fun h => hw.bal _) fun _ => ?_
  refine ite_l2 (fun h => big hca) fun _ => ?_
  refine ite_l2 (fun h => ite_l2 (fun _ => h0) fun _ => hk _) fun _ => ?_
  refine ite_l2 (fun h => had _ hcd) fun _ => ?_
  exact ite_l2 (fun h => big (k := 1048577) (by decide)) fun _ => h0
theorem withA_len (a : List Nat) (l : List (List Nat)) : (withA a l).length ≤ l.length + 1 := by
  unfold withA; split; omega; rw [insA_len]; exact Nat.le_refl _
theorem warmM_len (t : TM) (l : List TM) : (warmM t l).length ≤ l.length + 1 := by
  unfold warmM; split; omega; rw [insM_len]; exact Nat.le_refl _
theorem sst_minus {K : YK} {w : YW} {s : List Nat} (hst : K.st = []) : (sstoreN K w s).2.2 = 0 := by
  unfold sstoreN
  rw [hst]
  show (sstN 0 _ _ _).2.2 = 0
  unfold sstN
  dsimp only
  repeat' split
  all_goals first | rfl
theorem sst_plus {K : YK} {w : YW} {s : List Nat} (hst : K.st = []) : (sstoreN K w s).2.1 ≤ 19900 := by
  unfold sstoreN
  rw [hst]
  show (sstN 0 _ _ _).2.1 ≤ 19900
  unfold sstN
  dsimp only
  repeat' split
  all_goals omega
theorem self_slots {K : YK} {w : YW} {sl : List (Nat × Nat)} (hself : (getA w.al K.self).addr = K.self) (b : List Nat) : getA (putA { getA w.al K.self with slots := sl } w.al) b = if K.self = b then { getA w.al K.self with slots := sl } else getA w.al b := by
  rw [getA_put]
  show (if (getA w.al K.self).addr = b then _ else _) = _
  rw [hself]
theorem wrlN_ok {K : YK} {mem s : List Nat} {w : YW} {o : Nat} (hw : WOk K w) (hs : ∀ x ∈ s, x < 2 ^ 256) : WOk K (wrlN K mem w s o) := by
  unfold wrlN
  split
  · exact ⟨hw.bal, hw.cl, hw.sv, hw.tv, hw.cb⟩
  split
  · exact ⟨hw.bal, hw.cl, hw.sv, hw.tv, hw.cb⟩
  split
  · have hg := self_slots (w := w) (sl := storeS (argN s 0) (argN s 1) (decide (argN s 1 = 0)) (getA w.al K.self).slots) (getA_addr w.al K.self (fun _ _ => trivial))
    refine ⟨fun a => ?_, fun a => ?_, fun k => ?_, hw.tv, fun a => ?_⟩
    · dsimp only; rw [hg]; split; exact hw.bal _; exact hw.bal _
    · dsimp only; rw [hg]; split; exact hw.cl _; exact hw.cl _
    · dsimp only; rw [hg, if_pos rfl]; dsimp only; rw [load_store]; split; exact argN_lt hs; exact hw.sv k
    · dsimp only; rw [hg]; split; exact hw.cb _; exact hw.cb _
  split
  · refine ⟨hw.bal, hw.cl, hw.sv, fun a k => ?_, hw.cb⟩
    dsimp only; rw [val_tst]; split; exact argN_lt hs; exact hw.tv a k
  split
  · exact ⟨hw.bal, hw.cl, hw.sv, hw.tv, hw.cb⟩
  · exact hw
/-- What an instruction adds to the lists is paid for. -/
theorem wrlN_sz {K : YK} {mem s : List Nat} {w : YW} {o : Nat} : 30 * szW K (wrlN K mem w s o) ≤ 30 * szW K w + bareN K w s o := by
  unfold wrlN
  split
  · rename_i h
    have hl := withA_len (adN (argN s 0)) w.wa
    have ha := accN_ge w (argN s 0)
    have hb : 100 ≤ bareN K w s o := by
      rcases h with rfl | rfl | rfl | rfl
      · exact ha
      · exact ha
      · exact ha
      · exact Nat.le_trans ha (Nat.le_add_right _ _)
    unfold szW; dsimp only; omega
  split
  · rename_i h
    subst h
    have hl := warmM_len (K.self, argN s 0, 0) w.ms
    have hb : 100 ≤ bareN K w s 84 := by
      show 100 ≤ if (findT K.self (argN s 0) w.ms).isSome then 100 else 2100
      split <;> decide
    unfold szW; dsimp only; omega
  split
  · rename_i h
    subst h
    have hl := warmM_len (K.self, argN s 0, 0) w.ms
    have hp : ∀ x, (putA x w.al).length ≤ w.al.length + 1 := fun x => (putL_len _ _ _).1
    have hs := (storeS_len (argN s 0) (argN s 1) (getA w.al K.self).slots (decide (argN s 1 = 0))).1
    have hg := self_slots (w := w) (sl := storeS (argN s 0) (argN s 1) (decide (argN s 1 = 0)) (getA w.al K.self).slots) (getA_addr w.al K.self (fun _ _ => trivial)) K.self
    have hb : 100 ≤ bareN K w s 85 := sst_ge _ _ _ _
    refine Nat.le_trans (Nat.mul_le_mul_left 30 (m := w.al.length + 1 + ((getA w.al K.self).slots.length + 1) + w.wa.length + (w.ms.length + 1) + w.tp.length + w.lg.length) ?_) (by unfold szW; omega)
    unfold szW; dsimp only; rw [hg, if_pos rfl]
    exact Nat.add_le_add_right (Nat.add_le_add_right (Nat.add_le_add (Nat.add_le_add_right (Nat.add_le_add (hp _) hs) _) hl) _) _
  split
  · rename_i h
    subst h
    have hl := (tstT_len (K.self, argN s 0, argN s 1) w.tp (decide (argN s 1 = 0))).1
    have hb : 100 ≤ bareN K w s 93 := by show 100 ≤ 100; decide
    unfold szW; dsimp only; omega
  split
  · rename_i h
    have hb : 375 ≤ bareN K w s o := by
      obtain rfl | rfl | rfl | rfl | rfl : o = 160 ∨ o = 161 ∨ o = 162 ∨ o = 163 ∨ o = 164 := by omega
      · show 375 ≤ 375 + 375 * (160 - 160) + 8 * argN s 1; omega
      · show 375 ≤ 375 + 375 * (161 - 160) + 8 * argN s 1; omega
      · show 375 ≤ 375 + 375 * (162 - 160) + 8 * argN s 1; omega
      · show 375 ≤ 375 + 375 * (163 - 160) + 8 * argN s 1; omega
      · show 375 ≤ 375 + 375 * (164 - 160) + 8 * argN s 1; omega
    unfold szW; dsimp only; rw [List.length_append, List.length_singleton]; omega
  · omega
theorem wrlN_rf {K : YK} {mem s : List Nat} {w : YW} {o : Nat} (hst : K.st = []) : (wrlN K mem w s o).rf ≤ w.rf + 199 * bareN K w s o := by
  unfold wrlN
  repeat' split
  all_goals first | omega | (dsimp only; omega) | skip
  rename_i h
  subst h
  have hb : 100 ≤ bareN K w s 85 := sst_ge _ _ _ _
  have hp := sst_plus (w := w) (s := s) hst
  have hm := sst_minus (w := w) (s := s) hst
  dsimp only; rw [hm]; omega
theorem cpyL_lt {mem src : List Nat} {d o n : Nat} (h1 : ∀ x ∈ mem, x < 256) (h2 : ∀ x ∈ src, x < 256) : ∀ x ∈ cpyL mem src d o n, x < 256 := by
  unfold cpyL; split
  · exact h1
  · exact writeL_lt h1 (cutL_lt h2 _ _)
theorem memN_lt {K : YK} {mem s : List Nat} {w : YW} {o : Nat} (hcb : ∀ d ∈ K.code, d < 256) (hdb : ∀ d ∈ K.data, d < 256) (hcc : ∀ a, ∀ d ∈ (getA w.al a).code, d < 256) (hmb : ∀ d ∈ mem, d < 256) : ∀ d ∈ memN K mem w s o, d < 256 := by
  unfold memN
  split
  · exact writeL_lt hmb (be32_lt _)
  split
  · exact writeL_lt hmb (by intro d hd; rw [List.mem_singleton.1 hd]; exact Nat.mod_lt _ (by decide))
  split
  · exact cpyL_lt hmb hdb
  split
  · exact cpyL_lt hmb hcb
  split
  · exact cpyL_lt hmb hmb
  split
  · exact cpyL_lt hmb (hcc _)
  · exact hmb
theorem swN_lt {s : List Nat} {t : Nat} (h : ∀ x ∈ s, x < 2 ^ 256) : ∀ x ∈ swN s t, x < 2 ^ 256 := by
  have hm : ∀ k, ∀ x ∈ midN s k, x < 2 ^ 256 := by
    intro k
    induction k with
    | zero => intro x hx; exact nomatch hx
    | succ k ih =>
      intro x hx
      rcases List.mem_cons.1 hx with rfl | hx
      · exact argN_lt h
      · exact ih x hx
  intro x hx
  unfold swN at hx
  rcases List.mem_append.1 hx with hx | hx
  · exact h x (List.mem_of_mem_take hx)
  rcases List.mem_append.1 hx with hx | hx
  · rw [List.mem_singleton.1 hx]; exact argN_lt h
  rcases List.mem_append.1 hx with hx | hx
  · exact hm _ x hx
  · rw [List.mem_singleton.1 hx]; exact argN_lt h
theorem ar_dup {o : Nat} (h1 : 128 ≤ o) (h2 : o ≤ 143) : (arN o).1 = o - 127 ∧ (arN o).2.1 = o - 126 := by
  have := (by decide +kernel : ∀ o, o < 144 → o < 128 ∨ ((arN o).1 = o - 127 ∧ (arN o).2.1 = o - 126)) o (by omega)
  rcases this with h | h
  · omega
  · exact h
theorem ar_swap {o : Nat} (h1 : 144 ≤ o) (h2 : o ≤ 159) : (arN o).1 = o - 142 ∧ (arN o).2.1 = o - 142 := by
  have := (by decide +kernel : ∀ o, o < 160 → o < 144 ∨ ((arN o).1 = o - 142 ∧ (arN o).2.1 = o - 142)) o (by omega)
  rcases this with h | h
  · omega
  · exact h
theorem stkN_len {K : YK} {pc gas o : Nat} {mem s : List Nat} {w : YW} {kec : List Nat → List Nat} (h1 : (arN o).1 ≤ s.length) (h2 : s.length - (arN o).1 + (arN o).2.1 ≤ 64) : (stkN kec K pc gas mem w s o).length ≤ 64 := by
  unfold stkN
  split
  · rename_i h
    have ha := ar_dup h.1 h.2
    rw [ha.1] at h1 h2; rw [ha.2] at h2
    rw [List.length_append, List.length_singleton]; omega
  split
  · rename_i h
    have ha := ar_swap h.1 h.2
    rw [ha.1] at h1 h2; rw [ha.2] at h2
    unfold swN
    rw [List.length_append, List.length_append, List.length_append, midN_len, List.length_take]
    simp only [List.length_singleton]
    omega
  split
  · rename_i h
    rw [h] at h2
    rw [List.length_append, List.length_singleton, List.length_take]; omega
  · rw [List.length_take]; omega
theorem stkN_lt {K : YK} {pc gas o : Nat} {mem s : List Nat} {w : YW} (hv : valN kecN K pc gas mem w s o < 2 ^ 256) (hs : ∀ x ∈ s, x < 2 ^ 256) : ∀ x ∈ stkN kecN K pc gas mem w s o, x < 2 ^ 256 := by
  unfold stkN
  split
  · intro x hx
    rcases List.mem_append.1 hx with hx | hx
    · exact hs x hx
    · rw [List.mem_singleton.1 hx]; exact argN_lt hs
  split
  · exact swN_lt hs
  split
  · intro x hx
    rcases List.mem_append.1 hx with hx | hx
    · exact hs x (List.mem_of_mem_take hx)
    · rw [List.mem_singleton.1 hx]; exact hv
  · intro x hx; exact hs x (List.mem_of_mem_take hx)
/-- What is the frame's own. -/
structure KY (K : YK) : Prop where
  kb : KB K
  cb : ∀ d ∈ K.code, d < 256
  db : ∀ d ∈ K.data, d < 256
  st : K.st = []
theorem cost_mem {K : YK} {w : YW} {s : List Nat} {m o : Nat} : bareN K w s o + memC (max (m / 32) ((reachN s o + 31) / 32)) ≤ costN K w s m o + memC (m / 32) := by
  unfold costN
  by_cases hc : (reachN s o + 31) / 32 ≤ m / 32
  · rw [if_pos hc, Nat.max_eq_left hc]; exact Nat.le_refl _
  · rw [if_neg hc, Nat.max_eq_right (by omega)]
    have := memC_mono (show m / 32 ≤ (reachN s o + 31) / 32 by omega)
    omega
theorem NOk.mlen {K : YK} {σ : NS} (h : NOk K σ) : σ.mem.length / 32 ≤ 22415 := by
  rcases Nat.lt_or_ge 22415 (σ.mem.length / 32) with hc | hc
  · have q1 := memC_mono (Nat.succ_le_of_lt hc)
    have q2 : memC (Nat.succ 22415) = 1048648 := by decide
    have := h.gm
    omega
  · exact hc
/-- Payment and growth. -/
theorem NOk.paid {K : YK} {σ : NS} {o : Nat} (h : NOk K σ) (hle : costN K σ.w σ.s σ.mem.length o ≤ σ.gas) : NOk K { paidN K σ o with gas := (paidN K σ o).gas } ∧ (paidN K σ o).gas + bareN K σ.w σ.s o ≤ σ.gas ∧ reachN σ.s o ≤ (paidN K σ o).mem.length ∧ (reachN σ.s o + 31) / 32 ≤ 22415 := by
  have hgl := growL_len (mem := σ.mem) (k := (reachN σ.s o + 31) / 32)
  have hcm := cost_mem (K := K) (w := σ.w) (s := σ.s) (m := σ.mem.length) (o := o)
  have hbg := bare_ge (K := K) (w := σ.w) (s := σ.s) (m := σ.mem.length) (o := o)
  have hml := h.mlen
  have hgm := h.gm
  have hmax : max (σ.mem.length / 32) ((reachN σ.s o + 31) / 32) ≤ 22415 := by
    rcases Nat.lt_or_ge 22415 (max (σ.mem.length / 32) ((reachN σ.s o + 31) / 32)) with hc | hc
    · have q1 := memC_mono (Nat.succ_le_of_lt hc)
      have q2 : memC (Nat.succ 22415) = 1048648 := by decide
      omega
    · exact hc
  have hsz := h.sz
  have hrf := h.rf
  have hmd := h.md
  have hg : (paidN K σ o).gas = σ.gas - costN K σ.w σ.s σ.mem.length o := rfl
  have hm : (paidN K σ o).mem = growL σ.mem ((reachN σ.s o + 31) / 32) := rfl
  have hmod : (growL σ.mem ((reachN σ.s o + 31) / 32)).length % 32 = 0 := by
    rcases Nat.lt_or_ge (σ.mem.length / 32) ((reachN σ.s o + 31) / 32) with hc | hc
    · rw [hgl.2.2.2.1 hc]; omega
    · rw [growL_same hc]; exact hmd
  refine ⟨⟨h.sb, h.sl, growL_lt h.mb _, hmod, ?_, ?_, ?_, h.wk⟩, ?_, ?_, ?_⟩
  · show σ.gas - costN K σ.w σ.s σ.mem.length o + memC ((growL σ.mem ((reachN σ.s o + 31) / 32)).length / 32) ≤ _
    rw [hgl.1]; omega
  · show σ.gas - costN K σ.w σ.s σ.mem.length o + 30 * szW K σ.w ≤ _
    omega
  · show σ.w.rf + 199 * (σ.gas - costN K σ.w σ.s σ.mem.length o) ≤ _
    omega
  · rw [hg]; omega
  · rw [hm]
    rcases Nat.lt_or_ge (σ.mem.length / 32) ((reachN σ.s o + 31) / 32) with hc | hc
    · rw [hgl.2.2.2.1 hc]; omega
    · have := hgl.2.2.2.2; omega
  · omega
/-- The run goes on. -/
theorem NOk.next {K : YK} {σ : NS} {o : Nat} (h : NOk K σ) (hD : KY K) (hle : costN K σ.w σ.s σ.mem.length o ≤ σ.gas) (hpc : σ.pc < 2 ^ 20) (h1 : (arN o).1 ≤ σ.s.length) (h2 : σ.s.length - (arN o).1 + (arN o).2.1 ≤ 64) : NOk K (plainN kecN K (paidN K σ o) o) := by
  obtain ⟨hp, hg, hr, hr2⟩ := h.paid hle
  have hml := hp.mlen
  have hmd := hp.md
  have hgm := hp.gm
  have hsz := hp.sz
  have hrf := hp.rf
  dsimp only at hml hmd hgm hsz hrf
  have hv := valN_lt (o := o) hD.kb hD.cb hD.db hpc (show (paidN K σ o).gas < 2 ^ 30 by omega) hp.mb (show (paidN K σ o).mem.length < 2 ^ 30 by omega) hp.wk hp.sb
  have hz := wrlN_sz (K := K) (mem := (paidN K σ o).mem) (s := σ.s) (w := σ.w) (o := o)
  have hf := wrlN_rf (mem := (paidN K σ o).mem) (s := σ.s) (w := σ.w) (o := o) hD.st
  have hs0 := h.sz
  have hr0 := h.rf
  refine ⟨stkN_lt hv hp.sb, stkN_len h1 h2, memN_lt hD.cb hD.db hp.wk.cb hp.mb, ?_, ?_, ?_, ?_, wrlN_ok hp.wk hp.sb⟩
  · show (memN K (paidN K σ o).mem σ.w σ.s o).length % 32 = 0
    rw [memN_len]; exact hmd
  · show (paidN K σ o).gas + memC ((memN K (paidN K σ o).mem σ.w σ.s o).length / 32) ≤ _
    rw [memN_len]; exact hgm
  · show (paidN K σ o).gas + 30 * szW K (wrlN K (paidN K σ o).mem σ.w σ.s o) ≤ _
    omega
  · show (wrlN K (paidN K σ o).mem σ.w σ.s o).rf + 199 * (paidN K σ o).gas ≤ _
    omega
end Go.Proofs.YgvafwGreat
