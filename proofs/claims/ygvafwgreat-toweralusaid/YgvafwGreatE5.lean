import Derived.Test.YgvafwGreatE4
import Derived.Test.YgvafwGreatY23
set_option exponentiation.threshold 1000
set_option maxRecDepth 100000
set_option maxHeartbeats 4000000
set_option linter.unusedVariables false
set_option linter.unusedSimpArgs false
-- v2
-- v4
-- v5
-- v6
-- v7
namespace Go.Proofs.YgvafwGreat
open Go.HL Go.Proofs

/-- The arena once it has grown. -/
theorem ArI.gr {c c' : Nat → Value} {mem : List Nat} {M : List Ent} {b cap w : Nat} {cm : Nat → Value} (h : ArI c mem M) (hw : mem.length < 32 * w) (hw2 : w ≤ 22415) (e : ∀ k, k ≠ 1 → k ≠ 3 → c' k = c k) (e1 : c' 1 = sl b 0 (32 * w) cap) (e3 : c' 3 = .int .u32 ((32 * w : Nat) : Int)) (hc : 32 * w ≤ cap) (h1 : ∀ p, p < mem.length → cm p = .int .u8 (mem.getD p 0 : Nat)) (h2 : ∀ p, p < 32 * w - mem.length → cm (mem.length + p) = .int .u8 ((0 : Nat) : Int)) :
    ArI c' (growL mem w) [⟨b, mulS cap 1, 5, cm⟩] := by
  have hg : growL mem w = mem ++ List.replicate (32 * w - mem.length) 0 := by
    unfold growL; rw [if_neg (by omega)]
  have hgl : (growL mem w).length = 32 * w := by rw [hg, List.length_append, List.length_replicate]; omega
  refine ⟨by rw [e 10 (by decide) (by decide)]; exact h.tp, by rw [e 2 (by decide) (by decide)]; exact h.b0, by rw [hgl]; exact e3, ?_, by rw [hgl]; omega, .inr ⟨b, cap, cm, by rw [hgl]; exact e1, by rw [hgl]; exact hc, rfl, ⟨fun i hi => ?_⟩⟩⟩
  · rw [hg]
    intro d hd
    rcases List.mem_append.1 hd with hd | hd
    · exact h.bf.b8 d hd
    · rw [List.eq_of_mem_replicate hd]; decide
  · rw [bvs_len, hgl] at hi
    rw [Nat.zero_add, bvs_getD' (by rw [hgl]; exact hi), hg, List.getD_eq_getElem?_getD]
    by_cases hlt : i < mem.length
    · rw [List.getElem?_append_left hlt, h1 i hlt, List.getD_eq_getElem?_getD]
    · have := h2 (i - mem.length) (by omega)
      rw [show mem.length + (i - mem.length) = i by omega] at this
      rw [this, List.getElem?_append_right (by omega), List.getElem?_replicate, if_pos (by omega)]; rfl
def GrowP (I : Ent → Prop) (G : List Ent) (cb sz : Nat) (T : TypeId) (c : Nat → Value) (mem : List Nat) (w : Nat) : Post := fun r S' =>
  r = .bool true ∧ ∃ c' M', S' = ⟨I, ⟨cb, sz, T, c'⟩ :: (G ++ M')⟩ ∧ ArI c' (growL mem w) M' ∧ ∀ k, k ≠ 1 → k ≠ 3 → c' k = c k
theorem gr_e {c : Nat → Value} {v w : Value} : ∀ k, k ≠ 1 → k ≠ 3 → upd (upd c 1 v) (addS 2 (mulS 1 1)) w k = c k := by
  intro k h1 h3
  have e : addS 2 (mulS 1 1) = 3 := rfl
  rw [e, updNe h3, updNe h1]
theorem gr_e1 {c : Nat → Value} {v w : Value} : upd (upd c 1 v) (addS 2 (mulS 1 1)) w 1 = v := by
  have e : addS 2 (mulS 1 1) = 3 := rfl
  rw [e, updNe (by decide), updEq]
theorem gr_e3 {c : Nat → Value} {v w : Value} : upd (upd c 1 v) (addS 2 (mulS 1 1)) w 3 = w := by
  have e : addS 2 (mulS 1 1) = 3 := rfl
  rw [e, updEq]
theorem slL {b n m cap : Nat} (h : n = m) : sl b 0 n cap = sl b 0 m cap := by rw [h]
theorem perm_g0 {x c : Ent} {G : List Ent} : (x :: c :: G).Perm ((c :: (G ++ [x])) ++ []) := by
  refine perm_sum fun f => ?_
  simp only [sumE, sumE_append]; omega
theorem perm_g1 {x c y : Ent} {G : List Ent} : (x :: c :: y :: G).Perm ((c :: (G ++ [x])) ++ [y]) := by
  refine perm_sum fun f => ?_
  simp only [sumE, sumE_append]; omega
theorem perm_g2 {c y : Ent} {G : List Ent} : (c :: y :: G).Perm ((c :: (G ++ [y])) ++ []) := by
  refine perm_sum fun f => ?_
  simp only [sumE, sumE_append]; omega
/-- mem.Arena.Grow, from nothing -/
theorem mGrow0 {I : Ent → Prop} {G : List Ent} {cb sz w : Nat} {T : TypeId} {c : Nat → Value} (hsz : 2435 ≤ sz) (hA : ArI c [] []) (hc1 : c 1 = .slice none 0 0) (hw : 0 < w) (hw2 : w ≤ 22415) :
    CallG Hvaf.prog 282 #[ptr cb 1, .int .u32 (w : Nat)] ⟨I, ⟨cb, sz, T, c⟩ :: G⟩ (GrowP I G cb sz T c [] w) := by
  have htp := mTop (I := I) (G := G) (cb := cb) (T := T) hsz hA
  rw [hc1] at htp
  have h10 := hA.tp
  have hb1 : c (addS 2 (mulS 1 1)) = .int .u32 ((0 : Nat) : Int) := hA.b1
  unfold GrowP
  refine CallG.start (C := mkC Hvaf.prog) cok (args := [ptr cb 1, .int .u32 (w : Nat)]) Hvaf.func282 rfl Hvaf.ntmps282 (by simp) (by kernel_rfl) ?_
  repeat (first | refine SeqS.go cok ?_)
  refine CallG.sameL [] htp ?_
  repeat (first | (refine QuG.keep ?_; first | refine QuG.l1E cok 0 rfl rfl rfl rfl rfl (by first | exact Nat.le_of_ble_eq_true rfl | omega | (dsimp only; omega) | (simp only [addS_eq, mulS_eq]; omega)) (by assumption) ?_) | refine SeqS.go cok ?_ | refine GuardS.yes rfl ?_ | refine And.intro (Eq.refl true) ?_ | refine And.intro (by omega) ?_ | refine And.intro (by dsimp only; omega) ?_ | (refine NatS.keep ?_; first | with_reducible refine NatS.nat ?_) | (refine ValS.keep ?_; first | (with_reducible refine ValS.kI64 ?_; first | (with_reducible refine ValS.convI64 ?_ ?_ ; omega) | (with_reducible refine ValS.subI64 ?_ ?_ ?_ ; omega; omega)) | (with_reducible refine ValS.kU32 ?_; first | (with_reducible refine ValS.convU32 ?_ ?_ ; omega) | (with_reducible refine ValS.mulU32_M ?_ ?_ ; omega))) | refine W.drawI 7 cok [0, 0, 2, 6, 14, 1, 33, 127, 255, 511] [0, 1, 2, 3, 4, 5, 6, 7, 8, 9] [4, 8] (by kernel_rfl) (by kernel_rfl) ?_ | (refine CondS.keep ?_; first | refine CondS.d0 rfl (by omega) ?_))
  refine OpG.keep ?_
  refine OpG.clear0 cok rfl rfl rfl ?_
  repeat (first | (refine QuG.keep ?_; first | refine QuG.l1E cok 0 rfl rfl rfl rfl rfl (by first | exact Nat.le_of_ble_eq_true rfl | omega | (dsimp only; omega) | (simp only [addS_eq, mulS_eq]; omega)) (by assumption) ?_) | refine SeqS.go cok ?_ | (refine ValS.keep ?_; first | (with_reducible refine ValS.kI64 ?_; first | (with_reducible refine ValS.subI64 ?_ ?_ ?_ ; omega; omega))))
  refine OpG.keep ?_
  refine OpG.appendZ cok (cs := fun _ => undef) (len := 0) (cap := 0) rfl rfl rfl rfl rfl rfl rfl ⟨_, rfl⟩ ?_ rfl ?_ ?_ ?_ ?_ ?_
  · intro F w hw; rfl
  · show 0 < 32 * w - 0 - (0 - 0); omega
  · show 0 < 0 + (32 * w - 0 - (0 - 0)); omega
  · show (2 * (0 + (32 * w - 0 - (0 - 0))) + 1024) * 1 ≤ 2 ^ 48; omega
  · show 0 + (32 * w - 0 - (0 - 0)) < 2 ^ 62; omega
  intro b2 cap2 c2 k1 k2 k3
  repeat (first | (refine QuG.keep ?_; first | refine QuG.l1E cok 1 rfl rfl rfl rfl rfl (by first | exact Nat.le_of_ble_eq_true rfl | omega | (dsimp only; omega) | (simp only [addS_eq, mulS_eq]; omega)) (by assumption) ?_) | refine SeqS.go cok ?_ | refine And.intro (by dsimp only; omega) ?_ | (refine NatS.keep ?_; first | with_reducible refine NatS.nat ?_) | (refine ValS.keep ?_; first | (with_reducible refine ValS.kU32 ?_; first | (with_reducible refine ValS.convU32 ?_ ?_ ; omega) | (with_reducible refine ValS.addU32 ?_ ?_ ; omega))) | (refine still_in ?_; first | refine still_drop (by decide) ?_) | (refine OpG.keep ?_; first | refine OpG.s1 cok 1 rfl rfl rfl rfl rfl (by first | exact Nat.le_of_ble_eq_true rfl | omega | (dsimp only; omega) | (simp only [addS_eq, mulS_eq]; omega)) rfl rfl ?_) | refine W.drawI 13 cok [0, 0, 2, 6, 14, 0, 0, 64, 224, 1, 513, 2047, 4095] [0, 1, 2, 3, 4, 5, 6, 7, 8, 9, 10, 11, 12] [4] (by kernel_rfl) (by kernel_rfl) ?_)
  refine Fin.perm [] _ perm_g0 ⟨rfl, _, _, rfl, ArI.gr hA (by show 0 < 32 * w; omega) hw2 gr_e (gr_e1.trans (slL ?_)) (gr_e3.trans (vI rfl ?_)) ?_ (fun p hp => absurd hp (Nat.not_lt_zero p)) (fun p hp => ?_), gr_e⟩
  · omega
  · omega
  · omega
  · have hp' : p < 32 * w - 0 := hp
    exact k3 p (by omega)
theorem ValS.slN0 {q : Value → Prop} {b o n m z : Nat} (hl : n < m) (hq : q (.slice (some ⟨b, addS o (mulS n z), none⟩) 0 (m - n))) : ValS (.slice (some ⟨b, if m = n then o else addS o (mulS n z), none⟩) (n - n) (m - n)) q := ⟨by rw [if_neg (by omega), Nat.sub_self]; exact hq⟩
/-- mem.Arena.Grow, where the buffer has too little room -/
theorem mGrowN {I : Ent → Prop} {G : List Ent} {cb sz w b cap : Nat} {T : TypeId} {c cm : Nat → Value} {mem : List Nat} (hsz : 2435 ≤ sz) (hA : ArI c mem [⟨b, mulS cap 1, 5, cm⟩]) (h1 : c 1 = sl b 0 mem.length cap) (h2 : mem.length ≤ cap) (h4 : Row cm 0 (bvs mem)) (hw : mem.length < 32 * w) (hw2 : w ≤ 22415) (hcap : cap < 32 * w) (hc0 : mem.length < cap) :
    CallG Hvaf.prog 282 #[ptr cb 1, .int .u32 (w : Nat)] ⟨I, ⟨cb, sz, T, c⟩ :: ⟨b, mulS cap 1, 5, cm⟩ :: G⟩ (GrowP I G cb sz T c mem w) := by
  have htp := mTop (I := I) (G := ⟨b, mulS cap 1, 5, cm⟩ :: G) (cb := cb) (T := T) hsz hA
  rw [h1] at htp
  have hlen := hA.bf.len
  have h10 := hA.tp
  have hb1 : c (addS 2 (mulS 1 1)) = .int .u32 (mem.length : Nat) := hA.b1
  have hcm : ∀ p, p < mem.length → cm p = .int .u8 (mem.getD p 0 : Nat) := fun p hp => by
    have := h4.get p (by rw [bvs_len]; exact hp)
    rw [Nat.zero_add, bvs_getD' hp] at this; exact this
  unfold GrowP
  have hgr := fun c' b cap cm e e1 e3 hc q1 q2 => ArI.gr (c' := c') (b := b) (cap := cap) (cm := cm) hA hw hw2 e e1 e3 hc q1 q2
  generalize hn : mem.length = n at *
  refine CallG.start (C := mkC Hvaf.prog) cok (args := [ptr cb 1, .int .u32 (w : Nat)]) Hvaf.func282 rfl Hvaf.ntmps282 (by simp) (by kernel_rfl) ?_
  repeat (first | refine SeqS.go cok ?_)
  refine CallG.sameL [] htp ?_
  repeat (first | (refine ValS.keep ?_; with_reducible refine ValS.slN0 (by omega) ?_) | (refine QuG.keep ?_; first | refine QuG.l1E cok 0 rfl rfl rfl rfl rfl (by first | exact Nat.le_of_ble_eq_true rfl | omega | (dsimp only; omega) | (simp only [addS_eq, mulS_eq]; omega)) (by assumption) ?_) | refine SeqS.go cok ?_ | refine GuardS.yes rfl ?_ | refine And.intro (Eq.refl true) ?_ | refine And.intro (by omega) ?_ | refine And.intro (by dsimp only; omega) ?_ | (refine NatS.keep ?_; first | with_reducible refine NatS.nat ?_) | (refine ValS.keep ?_; first | (with_reducible refine ValS.kI64 ?_; first | (with_reducible refine ValS.convI64 ?_ ?_ ; omega) | (with_reducible refine ValS.subI64 ?_ ?_ ?_ ; omega; omega)) | (with_reducible refine ValS.kU32 ?_; first | (with_reducible refine ValS.convU32 ?_ ?_ ; omega) | (with_reducible refine ValS.mulU32_M ?_ ?_ ; omega))) | refine W.drawI 7 cok [0, 0, 2, 6, 14, 1, 33, 127, 255, 511] [0, 1, 2, 3, 4, 5, 6, 7, 8, 9] [4, 8] (by kernel_rfl) (by kernel_rfl) ?_ | (refine CondS.keep ?_; first | refine CondS.d0 rfl (by omega) ?_))
  refine OpG.keep ?_
  refine OpG.clear0 cok rfl rfl rfl ?_
  repeat (first | (refine QuG.keep ?_; first | refine QuG.l1E cok 0 rfl rfl rfl rfl rfl (by first | exact Nat.le_of_ble_eq_true rfl | omega | (dsimp only; omega) | (simp only [addS_eq, mulS_eq]; omega)) (by assumption) ?_) | refine SeqS.go cok ?_ | (refine ValS.keep ?_; first | (with_reducible refine ValS.kI64 ?_; first | (with_reducible refine ValS.subI64 ?_ ?_ ?_ ; omega; omega))))
  refine OpG.keep ?_
  refine OpG.appendZ cok (cs := cm) (len := n) (cap := cap) rfl rfl rfl rfl rfl rfl rfl ⟨_, rfl⟩ ?_ rfl ?_ ?_ ?_ ?_ ?_
  · intro F w hw
    have := firstCells_run (P := Hvaf.prog) hw (y := ⟨b, mulS cap 1, 5, cm⟩) (.inr (List.mem_cons_of_mem _ List.mem_cons_self)) (o := 0) (l := n) (c := cap) (m := n) (by show 0 + n ≤ mulS cap 1; rw [mulS_eq]; omega) 1 n (by rw [Nat.mul_one])
    exact this
  · show 0 < 32 * w - n - 0; omega
  · show cap < n + (32 * w - n - 0); omega
  · show (2 * (n + (32 * w - n - 0)) + 1024) * 1 ≤ 2 ^ 48; omega
  · show n + (32 * w - n - 0) < 2 ^ 62; omega
  intro b2 cap2 c2 k1 k2 k3
  repeat (first | (refine QuG.keep ?_; first | refine QuG.l1E cok 1 rfl rfl rfl rfl rfl (by first | exact Nat.le_of_ble_eq_true rfl | omega | (dsimp only; omega) | (simp only [addS_eq, mulS_eq]; omega)) (by assumption) ?_) | refine SeqS.go cok ?_ | refine And.intro (by dsimp only; omega) ?_ | (refine NatS.keep ?_; first | with_reducible refine NatS.nat ?_) | (refine ValS.keep ?_; first | (with_reducible refine ValS.kU32 ?_; first | (with_reducible refine ValS.convU32 ?_ ?_ ; omega) | (with_reducible refine ValS.addU32 ?_ ?_ ; omega))) | (refine still_in ?_; first | refine still_drop (by decide) ?_) | (refine OpG.keep ?_; first | refine OpG.s1 cok 1 rfl rfl rfl rfl rfl (by first | exact Nat.le_of_ble_eq_true rfl | omega | (dsimp only; omega) | (simp only [addS_eq, mulS_eq]; omega)) rfl rfl ?_) | refine W.drawI 13 cok [0, 0, 2, 6, 14, 0, 0, 64, 224, 1, 513, 2047, 4095] [0, 1, 2, 3, 4, 5, 6, 7, 8, 9, 10, 11, 12] [4] (by kernel_rfl) (by kernel_rfl) ?_)
  refine Fin.perm [_] _ perm_g1 ⟨rfl, _, _, rfl, hgr _ _ cap2 c2 gr_e (gr_e1.trans (slL ?_)) (gr_e3.trans (vI rfl ?_)) ?_ (fun p hp => ?_) (fun p hp => ?_), gr_e⟩
  · omega
  · omega
  · omega
  · rw [k2 p hp]; exact hcm p hp
  · exact k3 p (by omega)
/-- mem.Arena.Grow, where the buffer is full -/
theorem mGrowF {I : Ent → Prop} {G : List Ent} {cb sz w b cap : Nat} {T : TypeId} {c cm : Nat → Value} {mem : List Nat} (hsz : 2435 ≤ sz) (hA : ArI c mem [⟨b, mulS cap 1, 5, cm⟩]) (h1 : c 1 = sl b 0 mem.length cap) (h2 : mem.length ≤ cap) (h4 : Row cm 0 (bvs mem)) (hw : mem.length < 32 * w) (hw2 : w ≤ 22415) (hc0 : mem.length = cap) :
    CallG Hvaf.prog 282 #[ptr cb 1, .int .u32 (w : Nat)] ⟨I, ⟨cb, sz, T, c⟩ :: ⟨b, mulS cap 1, 5, cm⟩ :: G⟩ (GrowP I G cb sz T c mem w) := by
  have htp := mTop (I := I) (G := ⟨b, mulS cap 1, 5, cm⟩ :: G) (cb := cb) (T := T) hsz hA
  rw [h1] at htp
  have hlen := hA.bf.len
  have h10 := hA.tp
  have hb1 : c (addS 2 (mulS 1 1)) = .int .u32 (mem.length : Nat) := hA.b1
  have hcm : ∀ p, p < mem.length → cm p = .int .u8 (mem.getD p 0 : Nat) := fun p hp => by
    have := h4.get p (by rw [bvs_len]; exact hp)
    rw [Nat.zero_add, bvs_getD' hp] at this; exact this
  unfold GrowP
  have hgr := fun c' b cap cm e e1 e3 hc q1 q2 => ArI.gr (c' := c') (b := b) (cap := cap) (cm := cm) hA hw hw2 e e1 e3 hc q1 q2
  generalize hn : mem.length = n at *
  subst hc0
  refine CallG.start (C := mkC Hvaf.prog) cok (args := [ptr cb 1, .int .u32 (w : Nat)]) Hvaf.func282 rfl Hvaf.ntmps282 (by simp) (by kernel_rfl) ?_
  repeat (first | refine SeqS.go cok ?_)
  refine CallG.sameL [] htp ?_
  repeat (first | (refine ValS.keep ?_; refine ValS.slZ ?_) | (refine QuG.keep ?_; first | refine QuG.l1E cok 0 rfl rfl rfl rfl rfl (by first | exact Nat.le_of_ble_eq_true rfl | omega | (dsimp only; omega) | (simp only [addS_eq, mulS_eq]; omega)) (by assumption) ?_) | refine SeqS.go cok ?_ | refine GuardS.yes rfl ?_ | refine And.intro (Eq.refl true) ?_ | refine And.intro (by omega) ?_ | refine And.intro (by dsimp only; omega) ?_ | (refine NatS.keep ?_; first | with_reducible refine NatS.nat ?_) | (refine ValS.keep ?_; first | (with_reducible refine ValS.kI64 ?_; first | (with_reducible refine ValS.convI64 ?_ ?_ ; omega) | (with_reducible refine ValS.subI64 ?_ ?_ ?_ ; omega; omega)) | (with_reducible refine ValS.kU32 ?_; first | (with_reducible refine ValS.convU32 ?_ ?_ ; omega) | (with_reducible refine ValS.mulU32_M ?_ ?_ ; omega))) | refine W.drawI 7 cok [0, 0, 2, 6, 14, 1, 33, 127, 255, 511] [0, 1, 2, 3, 4, 5, 6, 7, 8, 9] [4, 8] (by kernel_rfl) (by kernel_rfl) ?_ | (refine CondS.keep ?_; first | refine CondS.d0 rfl (by omega) ?_))
  refine OpG.keep ?_
  refine OpG.clear0 cok rfl rfl rfl ?_
  repeat (first | (refine QuG.keep ?_; first | refine QuG.l1E cok 0 rfl rfl rfl rfl rfl (by first | exact Nat.le_of_ble_eq_true rfl | omega | (dsimp only; omega) | (simp only [addS_eq, mulS_eq]; omega)) (by assumption) ?_) | refine SeqS.go cok ?_ | (refine ValS.keep ?_; first | (with_reducible refine ValS.kI64 ?_; first | (with_reducible refine ValS.subI64 ?_ ?_ ?_ ; omega; omega))))
  refine OpG.keep ?_
  refine OpG.appendZ cok (cs := cm) (len := n) (cap := n) rfl rfl rfl rfl rfl rfl rfl ⟨_, rfl⟩ ?_ rfl ?_ ?_ ?_ ?_ ?_
  · intro F w hw
    have := firstCells_run (P := Hvaf.prog) hw (y := ⟨b, mulS n 1, 5, cm⟩) (.inr (List.mem_cons_of_mem _ List.mem_cons_self)) (o := 0) (l := n) (c := n) (m := n) (by show 0 + n ≤ mulS n 1; rw [mulS_eq]; omega) 1 n (by rw [Nat.mul_one])
    exact this
  · show 0 < 32 * w - n - 0; omega
  · show n < n + (32 * w - n - 0); omega
  · show (2 * (n + (32 * w - n - 0)) + 1024) * 1 ≤ 2 ^ 48; omega
  · show n + (32 * w - n - 0) < 2 ^ 62; omega
  intro b2 cap2 c2 k1 k2 k3
  repeat (first | (refine QuG.keep ?_; first | refine QuG.l1E cok 1 rfl rfl rfl rfl rfl (by first | exact Nat.le_of_ble_eq_true rfl | omega | (dsimp only; omega) | (simp only [addS_eq, mulS_eq]; omega)) (by assumption) ?_) | refine SeqS.go cok ?_ | refine And.intro (by dsimp only; omega) ?_ | (refine NatS.keep ?_; first | with_reducible refine NatS.nat ?_) | (refine ValS.keep ?_; first | (with_reducible refine ValS.kU32 ?_; first | (with_reducible refine ValS.convU32 ?_ ?_ ; omega) | (with_reducible refine ValS.addU32 ?_ ?_ ; omega))) | (refine still_in ?_; first | refine still_drop (by decide) ?_) | (refine OpG.keep ?_; first | refine OpG.s1 cok 1 rfl rfl rfl rfl rfl (by first | exact Nat.le_of_ble_eq_true rfl | omega | (dsimp only; omega) | (simp only [addS_eq, mulS_eq]; omega)) rfl rfl ?_) | refine W.drawI 13 cok [0, 0, 2, 6, 14, 0, 0, 64, 224, 1, 513, 2047, 4095] [0, 1, 2, 3, 4, 5, 6, 7, 8, 9, 10, 11, 12] [4] (by kernel_rfl) (by kernel_rfl) ?_)
  refine Fin.perm [_] _ perm_g1 ⟨rfl, _, _, rfl, hgr _ _ cap2 c2 gr_e (gr_e1.trans (slL ?_)) (gr_e3.trans (vI rfl ?_)) ?_ (fun p hp => ?_) (fun p hp => ?_), gr_e⟩
  · omega
  · omega
  · omega
  · rw [k2 p hp]; exact hcm p hp
  · exact k3 p (by omega)
/-- mem.Arena.Grow, where the buffer has room -/
theorem mGrowR {I : Ent → Prop} {G : List Ent} {cb sz w b cap : Nat} {T : TypeId} {c cm : Nat → Value} {mem : List Nat} (hsz : 2435 ≤ sz) (hA : ArI c mem [⟨b, mulS cap 1, 5, cm⟩]) (h1 : c 1 = sl b 0 mem.length cap) (h2 : mem.length ≤ cap) (h4 : Row cm 0 (bvs mem)) (hw : mem.length < 32 * w) (hw2 : w ≤ 22415) (hcap : 32 * w ≤ cap) :
    CallG Hvaf.prog 282 #[ptr cb 1, .int .u32 (w : Nat)] ⟨I, ⟨cb, sz, T, c⟩ :: ⟨b, mulS cap 1, 5, cm⟩ :: G⟩ (GrowP I G cb sz T c mem w) := by
  have htp := mTop (I := I) (G := ⟨b, mulS cap 1, 5, cm⟩ :: G) (cb := cb) (T := T) hsz hA
  rw [h1] at htp
  have hlen := hA.bf.len
  have h10 := hA.tp
  have hb1 : c (addS 2 (mulS 1 1)) = .int .u32 (mem.length : Nat) := hA.b1
  have hcm : ∀ p, p < mem.length → cm p = .int .u8 (mem.getD p 0 : Nat) := fun p hp => by
    have := h4.get p (by rw [bvs_len]; exact hp)
    rw [Nat.zero_add, bvs_getD' hp] at this; exact this
  unfold GrowP
  have hgr := fun c' b cap cm e e1 e3 hc q1 q2 => ArI.gr (c' := c') (b := b) (cap := cap) (cm := cm) hA hw hw2 e e1 e3 hc q1 q2
  generalize hn : mem.length = n at *
  refine CallG.start (C := mkC Hvaf.prog) cok (args := [ptr cb 1, .int .u32 (w : Nat)]) Hvaf.func282 rfl Hvaf.ntmps282 (by simp) (by kernel_rfl) ?_
  repeat (first | refine SeqS.go cok ?_)
  refine CallG.sameL [] htp ?_
  repeat (first | (refine ValS.keep ?_; with_reducible refine ValS.slN0 (by omega) ?_) | (refine QuG.keep ?_; first | refine QuG.l1E cok 0 rfl rfl rfl rfl rfl (by first | exact Nat.le_of_ble_eq_true rfl | omega | (dsimp only; omega) | (simp only [addS_eq, mulS_eq]; omega)) (by assumption) ?_) | refine SeqS.go cok ?_ | refine GuardS.yes rfl ?_ | refine And.intro (Eq.refl true) ?_ | refine And.intro (by omega) ?_ | refine And.intro (by dsimp only; omega) ?_ | (refine NatS.keep ?_; first | with_reducible refine NatS.nat ?_) | (refine ValS.keep ?_; first | (with_reducible refine ValS.kI64 ?_; first | (with_reducible refine ValS.convI64 ?_ ?_ ; omega) | (with_reducible refine ValS.subI64 ?_ ?_ ?_ ; omega; omega)) | (with_reducible refine ValS.kU32 ?_; first | (with_reducible refine ValS.convU32 ?_ ?_ ; omega) | (with_reducible refine ValS.mulU32_M ?_ ?_ ; omega))) | refine W.drawI 7 cok [0, 0, 2, 6, 14, 1, 33, 127, 255, 511] [0, 1, 2, 3, 4, 5, 6, 7, 8, 9] [4, 8] (by kernel_rfl) (by kernel_rfl) ?_ | (refine CondS.keep ?_; first | refine CondS.d0 rfl (by omega) ?_))
  refine OpG.keep ?_
  refine OpG.clear0 cok rfl rfl rfl ?_
  repeat (first | (refine QuG.keep ?_; first | refine QuG.l1E cok 0 rfl rfl rfl rfl rfl (by first | exact Nat.le_of_ble_eq_true rfl | omega | (dsimp only; omega) | (simp only [addS_eq, mulS_eq]; omega)) (by assumption) ?_) | refine SeqS.go cok ?_ | (refine ValS.keep ?_; first | (with_reducible refine ValS.kI64 ?_; first | (with_reducible refine ValS.subI64 ?_ ?_ ?_ ; omega; omega))))
  refine OpG.keep ?_
  refine OpG.appendZR cok 1 (m := 32 * w - n - 0) rfl rfl rfl rfl rfl (by decide) rfl rfl rfl rfl rfl rfl (by omega) (by omega) (by omega) (by show 0 + (n + (32 * w - n - 0)) ≤ mulS cap 1; rw [mulS_eq]; omega) ?_
  repeat (first | (refine QuG.keep ?_; first | refine QuG.l1E cok 0 rfl rfl rfl rfl rfl (by first | exact Nat.le_of_ble_eq_true rfl | omega | (dsimp only; omega) | (simp only [addS_eq, mulS_eq]; omega)) (by assumption) ?_) | refine SeqS.go cok ?_ | refine And.intro (by dsimp only; omega) ?_ | (refine NatS.keep ?_; first | with_reducible refine NatS.nat ?_) | (refine ValS.keep ?_; first | (with_reducible refine ValS.kU32 ?_; first | (with_reducible refine ValS.convU32 ?_ ?_ ; omega) | (with_reducible refine ValS.addU32 ?_ ?_ ; omega))) | (refine still_in ?_; first | refine still_drop (by decide) ?_) | (refine OpG.keep ?_; first | refine OpG.s1 cok 0 rfl rfl rfl rfl rfl (by first | exact Nat.le_of_ble_eq_true rfl | omega | (dsimp only; omega) | (simp only [addS_eq, mulS_eq]; omega)) rfl rfl ?_) | refine W.drawI 13 cok [0, 0, 2, 6, 14, 0, 0, 64, 224, 1, 513, 2047, 4095] [0, 1, 2, 3, 4, 5, 6, 7, 8, 9, 10, 11, 12] [4] (by kernel_rfl) (by kernel_rfl) ?_)
  refine Fin.perm [] _ perm_g2 ⟨rfl, _, _, rfl, hgr _ _ cap _ gr_e (gr_e1.trans (slL ?_)) (gr_e3.trans (vI rfl ?_)) ?_ (fun p hp => ?_) (fun p hp => ?_), gr_e⟩
  · omega
  · omega
  · omega
  · show updN cm (0 + n) _ p = _
    unfold updN
    rw [if_neg (by omega)]; exact hcm p hp
  · show updN cm (0 + n) (List.replicate (32 * w - n - 0) _) (n + p) = _
    unfold updN
    rw [List.length_replicate, if_pos (by omega), List.getD_eq_getElem?_getD, List.getElem?_replicate, if_pos (by omega)]; rfl
/-- mem.Arena.Grow -/
theorem mGrow {I : Ent → Prop} {G M : List Ent} {cb sz w : Nat} {T : TypeId} {c : Nat → Value} {mem : List Nat} (hsz : 2435 ≤ sz) (hA : ArI c mem M) (hw : mem.length < 32 * w) (hw2 : w ≤ 22415) :
    CallG Hvaf.prog 282 #[ptr cb 1, .int .u32 (w : Nat)] ⟨I, ⟨cb, sz, T, c⟩ :: (G ++ M)⟩ (GrowP I G cb sz T c mem w) := by
  rcases hA.bf.out with ⟨h1, rfl, rfl⟩ | ⟨b, cap, cm, h1, h2, rfl, h4⟩
  · rw [List.append_nil]
    exact mGrow0 hsz hA h1 (by simp at hw; omega) hw2
  · refine CallG.perm (⟨cb, sz, T, c⟩ :: ⟨b, mulS cap 1, 5, cm⟩ :: G) ((List.perm_append_comm).cons _) ?_
    by_cases hr : 32 * w ≤ cap
    · exact mGrowR hsz hA h1 h2 h4 hw hw2 hr
    · by_cases hf : cap = mem.length
      · exact mGrowF hsz hA h1 h2 h4 hw hw2 hf.symm
      · exact mGrowN hsz hA h1 h2 h4 hw hw2 (by omega) (by omega)
end Go.Proofs.YgvafwGreat
