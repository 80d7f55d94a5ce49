import Derived.Test.YgvafwGreatV18
set_option exponentiation.threshold 1000
set_option maxRecDepth 100000
set_option maxHeartbeats 4000000
set_option linter.unusedVariables false
set_option linter.unusedSimpArgs false
-- v2
-- v4
-- v5
-- v6
-- v7
namespace Go.Proofs.YgvafwGreat
open Go.HL Go.Proofs

/-- vault.Vault.live -/
theorem vLive {I : Ent → Prop} {G : List Ent} {cb sz nm : Nat} {T : TypeId} {c : Nat → Value} (hsz : 27019 ≤ sz) (hnm : c 27014 = .int .i32 (nm : Nat)) (h1 : 1 ≤ nm) :
    CallG Hvaf.prog 365 #[ptr cb 2435, .int .i32 ((0 : Nat) : Int)] ⟨I, ⟨cb, sz, T, c⟩ :: G⟩ fun r S' => ⟨I, ⟨cb, sz, T, c⟩ :: G⟩ = S' ∧ r = .bool true := by
  refine CallG.start (C := mkC Hvaf.prog) cok (args := [ptr cb 2435, .int .i32 ((0 : Nat) : Int)]) Hvaf.func365 rfl Hvaf.ntmps365 (by simp) (by kernel_rfl) ?_
  repeat (first | (refine QuG.keep ?_; first | refine QuG.l1E cok 0 rfl rfl rfl rfl rfl (by first | exact Nat.le_of_ble_eq_true rfl | omega | (dsimp only; omega) | (simp only [addS_eq, mulS_eq]; omega)) (by assumption) ?_) | refine SeqS.go cok ?_ | refine GuardS.yes rfl ?_ | (refine GuardS.keep ?_; first | refine GuardS.T1 rfl (by omega) ?_))
  exact Fin.same ⟨rfl, rfl⟩
/-- The last entry undone and taken off. -/
def pop1 (V : Vl) : Vl := { undo1 V (V.jr.getD (V.jr.length - 1) dVE) with jr := V.jr.dropLast }
def popN : Nat → Vl → Vl
  | 0, V => V
  | k + 1, V => popN k (pop1 V)
def PopOk : Nat → Vl → Prop
  | 0, _ => True
  | k + 1, V => EOk V (V.jr.getD (V.jr.length - 1) dVE) ∧ PopOk k (pop1 V)
theorem undo1_jr (V : Vl) (e : VE) : (undo1 V e).jr = V.jr := by unfold undo1; repeat (first | split | rfl)
theorem undo1_nm (V : Vl) (e : VE) : (undo1 V e).nm = V.nm := by unfold undo1; repeat (first | split | rfl)
theorem undo1_mq (V : Vl) (e : VE) : (undo1 V e).mq = V.mq := by unfold undo1; repeat (first | split | rfl)
theorem pop1_len (V : Vl) : (pop1 V).jr.length = V.jr.length - 1 := by show V.jr.dropLast.length = _; simp
theorem pop1_mq (V : Vl) : (pop1 V).mq = V.mq := undo1_mq _ _
theorem pop1_nm (V : Vl) : (pop1 V).nm = V.nm := undo1_nm _ _
theorem VI.popJ {I : Ent → Prop} {c : Nat → Value} {W : Vl} {G : List Ent} {jb jcap : Nat} (h : VI I c W G) (hl : 0 < W.jr.length) (hc : c 10629 = sl jb 0 W.jr.length jcap) : VI I (upd c 10629 (sl jb 0 (W.jr.length - 1) jcap)) { W with jr := W.jr.dropLast } G := by
  obtain ⟨Y, MJ, hp, hA⟩ := h.openJ
  obtain ⟨b, cap, cj, h1, h2, rfl, h4⟩ := hA.jr.some (by rw [List.length_map]; exact hl)
  rw [List.length_map] at h1 h2
  rw [hc] at h1
  obtain ⟨hb, -, rfl⟩ := Value.slice.inj h1
  obtain ⟨rfl, -, -⟩ : jb = b ∧ True ∧ True := by
    have := congrArg (fun o : Option Addr => o.map (fun a => a.block)) hb
    simpa using this
  have hE : Els ⟨jb, mulS jcap 9, 228, cj⟩ 0 9 (W.jr.dropLast.map VE.enc) := by
    refine ⟨fun l hl => ?_, ⟨fun j hj => ?_⟩, ?_⟩
    · obtain ⟨x, _, rfl⟩ := List.mem_map.1 hl; rfl
    · have hsp : (W.jr.map VE.enc).flatten = (W.jr.dropLast.map VE.enc).flatten ++ (W.jr.getLast (List.ne_nil_of_length_pos hl)).enc := by
        conv => lhs; rw [← List.dropLast_concat_getLast (l := W.jr) (List.ne_nil_of_length_pos hl)]
        rw [List.map_append, List.flatten_append]; simp
      rw [h4.row.get j (by rw [hsp, List.length_append]; omega), hsp, List.getD_eq_getElem?_getD, List.getD_eq_getElem?_getD, List.getElem?_append_left hj]
    · have hf := h4.fit
      rw [List.length_map] at hf
      rw [List.length_map, List.length_dropLast]
      have : (W.jr.length - 1) * 9 ≤ W.jr.length * 9 := Nat.mul_le_mul_right _ (by omega)
      omega
  have := hA.close (upd c 10629 (sl jb 0 (W.jr.length - 1) jcap)) W.jr.dropLast W.rf [⟨jb, mulS jcap 9, 228, cj⟩] (fun k h1 h2 => updNe h1) (by
    rw [updEq]
    exact OwnL.of hE (by rw [List.length_map, List.length_dropLast]) (by rw [List.length_map, List.length_dropLast]; omega)) ((updNe (by decide)).trans h.rf)
  exact this.perm hp
theorem popV {I : Ent → Prop} {c : Nat → Value} {V : Vl} {G : List Ent} {jb jcap n : Nat} (h : VI I c (undo1 V (V.jr.getD (n - 1) dVE)) G) (hn : V.jr.length = n) (hl : 0 < n) (hc : c 10629 = sl jb 0 n jcap) : VI I (upd c 10629 (sl jb 0 (n - 1) jcap)) (pop1 V) G := by
  have := h.popJ (jb := jb) (jcap := jcap) (by rw [undo1_jr, hn]; exact hl) (by rw [undo1_jr, hn]; exact hc)
  rw [undo1_jr, hn] at this
  unfold pop1
  rw [hn]; exact this
theorem out27014 {c : Nat → Value} {v : Value} : Out c (upd c 27014 v) := fun k hk => updNe (by omega)
theorem VI.setNm {I : Ent → Prop} {c : Nat → Value} {V : Vl} {G : List Ent} (h : VI I c V G) (k : Nat) : VI I (upd c 27014 (.int .i32 (k : Nat))) { V with nm := k } G := by
  have e : ∀ j, j ≠ 27014 → upd c 27014 (.int .i32 (k : Nat)) j = c j := fun j hj => updNe hj
  obtain ⟨MA, MS, MJ, ML, MT, MH, hq, hb⟩ := h.own
  refine ⟨⟨MA, MS, MJ, ML, MT, MH, hq, ?_⟩, fun q hq => ?_, fun q hq => ?_, ?_, updEq, ?_, h.cd⟩
  · refine ⟨?_, ?_, ?_, ?_, ?_, ?_⟩
    · rw [e _ (by omega)]; exact hb.oa
    · rw [e _ (by omega)]; exact hb.os
    · rw [e _ (by omega)]; exact hb.oj
    · rw [e _ (by omega)]; exact hb.ol
    · rw [e _ (by omega)]; exact hb.ot
    · rw [e _ (by omega)]; exact hb.oh
  · rw [e _ (by omega)]; exact h.ta q hq
  · rw [e _ (by omega)]; exact h.ts q hq
  · rw [e _ (by omega)]; exact h.mrk
  · rw [e _ (by omega)]; exact h.rf
theorem popN_succ : ∀ (k : Nat) (V : Vl), popN (k + 1) V = pop1 (popN k V)
  | 0, _ => rfl
  | k + 1, V => by
    show popN (k + 1) (pop1 V) = _
    rw [popN_succ k (pop1 V)]; rfl
theorem undo1_swap (V : Vl) (e : VE) : undo1 { V with nm := 1 } e = { undo1 V e with nm := 1 } := by
  unfold undo1
  repeat (first | split | rfl)
theorem pop1_swap {V : Vl} : pop1 { V with nm := 1 } = { pop1 V with nm := 1 } := by
  unfold pop1
  rw [undo1_swap]
theorem EOk.nm1 {V : Vl} {e : VE} (h : EOk V e) : EOk { V with nm := 1 } e := ⟨h.kd, h.ac, h.sl, h.tp, h.lg⟩
/-- vault.Vault.UndoOne, above the mark -/
theorem vUndoOneY {I : Ent → Prop} {R G : List Ent} {cb sz : Nat} {T : TypeId} {c : Nat → Value} {V : Vl} (hsz : 27019 ≤ sz) (hV : VI I c V G) (hO : VOk V) (hnm : V.nm = 1) (hmq : V.mq < V.jr.length) (hE0 : EOk V (V.jr.getD (V.jr.length - 1) dVE)) :
    CallG Hvaf.prog 366 #[ptr cb 2435] ⟨I, ⟨cb, sz, T, c⟩ :: (R ++ G)⟩ fun r S' => r = .bool true ∧ ∃ c' G', S' = ⟨I, ⟨cb, sz, T, c'⟩ :: (R ++ G')⟩ ∧ VI I c' (pop1 V) G' ∧ Out c c' := by
  have hn := hV.nm
  rw [hnm] at hn
  have hlv := vLive (I := I) (G := R ++ G) (cb := cb) (T := T) hsz hn (Nat.le_refl _)
  have hjl := hO.jln
  have hmk : c (addS 10630 (mulS 0 1)) = .int .i32 (V.mq : Nat) := hV.mrk
  obtain ⟨jb, jcap, cj, hj0, hjc, hj1, hj2⟩ := hV.jblk (by omega)
  have hun := vUndo (R := R) (cb := cb) (T := T) (q := V.jr.length - 1) hsz hV hO hE0 hj1 hj2 (by omega) rfl
  generalize hn0 : V.jr.length = n at *
  refine CallG.start (C := mkC Hvaf.prog) cok (args := [ptr cb 2435]) Hvaf.func366 rfl Hvaf.ntmps366 (by simp) (by kernel_rfl) ?_
  repeat (first | (refine QuG.keep ?_; first | refine QuG.l1E cok 0 rfl rfl rfl rfl rfl (by first | exact Nat.le_of_ble_eq_true rfl | omega | (dsimp only; omega) | (simp only [addS_eq, mulS_eq]; omega)) (by assumption) ?_) | refine SeqS.go cok ?_ | refine GuardS.yes rfl ?_ | (refine ValS.keep ?_; first | (with_reducible refine ValS.kI32 ?_; first | (with_reducible refine ValS.subI32_L ?_ ?_ ?_ ; omega; omega))) | refine W.drawI 2 cok [0, 1, 3, 7, 7, 23, 55, 119, 247, 511, 1023, 2047, 2047, 2047, 10239, 26623, 59391, 124927, 6143, 268287, 1046527, 2095103, 4192255, 8388607, 16777215, 33554431] [0, 1, 2, 3, 4, 5, 6, 7, 8, 9, 10, 11, 12, 13, 14, 15, 16, 17, 18, 19, 20, 21, 22, 23, 24, 25] [7, 16, 21] (by kernel_rfl) (by kernel_rfl) ?_ | (refine GuardS.keep ?_; first | refine GuardS.F0 rfl (by omega) ?_))
  refine CallG.sameL [] hlv ?_
  repeat (first | (refine QuG.keep ?_; first | refine QuG.l1E cok 0 rfl rfl rfl rfl rfl (by first | exact Nat.le_of_ble_eq_true rfl | omega | (dsimp only; omega) | (simp only [addS_eq, mulS_eq]; omega)) (by assumption) ?_) | refine SeqS.go cok ?_ | refine GuardS.yes rfl ?_ | refine And.intro (by omega) ?_ | refine And.intro (by dsimp only; omega) ?_ | (refine NatS.keep ?_; first | with_reducible refine NatS.nat ?_) | (refine ValS.keep ?_; first | (with_reducible refine ValS.kI64 ?_; first | (with_reducible refine ValS.convI64 ?_ ?_ ; omega) | (with_reducible refine ValS.subI64_L ?_ ?_ ?_ ; omega; omega)) | (with_reducible refine ValS.kI32 ?_; first | (with_reducible refine ValS.subI32_L ?_ ?_ ?_ ; omega; omega))) | (refine still_in ?_; first | refine still_drop (by decide) ?_) | (refine CondS.keep ?_; first | refine CondS.d0 rfl (by omega) ?_))
  refine hun.mono ?_
  rintro r _ - ⟨rfl, c', G', rfl, hV', hc1, hc2, hout⟩
  have hj3 : c' 10629 = sl jb 0 n jcap := hc1.trans hj0
  repeat (first | (refine QuG.keep ?_; first | refine QuG.l1E cok 0 rfl rfl rfl rfl rfl (by first | exact Nat.le_of_ble_eq_true rfl | omega | (dsimp only; omega) | (simp only [addS_eq, mulS_eq]; omega)) (by assumption) ?_) | refine SeqS.go cok ?_ | refine CondS.f rfl ?_ | refine And.intro (Eq.refl true) ?_ | refine And.intro (by omega) ?_ | (refine NatS.keep ?_; first | with_reducible refine NatS.nat ?_) | (refine ValS.keep ?_; first | (with_reducible refine ValS.kI64 ?_; first | (with_reducible refine ValS.subI64_L ?_ ?_ ?_ ; omega; omega)) | with_reducible refine ValS.sl0 ?_) | (refine OpG.keep ?_; first | refine OpG.s1 cok 0 rfl rfl rfl rfl rfl (by first | exact Nat.le_of_ble_eq_true rfl | omega | (dsimp only; omega) | (simp only [addS_eq, mulS_eq]; omega)) rfl rfl ?_))
  exact Fin.same ⟨rfl, _, G', rfl, popV (n := n) hV' hn0 (by omega) hj3, hout.trans out10629⟩
/-- vault.Vault.UndoOne, at the mark -/
theorem vUndoOneN {I : Ent → Prop} {R G : List Ent} {cb sz : Nat} {T : TypeId} {c : Nat → Value} {V : Vl} (hsz : 27019 ≤ sz) (hV : VI I c V G) (hO : VOk V) (hnm : V.nm = 1) (hmq : V.jr.length = V.mq) :
    CallG Hvaf.prog 366 #[ptr cb 2435] ⟨I, ⟨cb, sz, T, c⟩ :: (R ++ G)⟩ fun r S' => ⟨I, ⟨cb, sz, T, c⟩ :: (R ++ G)⟩ = S' ∧ r = .bool false := by
  have hn := hV.nm
  rw [hnm] at hn
  have hlv := vLive (I := I) (G := R ++ G) (cb := cb) (T := T) hsz hn (Nat.le_refl _)
  have hjl := hO.jln
  have hmk : c (addS 10630 (mulS 0 1)) = .int .i32 (V.mq : Nat) := hV.mrk
  obtain ⟨ad, cap, hf⟩ : ∃ ad cap, c 10629 = .slice ad V.jr.length cap := by
    obtain ⟨MA, MS, MJ, ML, MT, MH, hpm, hb⟩ := hV.own
    obtain ⟨ad, cap, h⟩ := hb.oj.form
    rw [List.length_map] at h; exact ⟨ad, cap, h⟩
  by_cases h0 : V.jr.length = 0
  · rw [h0] at hf
    refine CallG.start (C := mkC Hvaf.prog) cok (args := [ptr cb 2435]) Hvaf.func366 rfl Hvaf.ntmps366 (by simp) (by kernel_rfl) ?_
    repeat (first | (refine QuG.keep ?_; first | refine QuG.l1E cok 0 rfl rfl rfl rfl rfl (by first | exact Nat.le_of_ble_eq_true rfl | omega | (dsimp only; omega) | (simp only [addS_eq, mulS_eq]; omega)) (by assumption) ?_) | refine SeqS.go cok ?_ | refine GuardS.no rfl ?_ | refine GuardS.U rfl ?_ | refine CondS.t rfl ?_ | refine W.drawI 2 cok [0, 1, 3, 7, 7, 23, 55, 119, 247, 511, 1023, 2047, 2047, 2047, 10239, 26623, 59391, 124927, 6143, 268287, 1046527, 2095103, 4192255, 8388607, 16777215, 33554431] [0, 1, 2, 3, 4, 5, 6, 7, 8, 9, 10, 11, 12, 13, 14, 15, 16, 17, 18, 19, 20, 21, 22, 23, 24, 25] [7, 16, 21] (by kernel_rfl) (by kernel_rfl) ?_)
    exact Fin.same ⟨rfl, rfl⟩
  · refine CallG.start (C := mkC Hvaf.prog) cok (args := [ptr cb 2435]) Hvaf.func366 rfl Hvaf.ntmps366 (by simp) (by kernel_rfl) ?_
    repeat (first | (refine QuG.keep ?_; first | refine QuG.l1E cok 0 rfl rfl rfl rfl rfl (by first | exact Nat.le_of_ble_eq_true rfl | omega | (dsimp only; omega) | (simp only [addS_eq, mulS_eq]; omega)) (by assumption) ?_) | refine SeqS.go cok ?_ | refine GuardS.yes rfl ?_ | (refine ValS.keep ?_; first | (with_reducible refine ValS.kI32 ?_; first | (with_reducible refine ValS.subI32_L ?_ ?_ ?_ ; omega; omega))) | refine W.drawI 2 cok [0, 1, 3, 7, 7, 23, 55, 119, 247, 511, 1023, 2047, 2047, 2047, 10239, 26623, 59391, 124927, 6143, 268287, 1046527, 2095103, 4192255, 8388607, 16777215, 33554431] [0, 1, 2, 3, 4, 5, 6, 7, 8, 9, 10, 11, 12, 13, 14, 15, 16, 17, 18, 19, 20, 21, 22, 23, 24, 25] [7, 16, 21] (by kernel_rfl) (by kernel_rfl) ?_ | (refine GuardS.keep ?_; first | refine GuardS.F0 rfl (by omega) ?_))
    refine CallG.sameL [] hlv ?_
    repeat (first | (refine QuG.keep ?_; first | refine QuG.l1E cok 0 rfl rfl rfl rfl rfl (by first | exact Nat.le_of_ble_eq_true rfl | omega | (dsimp only; omega) | (simp only [addS_eq, mulS_eq]; omega)) (by assumption) ?_) | refine SeqS.go cok ?_ | refine GuardS.yes rfl ?_ | refine And.intro (by dsimp only; omega) ?_ | (refine NatS.keep ?_; first | with_reducible refine NatS.nat ?_) | (refine ValS.keep ?_; first | (with_reducible refine ValS.kI64 ?_; first | (with_reducible refine ValS.convI64 ?_ ?_ ; omega)) | (with_reducible refine ValS.kI32 ?_; first | (with_reducible refine ValS.subI32_L ?_ ?_ ?_ ; omega; omega))) | (refine still_in ?_; first | refine still_drop (by decide) ?_) | (refine CondS.keep ?_; first | refine CondS.d1 rfl (by omega) ?_))
    exact Fin.same ⟨rfl, rfl⟩
/-- vault.Vault.RevertTo, to the first snapshot -/
theorem vRevertTo {I : Ent → Prop} {R G : List Ent} {cb sz : Nat} {T : TypeId} {c : Nat → Value} {V : Vl} (hsz : 27019 ≤ sz) (hV : VI I c V G) (hnm : 1 ≤ V.nm) (hmq : V.mq ≤ V.jr.length) (hP : PopOk (V.jr.length - V.mq) V) (hO : ∀ k, k ≤ V.jr.length - V.mq → VOk (popN k V)) :
    CallG Hvaf.prog 259 #[ptr cb 2435, .int .i32 ((0 : Nat) : Int)] ⟨I, ⟨cb, sz, T, c⟩ :: (R ++ G)⟩ fun r S' => r = .bool true ∧ ∃ c' G', S' = ⟨I, ⟨cb, sz, T, c'⟩ :: (R ++ G')⟩ ∧ VI I c' { popN (V.jr.length - V.mq) V with nm := 0 } G' ∧ Out c c' := by
  have hlv := vLive (I := I) (G := R ++ G) (cb := cb) (T := T) hsz hV.nm hnm
  have hV1 := hV.setNm 1
  generalize hk : V.jr.length - V.mq = K at *
  refine CallG.start (C := mkC Hvaf.prog) cok (args := [ptr cb 2435, .int .i32 ((0 : Nat) : Int)]) Hvaf.func259 rfl Hvaf.ntmps259 (by simp) (by kernel_rfl) ?_
  repeat (first | refine SeqS.go cok ?_)
  refine CallG.sameL [] hlv ?_
  repeat (first | refine SeqS.go cok ?_ | refine CondS.f rfl ?_ | (refine ValS.keep ?_; first | (with_reducible refine ValS.kI32 ?_; first | (with_reducible refine ValS.addI32_L ?_ ?_ ; omega))) | (refine OpG.keep ?_; first | refine OpG.s1 cok 0 rfl rfl rfl rfl rfl (by first | exact Nat.le_of_ble_eq_true rfl | omega | (dsimp only; omega) | (simp only [addS_eq, mulS_eq]; omega)) rfl rfl ?_))
  refine W.loopF cok (by kernel_rfl) 0 (fun (k : Nat) e' S' => ∃ c' G', S' = ⟨I, ⟨cb, sz, T, c'⟩ :: (R ++ G')⟩ ∧ k ≤ K ∧ VI I c' { popN k V with nm := 1 } G' ∧ PopOk (K - k) (popN k V) ∧ (popN k V).jr.length = V.jr.length - k ∧ (popN k V).mq = V.mq ∧ Out c c' ∧ slots [(0, ptr cb 2435), (1, .int .i32 ((0 : Nat) : Int))] e') (fun k => K - k) 0
    (.same ⟨_, G, rfl, Nat.zero_le _, hV1, hP, rfl, rfl, out27014, rfl, rfl, trivial⟩)
    (fun e' S' => ∃ c' G', S' = ⟨I, ⟨cb, sz, T, c'⟩ :: (R ++ G')⟩ ∧ VI I c' { popN K V with nm := 1 } G' ∧ Out c c' ∧ slots [(0, ptr cb 2435), (1, .int .i32 ((0 : Nat) : Int))] e') ?_ ?_
  · rintro e' S2 - ⟨c', G', rfl, hV', ho, hsl⟩
    refine SeqS.slots cok _ hsl fun e => ?_
    repeat (first | refine SeqS.go cok ?_ | (refine OpG.keep ?_; first | refine OpG.s1 cok 0 rfl rfl rfl rfl rfl (by first | exact Nat.le_of_ble_eq_true rfl | omega | (dsimp only; omega) | (simp only [addS_eq, mulS_eq]; omega)) rfl rfl ?_))
    exact Fin.same ⟨rfl, _, G', rfl, hV'.setNm 0, ho.trans out27014⟩
  · rintro k e' S2 - ⟨c', G', rfl, hkK, hV', hPk, hlen, hmq', ho, hsl⟩
    refine W.slots _ hsl fun e => ?_
    have hOk : VOk { popN k V with nm := 1 } := { hO k hkK with }
    by_cases hlt : k < K
    · obtain ⟨j, hj⟩ : ∃ j, K - k = j + 1 := ⟨K - k - 1, by omega⟩
      rw [hj] at hPk
      have huo := vUndoOneY (R := R) (cb := cb) (T := T) hsz hV' hOk rfl (by show (popN k V).mq < (popN k V).jr.length; omega) hPk.1.nm1
      skip
      refine huo.mono ?_
      rintro r _ - ⟨rfl, c2, G2, rfl, hV2, ho2⟩
      repeat (first | refine SeqS.go cok ?_ | refine CondS.t rfl ?_)
      refine ⟨k + 1, .same ⟨c2, G2, rfl, hlt, ?_, ?_, ?_, ?_, ho.trans ho2, rfl, rfl, trivial⟩, by show K - (k + 1) < K - k; omega⟩
      · rw [popN_succ]; exact pop1_swap ▸ hV2
      · rw [popN_succ, show K - (k + 1) = j by omega]; exact hPk.2
      · rw [popN_succ, pop1_len, hlen]; omega
      · rw [popN_succ, pop1_mq, hmq']
    · obtain rfl : k = K := by omega
      have huo := vUndoOneN (R := R) (cb := cb) (T := T) hsz hV' hOk rfl (by show (popN k V).jr.length = (popN k V).mq; omega)
      skip
      refine CallG.sameL [] huo ?_
      repeat (first | refine SeqS.go cok ?_ | refine CondS.f rfl ?_)
      exact ⟨c', G', rfl, hV', ho, rfl, rfl, trivial⟩
end Go.Proofs.YgvafwGreat
