import Derived.Test.YgvafwGreatE86
import Derived.Test.YgvafwGreatE44
set_option exponentiation.threshold 1000
set_option maxRecDepth 100000
set_option maxHeartbeats 4000000
set_option linter.unusedVariables false
set_option linter.unusedSimpArgs false
-- v2
-- v4
-- v5
-- v6
-- v7
-- still: exact QuV.of (QuG.rowE cok hrow (hrd2 _) rfl rfl rfl rfl rfl hwl hfit rfl)
-- still: exact QuV.of (QuG.rowE cok hrow (hrd3 _) rfl rfl rfl rfl rfl hwl hfit rfl)
namespace Go.Proofs.YgvafwGreat
open Go.HL Go.Proofs

/-- The machine's cells where a child that creates runs. -/
structure ChC (I : Ent → Prop) (cb : Nat) (c c' : Nat → Value) (pc g0 g1 n : Nat) : Prop where
  top : c' 2258 = .int .i8 1
  ph : c' 2404 = .int .u8 1
  s0 : c' 0 = ptr cb 2435
  pcv : c' 1807 = .int .u16 (pc : Nat)
  sp : c' 1809 = .int .u16 ((0 : Nat) : Int)
  gs : c' 1810 = .int .u64 (g0 : Nat)
  ol : c' 1867 = .int .u32 ((0 : Nat) : Int)
  rt : c' 2259 = .slice none 0 0
  a10 : c' 10 = .int .u8 2
  fr : ∃ cv ds, Row c' 1868 (fmC g1 1 64 1 cv ds) ∧ ds.length = 8 ∧ Byt ⟨I, []⟩ cv (List.replicate n 0)
  ot : ∀ k, (k < 2435 ∨ 27018 < k) → k ≠ 4 → k ≠ 10 → (k < 11 ∨ 1803 ≤ k) → k ≠ 1807 → k ≠ 1809 → k ≠ 1810 → (k < 1866 ∨ 1933 ≤ k) → k ≠ 2258 → k ≠ 2259 → k ≠ 2404 → c' k = c k
theorem crTk {V : Vl} (hnn : (V.acc crAd).nonce = 0) (hcc : (V.acc crAd).code = []) (t : Nat → Int) : ((V.setA (adNo 1) t { V.acc' (adNo 1) with nonce := 2 } ⟨1, V.ix (adNo 1), (V.acc' (adNo 1)).nonce, 0, false⟩).acc crAd).nonce = 0 ∧ ((V.setA (adNo 1) t { V.acc' (adNo 1) with nonce := 2 } ⟨1, V.ix (adNo 1), (V.acc' (adNo 1)).nonce, 0, false⟩).acc crAd).code = [] := by
  rw [setA_acc (V := V) (t := t) (x := { V.acc' (adNo 1) with nonce := 2 }) (V.acc'_ad (adNo 1)) crAd, if_neg (by decide)]
  exact ⟨hnn, hcc⟩
theorem crL2 {V V2 : Vl} (h : ∃ t2, V2 = V.setA (adNo 1) t2 { V.acc' (adNo 1) with nonce := 2 } ⟨1, V.ix (adNo 1), (V.acc' (adNo 1)).nonce, 0, false⟩) : V2.ac.length ≤ V.ac.length + 1 ∧ V2.jr.length = V.jr.length + 1 := by
  obtain ⟨t, rfl⟩ := h
  exact setA_lens V (adNo 1) t { V.acc' (adNo 1) with nonce := 2 } ⟨1, V.ix (adNo 1), (V.acc' (adNo 1)).nonce, 0, false⟩
theorem crT2 {V V2 : Vl} (hnn : (V.acc crAd).nonce = 0) (hcc : (V.acc crAd).code = []) (h : ∃ t2, V2 = V.setA (adNo 1) t2 { V.acc' (adNo 1) with nonce := 2 } ⟨1, V.ix (adNo 1), (V.acc' (adNo 1)).nonce, 0, false⟩) : (V2.acc crAd).nonce = 0 ∧ (V2.acc crAd).code = [] := by
  obtain ⟨t, rfl⟩ := h
  exact crTk hnn hcc t
theorem crM4 {c : Nat → Value} {pc gas : Nat} {s : List Nat} (h : MV c pc gas s) : MV (upd (upd c 1866 (.int .u32 ((0 : Nat) : Int))) 1867 (.int .u32 ((0 : Nat) : Int))) pc gas s := h.congr fun k _ h2 => (updNe (by omega)).trans (updNe (by omega))
theorem WmP.lens {V V1 : Vl} {a : List Nat} (h : WmP V a V1) : V1.ac.length ≤ V.ac.length + 1 ∧ V1.jr.length ≤ V.jr.length + 1 ∧ V1.nm = V.nm := by
  rcases h with ⟨_, rfl⟩ | ⟨_, t, rfl⟩
  · exact ⟨Nat.le_succ _, Nat.le_succ _, rfl⟩
  · have := setA_lens V a t { V.acc' a with warm := true } ⟨4, V.ix a, 0, 0, (V.acc' a).warm⟩
    exact ⟨this.1, Nat.le_of_eq this.2, (Ext.ent V a t).nm⟩
theorem crNm {V V2 V3 : Vl} (h1 : V.nm = 1) (h2 : ∃ t2, V2 = V.setA (adNo 1) t2 { V.acc' (adNo 1) with nonce := 2 } ⟨1, V.ix (adNo 1), (V.acc' (adNo 1)).nonce, 0, false⟩) (h3 : WmP V2 crAd V3) : V3.nm = 1 := by
  obtain ⟨t, rfl⟩ := h2
  rw [h3.lens.2.2]
  exact ((Ext.ent V (adNo 1) t).nm).trans h1
theorem crC5 {c c2 c3 c5 : Nat → Value} {g : Value} (h2 : Out (upd c 1810 g) c2) (h3 : Out c2 c3) (h5 : Stk (upd (upd c3 1866 (.int .u32 ((0 : Nat) : Int))) 1867 (.int .u32 ((0 : Nat) : Int))) c5) : c5 0 = c 0 ∧ c5 2258 = c 2258 ∧ c5 10 = c 10 ∧ c5 3 = c 3 ∧ c5 1867 = .int .u32 ((0 : Nat) : Int) ∧ ∀ k, (k < 2435 ∨ 27018 < k) → (k < 11 ∨ 1803 ≤ k) → k ≠ 1807 → k ≠ 1809 → k ≠ 1810 → k ≠ 1866 → k ≠ 1867 → c5 k = c k := by
  have e : ∀ k, (k < 2435 ∨ 27018 < k) → (k < 11 ∨ 1803 ≤ k) → k ≠ 1807 → k ≠ 1809 → k ≠ 1810 → k ≠ 1866 → k ≠ 1867 → c5 k = c k := fun k a1 a2 a3 a4 a5 a6 a7 => (h5 k (by omega) a3 a4).trans ((updNe a7).trans ((updNe a6).trans ((h3 k a1).trans ((h2 k a1).trans (updNe a5)))))
  refine ⟨e 0 ?_ ?_ ?_ ?_ ?_ ?_ ?_, e 2258 ?_ ?_ ?_ ?_ ?_ ?_ ?_, e 10 ?_ ?_ ?_ ?_ ?_ ?_ ?_, e 3 ?_ ?_ ?_ ?_ ?_ ?_ ?_, (h5 1867 (by decide) (by decide) (by decide)).trans updEq, e⟩ <;> decide
theorem crV5 {I : Ent → Prop} {c3 c5 : Nat → Value} {V : Vl} {G : List Ent} (hV : VI I c3 V G) (h5 : Stk (upd (upd c3 1866 (.int .u32 ((0 : Nat) : Int))) 1867 (.int .u32 ((0 : Nat) : Int))) c5) : VI I c5 V G := VI.congr hV fun k h1 h2 => (h5 k (by omega) (by omega) (by omega)).trans ((updNe (by omega)).trans (updNe (by omega)))
theorem crDone {I J : Ent → Prop} {cb : Nat} {c c5 c' : Nat → Value} {K : YK} {pc g0 g1 m n : Nat} {cd : List Nat} {cv : Value} (hK : MK I cb c K) (hpb : pc + 1 < 60000) (hM : MV c5 (pc + 0) g0 []) (h5 : c5 0 = c 0 ∧ c5 2258 = c 2258 ∧ c5 10 = c 10 ∧ c5 3 = c 3 ∧ c5 1867 = .int .u32 ((0 : Nat) : Int) ∧ ∀ k, (k < 2435 ∨ 27018 < k) → (k < 11 ∨ 1803 ≤ k) → k ≠ 1807 → k ≠ 1809 → k ≠ 1810 → k ≠ 1866 → k ≠ 1867 → c5 k = c k) (hE : EntC J c5 c' g1 m cv) (hcd : cd = List.replicate n 0) (hB : Byt ⟨J, []⟩ cv cd) : ChC J cb c c' pc g0 g1 n := by
  obtain ⟨ds, hr, hd⟩ := hE.fr
  have ot := hE.ot
  refine ⟨hE.tp, hE.ph, ?_, ?_, ?_, ?_, ?_, hE.rt, hE.a10, ⟨cv, ds, hr, hd, hcd ▸ hB⟩, fun k a1 a2 a3 a4 a5 a6 a7 a8 a9 a10 a11 => ?_⟩
  · rw [ot 0 (by decide) (by decide) (by decide) (by decide) (by decide) (by decide) (by decide), h5.1]; exact hK.mS
  · rw [ot 1807 (by decide) (by decide) (by decide) (by decide) (by decide) (by decide) (by decide)]; exact hM.fpc
  · rw [ot 1809 (by decide) (by decide) (by decide) (by decide) (by decide) (by decide) (by decide)]; exact hM.fsp
  · rw [ot 1810 (by decide) (by decide) (by decide) (by decide) (by decide) (by decide) (by decide)]; exact hM.fgas
  · rw [ot 1867 (by decide) (by decide) (by decide) (by decide) (by decide) (by decide) (by decide)]; exact h5.2.2.2.2.1
  · rw [ot k a1 a2 a3 (by omega) a9 a10 a11]; exact h5.2.2.2.2.2 k a1 a4 a5 a6 a7 (by omega) (by omega)
/-- mach.Machine.OpCreate, a child enters -/
theorem mOpCrC {I : Ent → Prop} {M R G : List Ent} {cb sz pc gas : Nat} {T : TypeId} {c : Nat → Value} {K : YK} {V : Vl} {s mem : List Nat} (hsz : 27019 ≤ sz) (hA : ArI c mem M) (hMG : ∀ x ∈ M, x ∈ R ++ G) (hK : MK I cb c K) (hM : MV c pc gas s) (hV : VI I c V G) (hO : VOk V) (ho : K.code.getD pc 0 = 240) (h3 : s.length = 3) (hpb : pc + 1 < 60000) (ha0 : argN s 0 = 0) (hself : K.self = adNo 1) (hb : (V.acc K.self).bal = 0) (hn : (V.acc K.self).nonce = 1) (hin : argN s 2 = 0 ∨ argN s 1 + argN s 2 ≤ mem.length) (hz : cutL mem (argN s 1) (argN s 2) = List.replicate (argN s 2) 0) (hnn : (V.acc crAd).nonce = 0) (hcc : (V.acc crAd).code = []) (hnm : V.nm = 1) (h512 : argN s 2 ≤ 512) (hroom : V.ac.length < 1970) (hj : V.jr.length < 59970) :
    CallG Hvaf.prog 210 #[ptr cb 0] ⟨I, ⟨cb, sz, T, c⟩ :: (R ++ G)⟩ fun r S' => ∃ J c' G' V2 V3 V', S' = ⟨J, ⟨cb, sz, T, c'⟩ :: (R ++ G')⟩ ∧ ChC J cb c c' pc (gas - (gas - gas / 64)) (gas - gas / 64) (argN s 2) ∧ VI J c' V' G' ∧ VOk V' ∧ (∃ t2, V2 = V.setA (adNo 1) t2 { V.acc' (adNo 1) with nonce := 2 } ⟨1, V.ix (adNo 1), (V.acc' (adNo 1)).nonce, 0, false⟩) ∧ WmP V2 crAd V3 ∧ ∃ t t', V' = crV { V3 with nm := 2 } t t' := by
  have hsz' : 2435 ≤ sz := by omega
  have hmS := hK.mS
  have hTop := hK.mTop
  have hrn := mRunning (I := I) (G := R ++ G) (cb := cb) (T := T) hsz' hK
  have hop := mOpcode (I := I) (G := R ++ G) (cb := cb) (T := T) hsz' hK hM
  rw [ho] at hop
  have hAk := hK.kb.kself
  have ha := mArg (I := I) (G := R ++ G) (cb := cb) (T := T) (i := 0) hsz' hK.fsb hM (by decide)
  rw [ha0] at ha
  have ha1 := mArg (I := I) (G := R ++ G) (cb := cb) (T := T) (i := 1) hsz' hK.fsb hM (by decide)
  have ha2 := mArg (I := I) (G := R ++ G) (cb := cb) (T := T) (i := 2) hsz' hK.fsb hM (by decide)
  have hno := vNonce (R := R) (cb := cb) (T := T) hsz hV hO hAk
  rw [hn] at hno
  have hbl := vBalance (R := R) (cb := cb) (T := T) hsz hV hO hAk
  rw [hb] at hbl
  have hlt := fun S => ULt_spec (S := S) (a := 0) (b := 0) (by decide) (by decide)
  have hrd := mRd (I := I) (G := R ++ G) (cb := cb) (T := T) (off := argN s 1) (n := argN s 2) hsz' hA hMG (argN_lt hM.sb) hin
  rw [hz] at hrd
  have hlc : (List.replicate (argN s 2) 0).length = argN s 2 := List.length_replicate
  have hcdn : List.replicate (argN s 2) 0 = List.replicate (argN s 2) 0 := rfl
  generalize hcde : List.replicate (argN s 2) 0 = cd at *
  clear hcdn
  have hcdn : cd = List.replicate (argN s 2) 0 := hcde.symm
  replace hrd := hrd.mono (K' := fun r S' => ∃ J va vc, S' = ⟨J, ⟨cb, sz, T, c⟩ :: (R ++ G)⟩ ∧ r = .tuple #[.slice va cd.length vc, .bool true] ∧ Byt ⟨J, []⟩ (.slice va cd.length vc) cd) (by
    rintro r ⟨J, _⟩ _ ⟨rfl, v, rfl, hB⟩
    obtain ⟨va, vc, rfl, _⟩ := hB.form
    exact ⟨J, va, vc, rfl, rfl, hB⟩)
  have hgs := hM.fgas
  have hgb := hM.gb
  have hgs2 : upd c 1810 (.int .u64 ((gas - (gas - gas / 64) : Nat) : Int)) 1810 = .int .u64 ((gas - (gas - gas / 64) : Nat) : Int) := updEq
  have hrow := hK.fself
  rw [hself] at hrow hno hbl
  have hwl : (bvs (adNo 1)).length = 20 := rfl
  have hfit : 1812 + 20 ≤ sz := by omega
  have hmS2 : upd c 1810 (.int .u64 ((gas - (gas - gas / 64) : Nat) : Int)) 0 = ptr cb 2435 := (updNe (by decide)).trans hmS
  have hrow2 : Row (upd c 1810 (.int .u64 ((gas - (gas - gas / 64) : Nat) : Int))) 1812 (bvs (adNo 1)) := Row.congr hrow fun k h1 _ => updNe (by omega)
  have hrd4 : ∀ {J : Ent → Prop} (y z : Ent) {x : Ent} {L : List Ent}, Rd ⟨J, y :: z :: x :: L⟩ x := fun y z => .inr (List.mem_cons_of_mem _ (List.mem_cons_of_mem _ List.mem_cons_self))
  have hV1 : VI I (upd c 1810 (.int .u64 ((gas - (gas - gas / 64) : Nat) : Int))) V G := VI.congr hV fun k h1 h2 => updNe (by omega)
  have hpn := fun (J : Ent → Prop) (hs : HL.Sub I J) => vPutNonce (R := R) (cb := cb) (T := T) (v := 2) hsz (hV1.up hs) hO (show AdOk (adNo 1) from hself ▸ hAk) (by omega) (by omega) (by decide)
  replace hpn := fun (J : Ent → Prop) (hs : HL.Sub I J) => (hpn J hs).mono (K' := fun r S' => r = .bool true ∧ ∃ c2 G2 V2, S' = ⟨J, ⟨cb, sz, T, c2⟩ :: (R ++ G2)⟩ ∧ VI J c2 V2 G2 ∧ VOk V2 ∧ Out (upd c 1810 (.int .u64 ((gas - (gas - gas / 64) : Nat) : Int))) c2 ∧ ∃ t2, V2 = V.setA (adNo 1) t2 { V.acc' (adNo 1) with nonce := 2 } ⟨1, V.ix (adNo 1), (V.acc' (adNo 1)).nonce, 0, false⟩) (by
    rintro r S' _ ⟨rfl, c2, G2, t2, rfl, h1, h2, h3⟩
    exact ⟨rfl, c2, G2, _, rfl, h1, h2, h3, t2, rfl⟩)
  have hM1 : MV (upd c 1810 (.int .u64 ((gas - (gas - gas / 64) : Nat) : Int))) pc (gas - (gas - gas / 64)) s := hM.setGas (by omega)
  have hrd2 : ∀ y : Ent, Rd ⟨I, y :: ⟨cb, sz, T, c⟩ :: (R ++ G)⟩ ⟨cb, sz, T, c⟩ := fun y => .inr (List.mem_cons_of_mem _ List.mem_cons_self)
  generalize argN s 1 = a1 at *
  generalize argN s 2 = a2 at *
  refine CallG.start (C := mkC Hvaf.prog) cok (args := [ptr cb 0]) Hvaf.func210 rfl Hvaf.ntmps210 (by simp) (by kernel_rfl) ?_
  skip
  refine CallG.sameL [] hrn ?_
  repeat (first | refine SeqS.go cok ?_ | refine CondS.f rfl ?_)
  refine CallG.sameL [] hop ?_
  repeat (first | refine SeqS.go cok ?_ | refine CondS.f rfl ?_ | (refine OpG.keep ?_; first | refine OpG.s1 cok 0 rfl rfl rfl rfl rfl (by first | exact Nat.le_of_ble_eq_true rfl | omega | (dsimp only; omega) | (simp only [addS_eq, mulS_eq]; omega)) rfl rfl ?_))
  refine CallG.idC (c := c) (upd_same hK.mRet) ?_
  refine CallG.sameL [] ha ?_
  skip
  intro x1
  repeat (first | (refine QuG.keep ?_; refine QuG.rowE cok hrow (hrd2 _) rfl rfl rfl rfl rfl hwl hfit ?_) | (refine QuG.keep ?_; first | refine QuG.l1E cok 1 rfl rfl rfl rfl rfl (by first | exact Nat.le_of_ble_eq_true rfl | omega | (dsimp only; omega) | (simp only [addS_eq, mulS_eq]; omega)) (by assumption) ?_) | refine SeqS.go cok ?_ | (refine OpG.keep ?_; first | refine OpG.sL cok 0 rfl rfl rfl rfl rfl rfl rfl (by first | exact Nat.le_of_ble_eq_true rfl | omega | (dsimp only; omega) | (simp only [addS_eq, mulS_eq]; omega)) ?_) | refine W.drawI 8 cok [0, 1, 3, 7, 0, 16, 48, 112, 255, 511] [0, 1, 2, 3, 4, 5, 6, 7, 8, 9] [3, 7] (by kernel_rfl) (by kernel_rfl) ?_)
  refine CallG.sameL [_] hno ?_
  repeat (first | (refine QuG.keep ?_; refine QuG.rowE cok hrow (hrd2 _) rfl rfl rfl rfl rfl hwl hfit ?_) | (refine QuG.keep ?_; first | refine QuG.l1E cok 1 rfl rfl rfl rfl rfl (by first | exact Nat.le_of_ble_eq_true rfl | omega | (dsimp only; omega) | (simp only [addS_eq, mulS_eq]; omega)) (by assumption) ?_) | refine SeqS.go cok ?_ | refine GuardS.yes rfl ?_ | (refine QuG.keep ?_; first | refine QuG.lN cok 0 rfl rfl rfl rfl rfl (by first | exact Nat.le_of_ble_eq_true rfl | omega | (dsimp only; omega) | (simp only [addS_eq, mulS_eq]; omega)) ?_) | (refine still_in ?_; first | refine still_drop (by decide) ?_) | refine W.drawI 9 cok [0, 1, 3, 7, 15, 31, 63, 127, 255, 511, 63, 1087, 3135, 7231, 16383, 63, 65535, 131071, 262143, 524287, 1048575, 2097151] [0, 1, 2, 3, 4, 5, 6, 7, 8, 9, 10, 11, 12, 13, 15, 14, 16, 17, 18, 19, 20, 21] [3, 9, 13, 15] (by kernel_rfl) (by kernel_rfl) ?_)
  refine CallG.sameL [_] hbl ?_
  repeat (first | refine GuardS.yes rfl ?_ | (refine still_in ?_; first | refine still_drop (by decide) ?_ | (refine still_keep (by decide) rfl ?_ ?_; first | exact QuV.lN cok 0 rfl rfl rfl rfl rfl (by first | exact Nat.le_of_ble_eq_true rfl | omega | (dsimp only; omega) | (simp only [addS_eq, mulS_eq]; omega)) rfl)))
  refine (hlt _).mono ?_
  rintro r _ - ⟨rfl, rfl⟩
  repeat (first | refine SeqS.go cok ?_ | refine GuardS.yes rfl ?_ | refine CondS.f rfl ?_ | (refine still_in ?_; first | refine still_drop (by decide) ?_))
  refine CallG.sameL [_] ha1 ?_
  skip
  refine CallG.sameL [_] ha2 ?_
  skip
  refine CallG.behind [_] hrd ?_
  rintro r J1 _ hs1 ⟨J1', va, vc, e1, rfl, hB1⟩
  cases e1
  have hrd3 : ∀ y : Ent, Rd ⟨J1, y :: ⟨cb, sz, T, c⟩ :: (R ++ G)⟩ ⟨cb, sz, T, c⟩ := fun y => .inr (List.mem_cons_of_mem _ List.mem_cons_self)
  repeat (first | (refine SeqS.slots cok [(0, ptr cb 0), (2, ptr cb 1803), (3, .bool false), (4, .int .u16 3), (5, ptr x1 0), (6, .int .u64 ((1 : Nat) : Int)), (7, .slice va cd.length vc), (8, .bool true), (72, .bool false)] ⟨rfl, rfl, rfl, rfl, rfl, rfl, rfl, rfl, rfl, trivial⟩ fun e => ?_) | (refine SeqS.slots cok [(0, ptr cb 0), (2, ptr cb 1803), (3, .bool false), (4, .int .u16 3), (5, ptr x1 0), (6, .int .u64 ((1 : Nat) : Int)), (7, .slice va cd.length vc), (8, .bool true)] ⟨rfl, rfl, rfl, rfl, rfl, rfl, rfl, rfl, trivial⟩ fun e => ?_) | (refine QuG.keep ?_; refine QuG.rowE cok hrow (hrd3 _) rfl rfl rfl rfl rfl hwl hfit ?_) | refine CondS.f rfl ?_ | (refine QuG.keep ?_; first | refine QuG.lN cok 0 rfl rfl rfl rfl rfl (by first | exact Nat.le_of_ble_eq_true rfl | omega | (dsimp only; omega) | (simp only [addS_eq, mulS_eq]; omega)) ?_) | refine W.drawI 14 cok [0, 1, 3, 7, 0, 0, 0, 64, 192, 448, 0, 1984, 4095, 0, 16383] [0, 1, 2, 3, 4, 5, 6, 7, 8, 9, 10, 11, 12, 13, 14] [3, 4, 9] (by kernel_rfl) (by kernel_rfl) ?_)
  refine mCreateAddr.mono ?_
  rintro r _ - ⟨rfl, rfl⟩
  repeat (first | refine And.intro (fillOk_of (Eq.refl true)) ?_ | refine And.intro (Eq.refl true) ?_ | (refine still_in ?_; first | refine still_drop (by decide) ?_ | (refine still_keep (by decide) rfl ?_ ?_; first | exact QuV.lN cok 0 rfl rfl rfl rfl rfl (by first | exact Nat.le_of_ble_eq_true rfl | omega | (dsimp only; omega) | (simp only [addS_eq, mulS_eq]; omega)) rfl | exact QuV.of (QuG.rowA cok 1 rfl rfl rfl rfl rfl (by assumption) (by assumption) (by first | exact Nat.le_of_ble_eq_true rfl | omega | (dsimp only; omega)) rfl))))
  intro x2
  repeat (first | (refine SeqS.slots cok [(0, ptr cb 0), (2, ptr cb 1803), (3, .bool false), (4, .int .u16 3), (6, .int .u64 ((1 : Nat) : Int)), (9, ptr x2 0), (88, .bool false)] ⟨rfl, rfl, rfl, rfl, rfl, rfl, rfl, trivial⟩ fun e => ?_) | (refine SeqS.slots cok [(0, ptr cb 0), (2, ptr cb 1803), (3, .bool false), (4, .int .u16 3), (6, .int .u64 ((1 : Nat) : Int)), (9, ptr x2 0)] ⟨rfl, rfl, rfl, rfl, rfl, rfl, trivial⟩ fun e => ?_) | (refine QuG.keep ?_; refine QuG.rowE cok hrow2 (hrd4 _ _) rfl rfl rfl rfl rfl hwl hfit ?_) | (refine OpG.keep ?_; first | refine OpG.upF cok 0 rfl rfl rfl rfl rfl rfl (by first | exact Nat.le_of_ble_eq_true rfl | omega) (by first | exact Nat.le_of_ble_eq_true rfl | omega) rfl (by first | rfl | assumption) ?_) | (refine QuG.keep ?_; first | refine QuG.l1E cok 2 rfl rfl rfl rfl rfl (by first | exact Nat.le_of_ble_eq_true rfl | omega | (dsimp only; omega) | (simp only [addS_eq, mulS_eq]; omega)) (by assumption) ?_) | refine CondS.f rfl ?_ | refine And.intro (by omega) ?_ | (refine ValS.keep ?_; first | (with_reducible refine ValS.kU64 ?_; first | (with_reducible refine ValS.addU64_L ?_ ?_ ; omega) | (with_reducible refine ValS.subU64 ?_ ?_ ?_ ; omega; omega) | (with_reducible refine ValS.quoU64_L ?_ ?_ ; omega))) | (refine QuG.keep ?_; first | refine QuG.l1 cok 0 rfl rfl rfl rfl rfl (by first | exact Nat.le_of_ble_eq_true rfl | omega | (dsimp only; omega) | (simp only [addS_eq, mulS_eq]; omega)) ?_) | (refine still_in ?_; first | refine still_drop (by decide) ?_) | (refine OpG.keep ?_; first | refine OpG.s1 cok 2 rfl rfl rfl rfl rfl (by first | exact Nat.le_of_ble_eq_true rfl | omega | (dsimp only; omega) | (simp only [addS_eq, mulS_eq]; omega)) rfl rfl ?_ | refine OpG.sL cok 0 rfl rfl rfl rfl rfl rfl rfl (by first | exact Nat.le_of_ble_eq_true rfl | omega | (dsimp only; omega) | (simp only [addS_eq, mulS_eq]; omega)) ?_) | refine W.drawI 18 cok [0, 1, 3, 7, 0, 16, 48, 112, 240, 511, 1023, 2047] [0, 1, 2, 3, 4, 5, 6, 7, 8, 9, 10, 11] [3, 7] (by kernel_rfl) (by kernel_rfl) ?_ | refine W.drawI 19 cok [0, 1, 3, 7, 0, 16, 63, 127, 255, 511] [0, 1, 2, 3, 4, 5, 6, 7, 8, 9] [3, 5] (by kernel_rfl) (by kernel_rfl) ?_ | refine W.drawI 20 cok [0, 1, 3, 7, 0, 16, 48, 112, 0, 256, 1023, 2047, 4095, 8191, 8191, 24575, 65535, 131071, 262143] [0, 1, 2, 3, 4, 5, 6, 7, 8, 9, 10, 11, 12, 13, 14, 15, 16, 17, 18] [3, 7, 15] (by kernel_rfl) (by kernel_rfl) ?_)
  refine CallG.behind [_, _] (hpn _ hs1) ?_
  rintro r J2 _ hs2 ⟨rfl, c2, G2, V2, e2, hV2, hO2, hQ2, hV2e⟩
  cases e2
  have k2 := (hQ2 0 (.inl (by decide))).trans hmS2
  have hl2 := crL2 hV2e
  have hwm := mWarm (R := R) (cb := cb) (T := T) hsz k2 hV2 hO2 crAd_ok (by omega) (by omega)
  have ht2 := crT2 hnn hcc hV2e
  repeat (first | refine GuardS.yes rfl ?_ | (refine QuG.keep ?_; first | refine QuG.lN cok 0 rfl rfl rfl rfl rfl (by first | exact Nat.le_of_ble_eq_true rfl | omega | (dsimp only; omega) | (simp only [addS_eq, mulS_eq]; omega)) ?_) | (refine still_in ?_; first | refine still_drop (by decide) ?_))
  refine CallG.behind [_, _] hwm ?_
  rintro r J3 _ hs3 ⟨rfl, c3, G3, V3, e3, hV3, hO3, hQ3, hW3⟩
  cases e3
  have k3 := (hQ3 0 (.inl (by decide))).trans k2
  have htk := (mTaken (R := R) (cb := cb) (T := T) hsz k3 hV3 hO3 crAd_ok (hW3.acc.1.trans ht2.1) (hW3.acc.2.2.trans ht2.2)).mono (K' := fun r S' => r = .bool false ∧ ∃ J, S' = ⟨J, ⟨cb, sz, T, c3⟩ :: (R ++ G3)⟩) (by
    rintro r ⟨J, _⟩ _ ⟨rfl, rfl⟩
    exact ⟨rfl, J, rfl⟩)
  repeat (first | (refine SeqS.slots cok [(0, ptr cb 0), (2, ptr cb 1803), (4, .int .u16 3), (9, ptr x2 0), (138, .bool false)] ⟨rfl, rfl, rfl, rfl, rfl, trivial⟩ fun e => ?_) | refine GuardS.yes rfl ?_ | refine CondS.f rfl ?_ | (refine QuG.keep ?_; first | refine QuG.lN cok 0 rfl rfl rfl rfl rfl (by first | exact Nat.le_of_ble_eq_true rfl | omega | (dsimp only; omega) | (simp only [addS_eq, mulS_eq]; omega)) ?_) | (refine still_in ?_; first | refine still_drop (by decide) ?_))
  refine CallG.behind [_, _] htk ?_
  rintro r J4 _ hs4 ⟨rfl, J4', e4⟩
  cases e4
  have hM4 := crM4 (hQ3.mv (hQ2.mv hM1))
  have hse := mSettleN (I := J4) (G := R ++ G3) (cb := cb) (T := T) (t := 3) (step := 0) (ws := wcs 0) hsz' hM4 (by omega) (by omega) rfl
  unfold SetP at hse
  repeat (first | (refine SeqS.slots cok [(0, ptr cb 0), (2, ptr cb 1803), (4, .int .u16 3), (9, ptr x2 0), (144, .bool false)] ⟨rfl, rfl, rfl, rfl, rfl, trivial⟩ fun e => ?_) | refine CondS.f rfl ?_ | refine And.intro (fillOk_of (Eq.refl true)) ?_ | (refine OpG.keep ?_; first | refine OpG.s1 cok 2 rfl rfl rfl rfl rfl (by first | exact Nat.le_of_ble_eq_true rfl | omega | (dsimp only; omega) | (simp only [addS_eq, mulS_eq]; omega)) rfl rfl ?_))
  refine CallG.behind [_, _] hse ?_
  rintro r J5 _ hs5 ⟨c5, e5, hM5, hS5⟩
  cases e5
  have h5 := crC5 hQ2 hQ3 hS5
  have hM6 : MV c5 (pc + 0) (gas - (gas - gas / 64)) [] := by rw [h3] at hM5; exact hM5
  have hV5 := crV5 (hV3.up hs4) hS5
  have hen := mEnterC (R := R) (cb := cb) (T := T) (gas := gas - gas / 64) (m := mem.length) hsz hV5 hO3 (crNm hnm hV2e hW3) (by have := hW3.lens; omega) (by have := hW3.lens; omega) (h5.1.trans hmS) (h5.2.1.trans hTop) (h5.2.2.1.trans hA.tp) (h5.2.2.2.1.trans hA.b1) (hB1.mono hs4 (by simp)) (by omega)
  repeat (first | (refine SeqS.slots cok [(0, ptr cb 0), (2, ptr cb 1803), (4, .int .u16 3), (9, ptr x2 0)] ⟨rfl, rfl, rfl, rfl, trivial⟩ fun e => ?_) | (refine QuG.keep ?_; first | refine QuG.lN cok 0 rfl rfl rfl rfl rfl (by first | exact Nat.le_of_ble_eq_true rfl | omega | (dsimp only; omega) | (simp only [addS_eq, mulS_eq]; omega)) ?_))
  refine CallG.behind [_, _] hen ?_
  rintro r J6 _ hs6 ⟨rfl, c6, G6, V6, e6, hE6, hV6, hO6, hV6e⟩
  cases e6
  skip
  exact Fin.drop (⟨cb, sz, T, c6⟩ :: (R ++ G6)) [_, _] ⟨_, c6, G6, V2, V3, V6, rfl, crDone hK hpb hM6 h5 hE6 hcdn (hB1.mono hs4 (by simp)), hV6, hO6, hV2e, hW3, hV6e⟩
end Go.Proofs.YgvafwGreat
