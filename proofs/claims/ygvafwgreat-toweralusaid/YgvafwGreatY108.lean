import Derived.Test.YgvafwGreatY107
import Derived.Test.YgvafwGreatY105
import Derived.Test.YgvafwGreatN11
set_option exponentiation.threshold 1000
set_option maxRecDepth 100000
set_option maxHeartbeats 4000000
set_option linter.unusedVariables false
set_option linter.unusedSimpArgs false
-- v2
-- v4
-- v5
-- v6
-- v7
namespace Go.Proofs.YgvafwGreat
open Go.HL Go.Proofs

theorem rot_perm {a b x y : Ent} {G : List Ent} : (a :: b :: x :: y :: G).Perm (b :: ((x :: y :: G) ++ [a])) :=
  (List.Perm.swap b a _).trans (.cons b (List.perm_append_comm (l₁ := [a]) (l₂ := x :: y :: G)))
theorem _root_.Go.HL.CallG.rot2 {P : Program} {f : FuncId} {args : Array Value} {I : Ent → Prop} {a b x y : Ent} {G : List Ent} {K : Post} (h : CallG P f args ⟨I, b :: ((x :: y :: G) ++ [a])⟩ K) : CallG P f args ⟨I, a :: b :: x :: y :: G⟩ K := CallG.perm _ rot_perm h
theorem _root_.Go.HL.Fin.rot2 {K : Post} {v : Value} {I : Ent → Prop} {a b x y : Ent} {G : List Ent} (h : K v ⟨I, b :: a :: G⟩) : HL.Fin K v ⟨I, b :: ((x :: y :: G) ++ [a])⟩ :=
  ⟨[x, y], [], b :: a :: G, I, perm_sum fun f => by simp only [sumE, sumE_append]; omega, fun _ => by simp, h⟩
/-- The frame waits: gas and stack changed, the state in another block. -/
theorem YI.chg {I J : Ent → Prop} {fb fb' g : Nat} {cs cs' cf c : Nat → Value} {K : YK} {σ : NS} {w' : YW} {M ML : List Ent} (h : YI I fb cs cf K σ M ML) (hs : HL.Sub I J) (hW : YWI J cs' w') (hl : LogO J (cs' 4) w'.lg ML) (hcs : ∀ k, 8 ≤ k → k ≠ 9 → cs' k = cs k) (hfr : ∃ fc, cs' 9 = HL.sl fb' 0 1 fc) (hcf : ∀ k, k < 60 → k ≠ 4 → k ≠ 6 → k ≠ 7 → k ≠ 8 → c k = cf k) (hg : NatI J (c 4) g) (hst : StkI J (c 8) []) (o6 : one (c 6) = true) (o7 : one (c 7) = true) (hB : YB w' K.self) :
    YI J fb' cs' c K ⟨σ.pc, g, [], σ.mem, w'⟩ M ML := by
  have F := h.c.F.up hs
  have E := h.e.up hs
  have e : ∀ k, k < 60 → (k < 4 ∨ k = 5 ∨ 9 ≤ k) → c k = cf k := fun k h1 h2 => hcf k h1 (by omega) (by omega) (by omega) (by omega)
  have hr : ∀ o vs, Row cf o vs → 9 ≤ o → o + vs.length ≤ 60 → Row c o vs := fun o vs h1 h2 h3 => ⟨fun i hi => (e _ (by omega) (by omega)).trans (h1.get i hi)⟩
  have hr2 : ∀ o vs, Row cs o vs → 10 ≤ o → Row cs' o vs := fun o vs h1 h2 => ⟨fun i hi => (hcs _ (by omega) (by omega)).trans (h1.get i hi)⟩
  have e8 : ∀ k, 10 ≤ k → cs' k = cs k := fun k hk => hcs k (by omega) (by omega)
  have hA := h.c.KB
  refine ⟨⟨hW, ⟨(e 0 (by decide) (by decide)).trans F.fk, (e 1 (by decide) (by decide)).trans F.fn, (e 2 (by decide) (by decide)).trans F.fs, (e 3 (by decide) (by decide)).symm ▸ F.fpc, hg, (e 5 (by decide) (by decide)).symm ▸ F.fval, hst, by simp, by simp, (e 10 (by decide) (by decide)).symm ▸ F.fcode, (e 11 (by decide) (by decide)).symm ▸ F.finp, hr _ _ F.fself (by decide) (by have := hA.kself.bv; omega), hr _ _ F.fcall (by decide) (by have := hA.kcaller.bv; omega), ?_, (e 56 (by decide) (by decide)).trans F.fsl⟩, (hcs 8 (by decide) (by decide)).symm ▸ h.c.S.up hs, hB, hA⟩, ⟨(e8 _ (by decide)).trans E.ret, (e8 _ (by decide)).trans E.ph, (e8 17 (by decide)).symm ▸ E.price, hr2 _ _ E.orig (by decide), hr2 _ _ E.coin (by decide), (e8 _ (by decide)).trans E.num, (e8 _ (by decide)).trans E.time, (e8 _ (by decide)).trans E.glim, hr2 _ _ E.rand (by decide), hr2 _ _ E.chain (by decide), hr2 _ _ E.base (by decide), (e8 _ (by decide)).trans E.hashes⟩, (e 9 (by decide) (by decide)).symm ▸ h.m, hl, hfr, fun k hk => ?_⟩
  · exact F.fsave.congr fun k hk => e (52 + k) (by omega) (by omega)
  · by_cases k4 : k = 4
    · subst k4; exact NatI.isl hg
    by_cases k6 : k = 6
    · subst k6; exact o6
    by_cases k7 : k = 7
    · subst k7; exact o7
    by_cases k8 : k = 8
    · subst k8; exact StkI.isl hst
    rw [hcf k hk k4 k6 k7 k8]; exact h.o1 k hk
/-- A child that CREATE made runs; behind it the state is τ. -/
structure YCh (J : Ent → Prop) (fb fsz : Nat) (cs c : Nat → Value) (K : YK) (τ : NS) (M ML : List Ent) : Prop where
  cp : ∃ cap, cs 9 = HL.sl fb 0 2 cap ∧ fsz = mulS cap 60 ∧ 2 ≤ cap
  st : ∃ pc g0 g1, YI J fb (upd cs 9 (HL.sl fb 0 1 1)) c K ⟨pc, g0, [], τ.mem, τ.w⟩ M ML ∧ NatI J (c 64) g1 ∧ τ.pc = pc + 1 ∧ τ.gas = g0 + g1 ∧ pc < 2 ^ 20
  ts : τ.s = [bev crAd]
  ol : NatI J (c 7) 0
  ck : c 60 = .int .u8 5
  cn : c 61 = .int .u8 0
  cst : c 62 = .bool false
  cpc : c 63 = .slice none 0 0
  csk : c 68 = .slice none 0 0
  cme : c 69 = .slice none 0 0
  ccd : ∃ n, Byt ⟨J, []⟩ (c 70) (List.replicate n 0)
  csf : Row c 72 (bvs crAd)
  co : ∀ k, k < 60 → one (c (60 + k)) = true
theorem cfL_one {gv vv cv : Value} {a b : List Nat} {sv : List Value} (h1 : one gv = true) (h2 : one vv = true) (h3 : one cv = true) (h4 : ∀ u ∈ sv, one u = true) : ∀ u ∈ cfL gv vv cv a b sv, one u = true := by
  intro u hu
  simp only [cfL, List.mem_append, List.mem_cons, List.not_mem_nil, or_false] at hu
  rcases hu with (rfl | rfl | rfl | rfl | rfl | rfl | rfl | rfl | rfl | rfl | rfl | rfl) | hu | hu | hu
  all_goals first | rfl | assumption | exact one_bvs _ u hu | exact h4 u hu
/-- The world behind the creation. -/
def wC (code : List Nat) : YW := { W0 code waN with al := alC code, wa := withA crAd waN, md := withA crAd [] }
theorem crW_wC {K : YK} {w : YW} {code : List Nat} (hK : K.self = adNo 1) (hw : w = W0 code waN) : crW K w = wC code := by
  unfold crW; rw [hK, hw]; rfl
theorem ych_of {I J : Ent → Prop} {fb fb2 cap n : Nat} {cs cf c : Nat → Value} {K : YK} {σ : NS} {M ML : List Ent} {code : List Nat} {w0 w1 w0' w6 v5 v6 vv cv sv ov pv : Value} {sv8 : List Value} (h : YI I fb cs cf K σ M ML) (hs : HL.Sub I J) (hK : K.self = adNo 1) (hw : σ.w = W0 code waN) (hpc : σ.pc < 2 ^ 20) (hcap : 2 ≤ cap)
    (hrow : Row c 0 (cellsFrom (upd (upd (upd (upd (upd cf 4 v6) 8 sv) 6 ov) 7 pv) 6 (.slice none 0 0)) 0 60 ++ cfL v5 vv cv crAd (adNo 1) sv8)) (hl8 : sv8.length = 8) (ho8 : ∀ u ∈ sv8, one u = true)
    (hA : AcctsI J w0' (alC code)) (hw1 : RowI J 20 w1 ((withA crAd waN).map bvs)) (hw6 : RowI J 20 w6 ((withA crAd []).map bvs)) (hv6 : NatI J v6 (σ.gas - (σ.gas - σ.gas / 64))) (hv5 : NatI J v5 (σ.gas - σ.gas / 64)) (hst : StkI J sv []) (hpv : NatI J pv 0) (hvv : NatI J vv 0) (hcd : Byt ⟨J, []⟩ cv (List.replicate n 0)) :
    YCh J fb2 (mulS cap 60) (upd (upd (upd (upd (upd (upd cs 0 w0) 1 w1) 0 w0') 6 w6) 10 (.slice none 0 0)) 9 (HL.sl fb2 0 2 cap)) c K ⟨σ.pc + 1, σ.gas, [bev crAd], σ.mem, crW K σ.w⟩ M ML ∧ ∀ k, 8 ≤ k → k ≠ 9 → upd (upd (upd (upd (upd (upd cs 0 w0) 1 w1) 0 w0') 6 w6) 10 (.slice none 0 0)) 9 (HL.sl fb2 0 2 cap) k = cs k := by
  have hret := h.e.ret
  have hlow : ∀ k, k < 60 → c k = upd (upd (upd (upd (upd cf 4 v6) 8 sv) 6 ov) 7 pv) 6 (.slice none 0 0) k := fun k hk => by
    have e := hrow.get k (by rw [List.length_append, cellsFrom_length]; omega)
    rw [Nat.zero_add, List.getD_eq_getElem?_getD, List.getElem?_append_left (by rw [cellsFrom_length]; exact hk), ← List.getD_eq_getElem?_getD, cellsFrom_getD _ _ _ _ hk, Nat.zero_add] at e
    exact e
  have hcl : (cfL v5 vv cv crAd (adNo 1) sv8).length = 60 := by
    show (_ ++ (_ ++ (_ ++ sv8))).length = 60
    rw [List.length_append, List.length_append, List.length_append, hl8]; rfl
  have hhi : ∀ k, k < 60 → c (60 + k) = (cfL v5 vv cv crAd (adNo 1) sv8).getD k undef := fun k hk => by
    have e := hrow.get (60 + k) (by rw [List.length_append, cellsFrom_length]; omega)
    rw [Nat.zero_add, List.getD_eq_getElem?_getD, List.getElem?_append_right (by rw [cellsFrom_length]; omega), ← List.getD_eq_getElem?_getD, cellsFrom_length, show 60 + k - 60 = k by omega] at e
    exact e
  have hkeep : ∀ k, 8 ≤ k → k ≠ 9 → upd (upd (upd (upd (upd (upd cs 0 w0) 1 w1) 0 w0') 6 w6) 10 (.slice none 0 0)) 9 (HL.sl fb2 0 2 cap) k = cs k := fun k h1 h2 => by
    rw [upd_ne (by omega)]
    by_cases h10 : k = 10
    · subst h10; exact hret.symm
    · rw [upd_ne (by omega), upd_ne (by omega), upd_ne (by omega), upd_ne (by omega), upd_ne (by omega)]
  have hW0 := h.c.W.up hs
  rw [hw] at hW0
  have hl0 := h.l.up hs
  rw [hw] at hl0
  have e4 : NatI J (c 4) (σ.gas - (σ.gas - σ.gas / 64)) := by rw [hlow 4 (by decide)]; exact hv6
  have e8 : StkI J (c 8) [] := by rw [hlow 8 (by decide)]; exact hst
  have e7 : NatI J (c 7) 0 := by rw [hlow 7 (by decide)]; exact hpv
  refine ⟨⟨⟨cap, rfl, rfl, hcap⟩, ⟨σ.pc, σ.gas - (σ.gas - σ.gas / 64), σ.gas - σ.gas / 64, ?_, ?_, rfl, ?_, hpc⟩, rfl, e7, hhi 0 (by decide), hhi 1 (by decide), hhi 2 (by decide), hhi 3 (by decide), hhi 8 (by decide), hhi 9 (by decide), ⟨n, ?_⟩, ?_, ?_⟩, hkeep⟩
  · rw [crW_wC hK hw]
    refine h.chg hs ⟨hA, hw1, withA_ok hW0.wok crAdOk, hW0.mks, hW0.rfd, hW0.tmp, hw6, ?_, hW0.gne⟩ hl0 (fun k h1 h2 => (upd_ne (by omega)).trans (hkeep k h1 h2)) ⟨1, rfl⟩ (fun k h1 h4 h6 h7 h8 => ?_) e4 e8 ?_ (NatI.isl e7) ⟨by show 3 < 2 ^ 17; decide, by show (withA crAd waN).length < 2 ^ 17; decide, by show 0 < 2 ^ 17; decide, by show 0 < 2 ^ 17; decide, by show 0 < 2 ^ 17; decide, ?_⟩
    · exact withA_ok (l := []) (fun x hx => by cases hx) crAdOk
    · rw [hlow k h1, upd_ne (by omega), upd_ne (by omega), upd_ne (by omega), upd_ne (by omega), upd_ne (by omega)]
    · rw [hlow 6 (by decide)]; rfl
    · rw [hK]; show 0 < 2 ^ 17; decide
  · rw [show (64 : Nat) = 60 + 4 from rfl, hhi 4 (by decide)]; exact hv5
  · show σ.gas = _; omega
  · rw [show (70 : Nat) = 60 + 10 from rfl, hhi 10 (by decide)]; exact hcd
  · refine ⟨fun i hi => ?_⟩
    have hi : i < 20 := hi
    rw [show 72 + i = 60 + (12 + i) by omega, hhi (12 + i) (by omega)]
    show (_ ++ (bvs crAd ++ _)).getD (12 + i) undef = _
    rw [List.getD_eq_getElem?_getD, List.getElem?_append_right (by show 12 ≤ 12 + i; omega), List.getElem?_append_left (by show 12 + i - 12 < 20; omega), show 12 + i - [Value.int .u8 5, .int .u8 0, .bool false, nlV, v5, vv, nlV, nlV, nlV, nlV, cv, nlV].length = i by show 12 + i - 12 = i; omega, ← List.getD_eq_getElem?_getD]
  · intro k hk
    rw [hhi k hk, List.getD_eq_getElem?_getD, List.getElem?_eq_getElem (by omega)]
    exact cfL_one (NatI.isl hv5) (NatI.isl hvv) (Byt.isl hcd) ho8 _ (List.getElem_mem _)
end Go.Proofs.YgvafwGreat
