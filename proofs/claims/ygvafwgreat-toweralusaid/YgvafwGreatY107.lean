import Derived.Test.YgvafwGreatY106
import Derived.Test.YgvafwGreatY77
import Derived.Test.YgvafwGreatK18
import Derived.Test.YgvafwGreatY14
set_option exponentiation.threshold 1000
set_option maxRecDepth 100000
set_option maxHeartbeats 4000000
set_option linter.unusedVariables false
set_option linter.unusedSimpArgs false
-- v2
-- v4
-- v5
-- v6
-- v7
namespace Go.Proofs.YgvafwGreat
open Go.HL Go.Proofs

/-- The cells of a child's frame. -/
def cfL (gv vv cv : Value) (self caller : List Nat) (sv : List Value) : List Value := [.int .u8 5, .int .u8 0, .bool false, nlV, gv, vv, nlV, nlV, nlV, nlV, cv, nlV] ++ (bvs self ++ (bvs caller ++ sv))
theorem yCreates5 {S : St} : CallG Hvaf.prog 142 #[.int .u8 5] S fun r S' => S = S' ∧ r = .bool true := by
  refine CallG.start (C := mkC Hvaf.prog) cok (args := [.int .u8 5]) Hvaf.func142 rfl Hvaf.ntmps142 (by simp) (by kernel_rfl) ?_
  repeat (first | refine SeqS.go cok ?_ | refine GuardS.yes rfl ?_ | refine GuardS.no rfl ?_)
  exact Fin.same ⟨rfl, rfl⟩
theorem crAdOk : AdOk crAd := ⟨rfl, by decide⟩
theorem list8v {l : List Value} (h : l.length = 8) : ∃ a b c d e f g i, l = [a, b, c, d, e, f, g, i] := by
  match l, h with
  | [a, b, c, d, e, f, g, i], _ => exact ⟨a, b, c, d, e, f, g, i, rfl⟩
theorem putA_le (a : YA) (al : List YA) : (putA a al).length ≤ al.length + 1 := (putL_len a al _).1
theorem own1 {T : TypeId} {fb fc : Nat} {cf : Nat → Value} (h : 1 ≤ fc) : OwnL T 60 (HL.sl fb 0 1 fc) [cellsFrom cf 0 60] [⟨fb, mulS fc 60, T, cf⟩] := by
  refine ⟨by simp, .inr ⟨fb, fc, cf, rfl, h, rfl, ⟨fun i hi => ?_⟩⟩⟩
  rw [List.flatten_cons, List.flatten_nil, List.append_nil] at hi ⊢
  rw [cellsFrom_length] at hi
  exact (cellsFrom_getD cf 0 60 i hi).symm
theorem enter_end2 {T : TypeId} {w' : Value} {e1 e2 : List Value} {M' : List Ent} (h : OwnL T 60 w' ([e1] ++ [e2]) M') : ∃ fb cap c, w' = HL.sl fb 0 2 cap ∧ M' = [⟨fb, mulS cap 60, T, c⟩] ∧ 2 ≤ cap ∧ Row c 0 (e1 ++ e2) := by
  rcases h.out with ⟨_, e, _⟩ | ⟨b, cap, c, h1, h2, h3, h4⟩
  · exact absurd e (by simp)
  · refine ⟨b, cap, c, h1, h3, h2, ?_⟩
    have he : ([e1] ++ [e2]).flatten = e1 ++ e2 := by simp
    rw [he] at h4; exact h4
/-- yp.State.enter of a child that CREATE makes -/
theorem yEnterC {I : Ent → Prop} {G : List Ent} {sb ssz fb fc : Nat} {Ts : TypeId} {cs cf : Nat → Value} {a1 a2 : YA} {wa : List (List Nat)} {ga va ca : Option Addr} {gn gc vn vc' cn cc n : Nat} {ma la ta : Option Addr} {mc lc tc : Nat} (hsz : 179 ≤ ssz) (hA : AcctsI I (cs 0) [a1, a2]) (z1 : a1.slots = []) (z2 : a2.slots = []) (hw : RowI I 20 (cs 1) (wa.map bvs)) (hwl : wa.length < 2 ^ 20)
    (c2 : cs 2 = .slice ma 0 mc) (c3 : NatI I (cs 3) n) (c4 : cs 4 = .slice la 0 lc) (c5 : cs 5 = .slice ta 0 tc) (c6 : RowI I 20 (cs 6) []) (c7 : cs 7 = .slice none 0 0) (c9 : cs 9 = HL.sl fb 0 1 fc) (h1 : 1 ≤ fc) (ho : ∀ k, k < 60 → one (cf k) = true) (hvv : NatI I (.slice va vn vc') 0) :
    CallG Hvaf.prog 65 #[ptr sb 0, .agg (cfL (.slice ga gn gc) (.slice va vn vc') (.slice ca cn cc) crAd (adNo 1) [nlV, nlV, nlV, nlV, nlV, nlV, nlV, nlV]).toArray] ⟨I, ⟨sb, ssz, Ts, cs⟩ :: (G ++ [⟨fb, mulS fc 60, 156, cf⟩])⟩ fun r S' => ∃ J w0 w6 fb2 cap c sv, S' = ⟨J, ⟨sb, ssz, Ts, upd (upd (upd (upd cs 0 w0) 6 w6) 10 nlV) 9 (HL.sl fb2 0 2 cap)⟩ :: (G ++ [⟨fb2, mulS cap 60, 156, c⟩])⟩ ∧ 2 ≤ cap ∧ AcctsI J w0 (putA { getA [a1, a2] crAd with nonce := 1 } [a1, a2]) ∧ RowI J 20 w6 ((withA crAd []).map bvs) ∧ Row c 0 (cellsFrom cf 0 60 ++ cfL (.slice ga gn gc) (.slice va vn vc') (.slice ca cn cc) crAd (adNo 1) sv) ∧ sv.length = 8 ∧ ∀ u ∈ sv, one u = true := by
  obtain ⟨vss, hR, hvl, hel⟩ := hA.out
  have hcl := fun (G : List Ent) => yCloneW (G := G) (sb := sb) (ssz := ssz) (Ts := Ts) (md := []) (by omega) hR hvl (hel 0 (by show 0 < 2; decide)) (hel 1 (by show 1 < 2; decide)) z1 z2 hw hwl c2 c3 c4 c5 c6 (by decide) c7
  refine CallG.start (C := mkC Hvaf.prog) cok (args := [ptr sb 0, .agg (cfL (.slice ga gn gc) (.slice va vn vc') (.slice ca cn cc) crAd (adNo 1) [nlV, nlV, nlV, nlV, nlV, nlV, nlV, nlV]).toArray]) Hvaf.func65 rfl Hvaf.ntmps65 (by simp) (by kernel_rfl) ?_
  intro b3
  repeat (first | refine SeqS.go cok ?_)
  refine CallG.behind [_] (hcl _) ?_
  rintro r J _ hs ⟨e, sv, rfl, hl8, ho8⟩
  cases e
  obtain ⟨s0, s1, s2, s3, s4, s5, s6, s7, rfl⟩ := list8v hl8
  have o0 : one s0 = true := ho8 _ (by simp)
  have o1 : one s1 = true := ho8 _ (by simp)
  have o2 : one s2 = true := ho8 _ (by simp)
  have o3 : one s3 = true := ho8 _ (by simp)
  have o4 : one s4 = true := ho8 _ (by simp)
  have o5 : one s5 = true := ho8 _ (by simp)
  have o6 : one s6 = true := ho8 _ (by simp)
  have o7 : one s7 = true := ho8 _ (by simp)
  replace hs : HL.Sub I J := hs
  have hA1 : AcctsI J (cs 0) [a1, a2] := hA.up hs
  repeat (first | (refine OpG.keep ?_; first | refine OpG.upS cok 0 rfl rfl rfl rfl rfl (by assumption) (by first | assumption | exact one_bvs _) (by first | exact Nat.le_of_ble_eq_true rfl | omega) ?_) | refine SeqS.go cok ?_ | (refine QuG.keep ?_; first | refine QuG.l1 cok 0 rfl rfl rfl rfl rfl (by first | exact Nat.le_of_ble_eq_true rfl | omega | (dsimp only; omega) | (simp only [addS_eq, mulS_eq]; omega)) ?_))
  refine yCreates5.mono ?_
  rintro r _ - ⟨rfl, rfl⟩
  repeat (first | refine SeqS.go cok ?_ | refine CondS.t rfl ?_ | (refine QuG.keep ?_; first | refine QuG.lN cok 0 rfl rfl rfl rfl rfl (by first | exact Nat.le_of_ble_eq_true rfl | omega | (dsimp only; omega) | (simp only [addS_eq, mulS_eq]; omega)) ?_) | refine W.drawI 3 cok [0, 1, 3, 0, 8, 0, 63] [0, 1, 2, 3, 4, 5, 6] [4] (by kernel_rfl) (by kernel_rfl) ?_)
  refine callN (yNum (n := 1) (by decide)) fun v1 J2 hs2 hv1 => ?_
  replace hs2 : HL.Sub J J2 := hs2
  repeat (first | (refine still_in ?_; first | refine still_nil ?_ | (refine still_keep (by decide) rfl ?_ ?_; first | exact QuV.lN cok 0 rfl rfl rfl rfl rfl (by first | exact Nat.le_of_ble_eq_true rfl | omega | (dsimp only; omega) | (simp only [addS_eq, mulS_eq]; omega)) rfl)))
  refine CallG.behind [_] (ySetNonce (a := crAd) (by omega) (hA1.up hs2) crAdOk hv1 (by show 2 < 2 ^ 19; decide)) ?_
  rintro r J3 _ hs3 ⟨J3', w0, e3, hw0⟩
  cases e3
  replace hs3 : HL.Sub J2 J3 := hs3
  have hsA : HL.Sub I J3 := (hs.trans hs2).trans hs3
  repeat (first | refine SeqS.go cok ?_ | (refine QuG.keep ?_; first | refine QuG.l1 cok 1 rfl rfl rfl rfl rfl (by first | exact Nat.le_of_ble_eq_true rfl | omega | (dsimp only; omega) | (simp only [addS_eq, mulS_eq]; omega)) ?_ | refine QuG.lN cok 0 rfl rfl rfl rfl rfl (by first | exact Nat.le_of_ble_eq_true rfl | omega | (dsimp only; omega) | (simp only [addS_eq, mulS_eq]; omega)) ?_) | (refine still_in ?_; first | refine still_drop (by decide) ?_) | refine W.drawI 4 cok [0, 0, 2, 6, 14, 30, 0, 64, 254, 511, 1023, 2047, 4095] [0, 1, 2, 3, 4, 5, 6, 7, 8, 9, 10, 11, 12] [5, 7] (by kernel_rfl) (by kernel_rfl) ?_)
  refine callRS (yWithAddr (al := []) (a := crAd) (c6.up hsA) rfl rfl (by decide) (by simp) (by simp) (by decide)) fun wa6 wc6 J4 hs4 hw6 => ?_
  replace hs4 : HL.Sub J3 J4 := hs4
  have hmv := fun (G : List Ent) => yMove0 (G := G) (wb := sb) (sz := ssz) (T := Ts) (c := upd (upd cs 0 w0) 6 (.slice wa6 ((withA crAd []).map bvs).length wc6)) (a := adNo 1) (b := crAd) (v := .slice va vn vc') (by omega) (hw0.up hs4) ⟨rfl, by decide⟩ (hvv.up (hsA.trans hs4)) (Nat.lt_of_le_of_lt (putA_le _ _) (by show 2 + 1 < 2 ^ 19; decide))
  repeat (first | refine SeqS.go cok ?_ | refine GuardS.yes rfl ?_ | refine CondS.t rfl ?_ | (refine QuG.keep ?_; first | refine QuG.l1 cok 0 rfl rfl rfl rfl rfl (by first | exact Nat.le_of_ble_eq_true rfl | omega | (dsimp only; omega) | (simp only [addS_eq, mulS_eq]; omega)) ?_ | refine QuG.lN cok 0 rfl rfl rfl rfl rfl (by first | exact Nat.le_of_ble_eq_true rfl | omega | (dsimp only; omega) | (simp only [addS_eq, mulS_eq]; omega)) ?_) | (refine still_in ?_; first | refine still_nil ?_ | refine still_drop (by decide) ?_) | (refine OpG.keep ?_; first | refine OpG.s1 cok 1 rfl rfl rfl rfl rfl (by first | exact Nat.le_of_ble_eq_true rfl | omega | (dsimp only; omega) | (simp only [addS_eq, mulS_eq]; omega)) rfl rfl ?_) | refine W.drawI 6 cok [0, 1, 3, 0, 8, 0, 32, 0, 128, 511] [0, 1, 2, 3, 4, 5, 6, 7, 8, 9] [4, 6, 8] (by kernel_rfl) (by kernel_rfl) ?_)
  refine CallG.behind [_] (hmv _) ?_
  rintro r J5 _ hs5 e5
  cases e5
  replace hs5 : HL.Sub J4 J5 := hs5
  repeat (first | (refine QuG.keep ?_; first | refine QuG.l1E cok 1 rfl rfl rfl rfl rfl (by first | exact Nat.le_of_ble_eq_true rfl | omega | (dsimp only; omega) | (simp only [addS_eq, mulS_eq]; omega)) (by assumption) ?_) | refine SeqS.go cok ?_ | refine And.intro (fillOk_of (Eq.refl true)) ?_ | refine And.intro (by dsimp only; omega) ?_ | (refine QuG.keep ?_; first | refine QuG.lN cok 0 rfl rfl rfl rfl rfl (by first | exact Nat.le_of_ble_eq_true rfl | omega | (dsimp only; omega) | (simp only [addS_eq, mulS_eq]; omega)) ?_) | (refine still_in ?_; first | refine still_drop (by decide) ?_) | (refine OpG.keep ?_; first | refine OpG.s1 cok 1 rfl rfl rfl rfl rfl (by first | exact Nat.le_of_ble_eq_true rfl | omega | (dsimp only; omega) | (simp only [addS_eq, mulS_eq]; omega)) rfl rfl ?_) | refine W.drawI 8 cok [0, 0, 2, 6, 14, 0, 32, 126, 255, 511, 1023] [0, 1, 2, 3, 4, 5, 6, 7, 8, 9, 10] [4, 5] (by kernel_rfl) (by kernel_rfl) ?_)
  intro tb
  repeat (first | (refine still_in ?_; first | refine still_nil ?_ | refine still_drop (by decide) ?_ | (refine still_keep (by decide) rfl ?_ ?_; first | exact QuV.l1 cok 2 rfl rfl rfl rfl rfl (by first | exact Nat.le_of_ble_eq_true rfl | omega | (dsimp only; omega) | (simp only [addS_eq, mulS_eq]; omega)) (by assumption))))
  refine OpG.keep ?_
  refine OpG.app1 cok (L := _ :: _ :: G) (M := [_]) (vss := [cellsFrom cf 0 60]) (el := cfL (.slice ga gn gc) (.slice va vn vc') (.slice ca cn cc) crAd (adNo 1) [s0, s1, s2, s3, s4, s5, s6, s7]) rfl rfl rfl rfl rfl rfl rfl rfl rfl (own1 h1) ?_ rfl ?_ (by show 1 < _; decide) ?_
  · exact Row.ofCells (n := 60) rfl
  · intro u hu
    simp only [cfL, List.mem_append, List.mem_cons, List.not_mem_nil, or_false] at hu
    rcases hu with (rfl | rfl | rfl | rfl | rfl | rfl | rfl | rfl | rfl | rfl | rfl | rfl) | hu | hu | rfl | rfl | rfl | rfl | rfl | rfl | rfl | rfl
    all_goals first | rfl | assumption | exact one_bvs _ u hu
  intro w' M' hO'
  have hw1 : one w' = true := by
    obtain ⟨wad, wcap, e⟩ := hO'.form
    rw [e]; rfl
  repeat (first | (refine OpG.keep ?_; refine OpG.s1E cok 1 9 rfl rfl rfl rfl rfl rfl (by first | exact Nat.le_of_ble_eq_true rfl | omega) rfl hw1 ?_) | (refine still_in ?_; first | refine still_nil ?_ | refine still_drop (by decide) ?_))
  refine Fin.drop (⟨sb, ssz, Ts, upd (upd (upd (upd cs 0 w0) 6 (.slice wa6 ((withA crAd []).map bvs).length wc6)) 10 nlV) 9 w'⟩ :: (G ++ M')) [_] ?_
  obtain ⟨fb2, cap, c, rfl, rfl, hcap, hrow⟩ := enter_end2 hO'
  exact ⟨J5, w0, _, fb2, cap, c, _, rfl, hcap, (hw0.up hs4).up hs5, hw6.up hs5, hrow, hl8, ho8⟩
end Go.Proofs.YgvafwGreat
