import Derived.Test.YgvafwGreatY76
import Derived.Test.YgvafwGreatM1
import Derived.Test.YgvafwGreatHV
import Derived.Test.YgvafwGreatY14
set_option exponentiation.threshold 1000
set_option maxRecDepth 100000
set_option maxHeartbeats 4000000
set_option linter.unusedVariables false
set_option linter.unusedSimpArgs false
-- v2
-- v4
-- v5
-- v6
-- v7
namespace Go.Proofs.YgvafwGreat
open Go.HL Go.Proofs

abbrev nlV : Value := .slice none 0 0
/-- The cells of the outer frame, ahead of entering it. -/
def frL (gv vv cv iv : Value) (self caller : List Nat) (sv : List Value) : List Value := [.int .u8 0, .int .u8 0, .bool false, nlV, gv, vv, nlV, nlV, nlV, nlV, cv, iv] ++ (bvs self ++ (bvs caller ++ sv))
theorem accts2 {I : Ent → Prop} {v : Value} {l1 l2 : List Value} {a1 a2 : YA} {vss : List (List Value)} (hR : RowI I 24 v vss) (hv2 : vss.length = 2) (e1 : vss.getD 0 [] = l1) (e2 : vss.getD 1 [] = l2) (h1 : AcctC I l1 a1) (h2 : AcctC I l2 a2) : AcctsI I v [a1, a2] := by
  refine ⟨vss, hR, hv2, fun i hi => ?_⟩
  have hi2 : i = 0 ∨ i = 1 := by
    have : i < 2 := hi
    omega
  rcases hi2 with rfl | rfl
  · rw [e1]; exact h1
  · rw [e2]; exact h2
/-- The frames' block has the size that the slice's capacity tells. -/
def FzI (fc fsz : Nat) : Prop := fsz = mulS fc 60 ∧ 60 ≤ fsz
theorem enter_end {T : TypeId} {w' : Value} {el : List Value} {M' : List Ent} (h : OwnL T 60 w' ([] ++ [el]) M') : ∃ fb cap c, w' = sl fb 0 1 cap ∧ M' = [⟨fb, mulS cap 60, T, c⟩] ∧ 60 ≤ mulS cap 60 ∧ Row c 0 el := by
  rcases h.out with ⟨_, e, _⟩ | ⟨b, cap, c, h1, h2, h3, h4⟩
  · exact absurd e (by simp)
  · refine ⟨b, cap, c, h1, h3, ?_, ?_⟩
    · have h2 : 1 ≤ cap := h2
      rw [mulS_eq]; omega
    · have he : ([] ++ [el]).flatten = el := by simp
      rw [he] at h4; exact h4
theorem yEnter {I : Ent → Prop} {G : List Ent} {sb ssz : Nat} {Ts : TypeId} {cs : Nat → Value} {l1 l2 : List Value} {a1 a2 : YA} {wa : List (List Nat)} {vss : List (List Value)} {ga va ca ia : Option Addr} {gn gc vn vc' cn cc im ic : Nat} (hsz : 179 ≤ ssz) (hR : RowI I 24 (cs 0) vss) (hv2 : vss.length = 2) (e1 : vss.getD 0 [] = l1) (e2 : vss.getD 1 [] = l2) (h1 : Ac0 I l1 a1) (h2 : Ac0 I l2 a2) (hw : RowI I 20 (cs 1) (wa.map bvs)) (hwl : wa.length < 2 ^ 20)
    (c2 : cs 2 = .slice none 0 0) (c3 : cs 3 = .slice none 0 0) (c4 : cs 4 = .slice none 0 0) (c5 : cs 5 = .slice none 0 0) (c6 : cs 6 = .slice none 0 0) (c7 : cs 7 = .slice none 0 0) (c9 : cs 9 = .slice none 0 0) (hvv : NatI I (.slice va vn vc') 0) :
    CallG Hvaf.prog 65 #[ptr sb 0, .agg (frL (.slice ga gn gc) (.slice va vn vc') (.slice ca cn cc) (.slice ia im ic) (adNo 1) (adNo 240) [nlV, nlV, nlV, nlV, nlV, nlV, nlV, nlV]).toArray] ⟨I, ⟨sb, ssz, Ts, cs⟩ :: (G ++ [])⟩ fun r S' => ∃ J fb fsz cf fc av wv m1 m2 nv, S' = ⟨J, ⟨sb, ssz, Ts, upd (upd cs 10 nlV) 9 (sl fb 0 1 fc)⟩ :: (G ++ [⟨fb, fsz, 156, cf⟩])⟩ ∧ FzI fc fsz ∧ Row cf 0 (frL (.slice ga gn gc) (.slice va vn vc') (.slice ca cn cc) (.slice ia im ic) (adNo 1) (adNo 240) [av, wv, nlV, nv, nlV, nlV, nlV, nlV]) ∧ NatI J nv 0 ∧ RowI J 24 av [m1, m2] ∧ Ac0 J m1 a1 ∧ Ac0 J m2 a2 ∧ RowI J 20 wv (wa.map bvs) := by
  have hcl := fun (G : List Ent) => yClone2 (G := G) (sb := sb) (ssz := ssz) (Ts := Ts) (by omega) hR hv2 e1 e2 h1 h2 hw hwl c2 c3 c4 c5 c6 c7
  refine CallG.start (C := mkC Hvaf.prog) cok (args := [ptr sb 0, .agg (frL (.slice ga gn gc) (.slice va vn vc') (.slice ca cn cc) (.slice ia im ic) (adNo 1) (adNo 240) [nlV, nlV, nlV, nlV, nlV, nlV, nlV, nlV]).toArray]) Hvaf.func65 rfl Hvaf.ntmps65 (by simp) (by kernel_rfl) ?_
  intro b3
  repeat (first | refine SeqS.go cok ?_)
  refine CallG.behind [_] (hcl _) ?_
  rintro r J _ hs ⟨e, av, wv, m1, m2, nv, rfl, q1, q2, q3, q4, q5⟩
  cases e
  replace hs : HL.Sub I J := hs
  have hAc : AcctsI J (cs 0) [a1, a2] := accts2 (hR.up hs) hv2 e1 e2 (h1.up hs).acct (h2.up hs).acct
  have hmv := fun (G : List Ent) => yMove0 (G := G) (wb := sb) (sz := ssz) (T := Ts) (a := adNo 240) (b := adNo 1) (by omega) hAc ⟨rfl, by decide⟩ (hvv.up hs) (by show 2 < 2 ^ 19; decide)
  have o1 : one av = true := by obtain ⟨_, _, rfl⟩ := q2.form; rfl
  have o2 : one wv = true := by obtain ⟨_, _, rfl⟩ := q5.form; rfl
  have o3 : one nv = true := NatI.isl q1
  skip
  refine OpG.keep ?_
  refine OpG.upS cok 0 (vs := [av, wv, nlV, nv, nlV, nlV, nlV, nlV]) rfl rfl rfl rfl rfl rfl ?_ (Nat.le_of_ble_eq_true rfl) ?_
  · intro u hu
    simp only [List.mem_cons, List.not_mem_nil, or_false] at hu
    rcases hu with rfl | rfl | rfl | rfl | rfl | rfl | rfl | rfl
    · exact o1
    · exact o2
    · rfl
    · exact o3
    · rfl
    · rfl
    · rfl
    · rfl
  repeat (first | refine SeqS.go cok ?_ | (refine QuG.keep ?_; first | refine QuG.l1 cok 0 rfl rfl rfl rfl rfl (by first | exact Nat.le_of_ble_eq_true rfl | omega | (dsimp only; omega) | (simp only [addS_eq, mulS_eq]; omega)) ?_))
  refine yCreates0.mono ?_
  rintro r _ - ⟨rfl, rfl⟩
  repeat (first | refine SeqS.go cok ?_ | refine GuardS.yes rfl ?_ | refine CondS.t rfl ?_ | refine CondS.f rfl ?_ | (refine QuG.keep ?_; first | refine QuG.l1 cok 0 rfl rfl rfl rfl rfl (by first | exact Nat.le_of_ble_eq_true rfl | omega | (dsimp only; omega) | (simp only [addS_eq, mulS_eq]; omega)) ?_ | refine QuG.lN cok 0 rfl rfl rfl rfl rfl (by first | exact Nat.le_of_ble_eq_true rfl | omega | (dsimp only; omega) | (simp only [addS_eq, mulS_eq]; omega)) ?_) | refine W.drawI 6 cok [0, 1, 3, 0, 8, 0, 32, 0, 128, 511] [0, 1, 2, 3, 4, 5, 6, 7, 8, 9] [4, 6, 8] (by kernel_rfl) (by kernel_rfl) ?_)
  refine CallG.behind [_] (hmv _) ?_
  rintro r J2 _ hs2 e2
  cases e2
  replace hs2 : HL.Sub J J2 := hs2
  repeat (first | (refine QuG.keep ?_; first | refine QuG.l1E cok 1 rfl rfl rfl rfl rfl (by first | exact Nat.le_of_ble_eq_true rfl | omega | (dsimp only; omega) | (simp only [addS_eq, mulS_eq]; omega)) (by assumption) ?_) | refine SeqS.go cok ?_ | refine And.intro (fillOk_of (Eq.refl true)) ?_ | refine And.intro (by dsimp only; omega) ?_ | (refine QuG.keep ?_; first | refine QuG.lN cok 0 rfl rfl rfl rfl rfl (by first | exact Nat.le_of_ble_eq_true rfl | omega | (dsimp only; omega) | (simp only [addS_eq, mulS_eq]; omega)) ?_) | (refine still_in ?_; first | refine still_drop (by decide) ?_) | (refine OpG.keep ?_; first | refine OpG.s1 cok 1 rfl rfl rfl rfl rfl (by first | exact Nat.le_of_ble_eq_true rfl | omega | (dsimp only; omega) | (simp only [addS_eq, mulS_eq]; omega)) rfl rfl ?_) | refine W.drawI 8 cok [0, 0, 2, 6, 14, 0, 32, 126, 255, 511, 1023] [0, 1, 2, 3, 4, 5, 6, 7, 8, 9, 10] [4, 5] (by kernel_rfl) (by kernel_rfl) ?_)
  intro tb
  repeat (first | (refine still_in ?_; first | refine still_nil ?_ | refine still_drop (by decide) ?_ | (refine still_keep (by decide) rfl ?_ ?_; first | exact QuV.l1 cok 2 rfl rfl rfl rfl rfl (by first | exact Nat.le_of_ble_eq_true rfl | omega | (dsimp only; omega) | (simp only [addS_eq, mulS_eq]; omega)) (by assumption))))
  refine OpG.keep ?_
  refine OpG.app1 cok (L := _ :: _ :: G) (M := []) (vss := []) (el := frL (.slice ga gn gc) (.slice va vn vc') (.slice ca cn cc) (.slice ia im ic) (adNo 1) (adNo 240) [av, wv, nlV, nv, nlV, nlV, nlV, nlV]) rfl rfl rfl rfl rfl rfl rfl rfl rfl (OwnL.nil _ _) ?_ rfl ?_ (by decide) ?_
  · exact Row.ofCells (n := 60) rfl
  · intro u hu
    simp only [frL, List.mem_append, List.mem_cons, List.not_mem_nil, or_false] at hu
    rcases hu with (rfl | rfl | rfl | rfl | rfl | rfl | rfl | rfl | rfl | rfl | rfl | rfl) | hu | hu | rfl | rfl | rfl | rfl | rfl | rfl | rfl | rfl
    all_goals first | rfl | assumption | exact one_bvs _ u hu
  intro w' M' hO'
  have hw1 : one w' = true := by
    obtain ⟨wad, wcap, e⟩ := hO'.form
    rw [e]; rfl
  repeat (first | (refine OpG.keep ?_; refine OpG.s1E cok 1 9 rfl rfl rfl rfl rfl rfl (by first | exact Nat.le_of_ble_eq_true rfl | omega) rfl hw1 ?_) | (refine still_in ?_; first | refine still_nil ?_ | refine still_drop (by decide) ?_))
  refine Fin.drop (⟨sb, ssz, Ts, upd (upd cs 10 nlV) 9 w'⟩ :: (G ++ M')) [_] ?_
  obtain ⟨fb, cap, c, rfl, rfl, h60, hrow⟩ := enter_end hO'
  exact ⟨J2, fb, _, c, cap, av, wv, m1, m2, nv, rfl, ⟨rfl, h60⟩, hrow, q1.up hs2, q2.up hs2, q3.up hs2, q4.up hs2, q5.up hs2⟩
end Go.Proofs.YgvafwGreat
