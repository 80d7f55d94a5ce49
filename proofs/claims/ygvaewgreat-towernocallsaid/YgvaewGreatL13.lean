import Derived.Test.YgvaewGreatL10
import Derived.Test.YgvaewGreatL11
import Derived.Test.YgvaewGreatL12
import Derived.Test.YgvaewGreatE78
import Derived.Test.YgvaewGreatE79
import Derived.Test.YgvaewGreatE80
import Derived.Test.YgvaewGreatY94
import Derived.Test.YgvaewGreatY95
set_option exponentiation.threshold 1000
set_option maxRecDepth 100000
set_option maxHeartbeats 4000000
set_option linter.unusedVariables false
set_option linter.unusedSimpArgs false
-- v2
-- v4
-- v5
-- v6
-- v7
namespace Go.Proofs.YgvaewGreat
open Go.HL Go.Proofs

theorem XI.up {I J : Ent → Prop} {c : Nat → Value} {ac : List VA} {sl : List VSl} {MA MS : List Ent} (h : XI I c ac sl MA MS) (hs : HL.Sub I J) : XI J c ac sl MA MS := ⟨h.oa, h.os, fun x hx => (h.cd x hx).mono hs (by simp)⟩
theorem BS.up {I J : Ent → Prop} {cs : Nat → Value} {code : List Nat} (h : BS I cs code) (hs : HL.Sub I J) : BS J cs code := ⟨h.acc.up hs, h.nl, h.ph, h.st, h.ap, h.nl2, h.tot.up hs, h.env⟩
theorem alN_inj {code : List Nat} {ss ss' : List (Nat × Nat)} (h : alN code ss = alN code ss') : ss = ss' := congrArg (fun al => (al.getD 0 ⟨[], 0, 0, [], []⟩ : YA).slots) h
theorem fam_unm {ds : List Nat} : ∀ o ∈ stgN (ds.map unmN), famN o ≠ 16 := by
  intro o ho
  have hm : o ∈ ds.map unmN := by
    unfold stgN at ho
    split at ho
    · exact ho
    · cases ho
  obtain ⟨d, _, rfl⟩ := List.mem_map.1 hm
  unfold unmN
  split
  · decide
  · omega
theorem stg_len (ds : List Nat) : (stgN ds).length ≤ 256 := by
  unfold stgN; split
  · assumption
  · decide
section
variable {J : Ent → Prop} {GE : List Ent} {cb sb sz gas dc : Nat} {T : TypeId} {c cs : Nat → Value} {V : Vl} {da : Option Addr} {ds code : List Nat}
/-- the engine, where the transaction is played -/
theorem ePlay {e : NE} {ss : List (Nat × Nat)} (hr : Runs (K0 code ds waN) ⟨0, gas - intN ds, [], [], W0 code waN⟩ e) (hal : e.w.al = alN code ss) (hsz : 27024 ≤ sz) (hM : MN cb c) (hT : c 27023 = .bool false) (hV : VI J c V GE) (hF : FP code 2 V) (hNd : Byt ⟨J, []⟩ (.slice da ds.length dc) ds) (hg : gas ≤ 1048576) (hd : ds.length ≤ 1024) (hi : intN ds ≤ gas) (hcl : code.length ≤ 256) (hcb : ∀ d ∈ code, d < 256) (hdb : ∀ d ∈ ds, d < 256) (ho : ∀ o ∈ code, famN o ≠ 16) :
    PlayOk 11 14 (ptr cb 0) (txV (.slice da ds.length dc) gas) 0 e.st (usedN gas e.gas e.w.rf) e.out e.w.lg (wlE code ss) J (⟨cb, sz, T, c⟩ :: GE) := by
  intro J1 hs
  refine (eApply paySpec hsz hM hT (hV.up hs) hF (hNd.mono hs (by simp)) hg hd hi hcl hcb hdb ho).mono ?_
  rintro r S' - ⟨l, rfl, e', ss', J2, c', MA, MS, Y, V', w', ov, lv, hr', rfl, rfl, hX, hO, hR, hal2, hal', hSs, hB, hL⟩
  obtain rfl := Runs.det hr' hr
  obtain rfl := alN_inj (hal'.symm.trans hal)
  exact ⟨_, _, ov, lv, rfl, rfl, hB, hL, fun J3 h3 => (eExport (by omega) (hX.up h3) hO hR hal2 hSs).mono fun r S' _ h => h.2⟩
/-- the specification, where the transaction is played -/
theorem yPlay {e : NE} {ss : List (Nat × Nat)} (hr : Runs (K0 code ds waN) ⟨0, gas - intN ds, [], [], W0 code waN⟩ e) (hal : e.w.al = alN code ss) (hB0 : BS J cs code) (hNd : Byt ⟨J, []⟩ (.slice da ds.length dc) ds) (hg : gas ≤ 1048576) (hd : ds.length ≤ 1024) (hi : intN ds ≤ gas) (hcl : code.length ≤ 256) (hcb : ∀ d ∈ code, d < 256) (hdb : ∀ d ∈ ds, d < 256) (ho : ∀ o ∈ code, famN o ≠ 16) :
    PlayOk 13 15 (ptr sb 0) (txV (.slice da ds.length dc) gas) 0 e.st (usedN gas e.gas e.w.rf) e.out e.w.lg (wlE code ss) J [⟨sb, 179, 118, cs⟩] := by
  intro J1 hs
  refine (yApply (hB0.up hs) (hNd.mono hs (by simp)) hg hd hi hcl hcb hdb ho).mono ?_
  rintro r S' - ⟨l, rfl, e', ss', J2, cs', ov, lv, hr', rfl, rfl, hA, hal', hSs, hsl, hB, hL⟩
  obtain rfl := Runs.det hr' hr
  obtain rfl := alN_inj (hal'.symm.trans hal)
  exact ⟨_, _, ov, lv, rfl, rfl, hB, hL, fun J3 h3 => (yExportE (G := []) (hA.up h3) hSs hsl).mono fun r S' _ h => h.2⟩
/-- the engine, where the transaction is refused -/
theorem eRefuse {v : Nat} (hv : 0 < v) (hv2 : v < 256) (hsz : 27024 ≤ sz) (hV : VI J c V GE) (hF : FP code 2 V)
    (hver : ∀ J1, HL.Sub J J1 → CallG Hvae.prog 99 #[ptr cb 0, txV (.slice da ds.length dc) gas] ⟨J1, ⟨cb, sz, T, c⟩ :: GE⟩ fun r S' => S'.G = ⟨cb, sz, T, c⟩ :: GE ∧ r = .tuple #[.int .u8 (v : Nat), wordV 0]) :
    PlayOk 11 14 (ptr cb 0) (txV (.slice da ds.length dc) gas) v 0 0 [] [] (wlU code) J (⟨cb, sz, T, c⟩ :: GE) := by
  intro J1 hs
  refine (eApplyV hv hv2 (hver J1 hs)).mono ?_
  rintro r ⟨J2, _⟩ hs2 ⟨rfl, rfl⟩
  replace hs2 : HL.Sub J1 J2 := hs2
  exact ⟨J2, _, _, _, rfl, rfl, Byt.nil _, ⟨[], RowI.nil _ _, L2.nil _ _⟩, fun J3 h3 => (eExportU (by omega) (hV.up ((hs.trans hs2).trans h3)) hF).mono fun r S' _ h => h.2⟩
/-- the specification, where the transaction is refused -/
theorem yRefuse {v : Nat} (hv : 0 < v) (hv2 : v < 256) (hB0 : BS J cs code)
    (hver : ∀ J1, HL.Sub J J1 → ∀ (G : List Ent), CallG Hvae.prog 52 #[ptr sb 0, txV (.slice da ds.length dc) gas] ⟨J1, ⟨sb, 179, 118, cs⟩ :: G⟩ fun r S' => S'.G = ⟨sb, 179, 118, cs⟩ :: G ∧ r = .int .u8 (v : Nat)) :
    PlayOk 13 15 (ptr sb 0) (txV (.slice da ds.length dc) gas) v 0 0 [] [] (wlU code) J [⟨sb, 179, 118, cs⟩] := by
  intro J1 hs
  refine (yApplyV hv hv2 (hver J1 hs)).mono ?_
  rintro r ⟨J2, _⟩ hs2 ⟨rfl, rfl⟩
  replace hs2 : HL.Sub J1 J2 := hs2
  exact ⟨J2, _, _, _, rfl, rfl, Byt.nil _, ⟨[], RowI.nil _ _, L2.nil _ _⟩, fun J3 h3 => (yExportU (G := []) (hB0.up ((hs.trans hs2).trans h3))).mono fun r S' _ h => h.2⟩
end
/-- what both chains answer -/
theorem lBothP {I : Ent → Prop} {w : Value} {cc gas dc : Nat} {ca da : Option Addr} {code ds : List Nat} (hR : RowI I 55 w [el1 (.slice ca code.length cc), el2]) (hb : Byt ⟨I, []⟩ (.slice ca code.length cc) code) (hcl : code.length ≤ 256) (ho : ∀ o ∈ code, famN o ≠ 16) (hNd : Byt ⟨I, []⟩ (.slice da ds.length dc) ds) (hg64 : gas < 2 ^ 64) :
    ∃ v st u out ml wl, v < 256 ∧ st < 13 ∧ u < 2 ^ 64 ∧ ml.length < 2 ^ 30 ∧ (∀ t ∈ ml, t.2.1.length < 2 ^ 30) ∧ wl.length < 2 ^ 30 ∧ CallG Hvae.prog 9 #[w, envV] ⟨I, []⟩ fun r S' => ∃ J cb sb GE GY, r = .tuple #[ptr cb 0, ptr sb 0, .bool true] ∧ S' = ⟨J, GE ++ GY⟩ ∧ PlayOk 11 14 (ptr cb 0) (txV (.slice da ds.length dc) gas) v st u out ml wl J GE ∧ PlayOk 13 15 (ptr sb 0) (txV (.slice da ds.length dc) gas) v st u out ml wl J GY := by
  have hdb := hNd.1
  have hd47 := hNd.2.1
  have hcb := hb.1
  by_cases hbig : 1048576 < gas ∨ 1024 < ds.length
  · refine ⟨3, 0, 0, [], [], wlU code, by decide, by decide, by decide, by decide, (fun t ht => by cases ht), by show 2 < 2 ^ 30; decide, (lBoth hR hb hcl).mono ?_⟩
    rintro r _ hs ⟨J, cb, sb, sz, c, GE, V, cs, rfl, rfl, hsz, hV, hF, hM, hT, hB⟩
    replace hs : HL.Sub I J := hs
    refine ⟨J, cb, sb, _, _, rfl, rfl, eRefuse (by decide) (by decide) hsz hV hF fun J1 h1 => ?_, yRefuse (by decide) (by decide) hB fun J1 h1 G => ?_⟩
    · refine (eVerdictG (by omega) hM.idl.1 hbig hg64 hd47).mono ?_
      rintro r _ - ⟨rfl, rfl⟩
      exact ⟨rfl, rfl⟩
    · have hE : Row cs 146 (bvs z32) := row_sub (p := 87) (us := bvs z32) hB.env rfl
      have hgl : cs 81 = .int .u64 1048576 := row_at hB.env 22 (by decide) rfl
      by_cases hgb : 1048576 < gas
      · exact yVerdictG (by decide) hE hB.ph hB.ap hgl (hB.accI.up h1) (by show 2 < 2 ^ 20; decide) rfl rfl (hNd.mono (hs.trans h1) (by simp)) hg64 hgb
      · exact yVerdictD (by decide) hE hB.ph hB.ap hgl (hB.accI.up h1) (by show 2 < 2 ^ 20; decide) rfl rfl (hNd.mono (hs.trans h1) (by simp)) hg64 (by omega) (by omega)
  have hg : gas ≤ 1048576 := by omega
  have hd : ds.length ≤ 1024 := by omega
  by_cases hi : intN ds ≤ gas
  · have hR0 := runOk0 (ds := ds) hg hcl hcb
    have hD := ky0 (wa := waN) hcl hd hcb hdb
    obtain ⟨e, hr⟩ := Runs.exists hD (by show code.length ≤ 512; omega) (gas - intN ds + 1) ⟨0, gas - intN ds, [], [], W0 code waN⟩ (Nat.lt_succ_self _) hR0
    obtain ⟨ss, hal, hSs⟩ := AlOk.runs hD (by omega) hr hR0 ⟨[], rfl, SsOk.nil⟩
    have hlg := LgB.runs (lgB0 (code := code) (ds := ds) (wa := waN)) hr (fun t ht => by cases ht)
    have hszB := szB.runs hD (by show code.length ≤ 512; omega) szB0 hr hR0
    have hl := sz_lg hszB
    refine ⟨0, e.st, usedN gas e.gas e.w.rf, e.out, e.w.lg, wlE code ss, by decide, runs_st hr, by unfold usedN; omega, by omega, fun t ht => by have := hlg t ht; omega, by show 2 < 2 ^ 30; decide, (lBoth hR hb hcl).mono ?_⟩
    rintro r _ hs ⟨J, cb, sb, sz, c, GE, V, cs, rfl, rfl, hsz, hV, hF, hM, hT, hB⟩
    replace hs : HL.Sub I J := hs
    exact ⟨J, cb, sb, _, _, rfl, rfl, ePlay hr hal hsz hM hT hV hF (hNd.mono hs (by simp)) hg hd hi hcl hcb hdb ho, yPlay hr hal hB (hNd.mono hs (by simp)) hg hd hi hcl hcb hdb ho⟩
  · refine ⟨8, 0, 0, [], [], wlU code, by decide, by decide, by decide, by decide, (fun t ht => by cases ht), by show 2 < 2 ^ 30; decide, (lBoth hR hb hcl).mono ?_⟩
    rintro r _ hs ⟨J, cb, sb, sz, c, GE, V, cs, rfl, rfl, hsz, hV, hF, hM, hT, hB⟩
    replace hs : HL.Sub I J := hs
    have hE : Row cs 146 (bvs z32) := row_sub (p := 87) (us := bvs z32) hB.env rfl
    have hgl : cs 81 = .int .u64 1048576 := row_at hB.env 22 (by decide) rfl
    have hq := hF.vq (ds := ds)
    have h240 := hq.rw.acc (adNo 240)
    refine ⟨J, cb, sb, _, _, rfl, rfl, eRefuse (by decide) (by decide) hsz hV hF fun J1 h1 => ?_, yRefuse (by decide) (by decide) hB fun J1 h1 G => ?_⟩
    · exact eVerdictI (by omega) hM.idl.1 (hV.up h1) hq.ok (hNd.mono (hs.trans h1) (by simp)) hg hd (by omega) h240.1.symm h240.2.2.symm
    · exact yVerdictI (by decide) hE hB.ph hB.ap hgl (hB.accI.up h1) (by show 2 < 2 ^ 20; decide) rfl rfl (hNd.mono (hs.trans h1) (by simp)) hg64 hg hd (by omega)
/-- law.Tower on the stage -/
theorem lTowerP {I : Ent → Prop} {wa ca da : Option Addr} {wc tb cc dc gas : Nat} {ct : Nat → Value} {code ds : List Nat} (htb : I ⟨tb, 174, 40, ct⟩) (hct : Row ct 0 (txL (.slice da ds.length dc) gas)) (hR : RowI I 55 (.slice wa 2 wc) [el1 (.slice ca code.length cc), el2]) (hb : Byt ⟨I, []⟩ (.slice ca code.length cc) code) (hcl : code.length ≤ 256) (ho : ∀ o ∈ code, famN o ≠ 16) (hNd : Byt ⟨I, []⟩ (.slice da ds.length dc) ds) (hg64 : gas < 2 ^ 64) :
    CallG Hvae.prog 4 #[.slice wa 2 wc, envV, sl tb 0 1 1] ⟨I, []⟩ fun r S' => r = .bool true := by
  obtain ⟨v, st, u, out, ml, wl, h1, h2, h3, h4, h5, h6, hB⟩ := lBothP hR hb hcl ho hNd hg64
  exact lTower htb hct hB h1 h2 h3 h4 h5 h6
end Go.Proofs.YgvaewGreat
