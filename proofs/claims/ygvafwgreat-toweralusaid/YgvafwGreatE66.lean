import Derived.Test.YgvafwGreatR3
import Derived.Test.YgvafwGreatE58
import Derived.Test.YgvafwGreatY85
import Derived.Test.YgvafwGreatL1
set_option exponentiation.threshold 1000
set_option maxRecDepth 100000
set_option maxHeartbeats 4000000
set_option linter.unusedVariables false
set_option linter.unusedSimpArgs false
-- v2
namespace Go.Proofs.YgvafwGreat
open Go.HL Go.Proofs

/-- The machine's cells amid the opening of a transaction. -/
structure OpF (cb : Nat) (c : Nat → Value) (gas tg : Nat) : Prop where
  mS : c 0 = ptr cb 2435
  a1 : c 1 = .slice none 0 0
  a2 : c 2 = .int .u32 ((0 : Nat) : Int)
  a10 : c 10 = .int .u8 ((0 : Nat) : Int)
  top : c 2258 = .int .i8 (-1)
  env : Row c 2260 envL
  og : Row c 2380 (bvs (adNo 240))
  pr : Row c 2400 (wcs 0)
  ap : c 2406 = .int .u8 1
  lim : c 2407 = .int .u64 (gas : Nat)
  tg : c 2408 = .int .u64 (tg : Nat)
  held : Row c 2409 (wcs 0)
  made : Row c 2415 (bvs (List.replicate 20 0))
theorem OpF.out {cb gas tg : Nat} {c c' : Nat → Value} (h : OpF cb c gas tg) (ho : Out c c') : OpF cb c' gas tg := by
  have e := fun k (hk : k < 2435) => ho k (.inl hk)
  have r := fun (o : Nat) (vs : List Value) (hr : Row c o vs) (h2 : o + vs.length ≤ 2435) => Row.congr hr (c' := c') fun k _ hk2 => e k (by omega)
  exact { mS := (e _ (by decide)).trans h.mS
          a1 := (e _ (by decide)).trans h.a1
          a2 := (e _ (by decide)).trans h.a2
          a10 := (e _ (by decide)).trans h.a10
          top := (e _ (by decide)).trans h.top
          env := r _ _ h.env (by decide)
          og := r _ _ h.og (by decide)
          pr := r _ _ h.pr (by decide)
          ap := (e _ (by decide)).trans h.ap
          lim := (e _ (by decide)).trans h.lim
          tg := (e _ (by decide)).trans h.tg
          held := r _ _ h.held (by decide)
          made := r _ _ h.made (by decide) }
theorem row_at {c : Nat → Value} {o : Nat} {vs : List Value} (h : Row c o vs) (i : Nat) {u : Value} (hi : i < vs.length) (hu : vs.getD i undef = u) : c (o + i) = u := (h.get i hi).trans hu
theorem fm_sub {c : Nat → Value} {gas : Nat} {cv iv : Value} {ds : List Nat} (h : Row c 1803 (fmL gas cv iv ds)) (hd : ds.length = 8) : Row c 1858 (ivs .u64 ds) := by
  have e : fmL gas cv iv ds = ([.int .u8 0, .int .u8 0, .int .u8 0, .bool false, .int .u16 0, .int .u16 0, .int .u16 0, .int .u64 (gas : Nat), .int .i32 0] ++ (bvs (adNo 1) ++ (bvs (adNo 240) ++ (wcs 0 ++ [cv, iv])))) ++ (ivs .u64 ds ++ [.int .u32 0, .int .u32 0]) := by simp [fmL]
  rw [e] at h
  have hl : (ivs .u64 ds).length = 8 := by simp [ivs, hd]
  refine ⟨fun i hi => ?_⟩
  have := h.get (55 + i) (by rw [List.length_append]; show 55 + i < 55 + (ivs .u64 ds ++ [Value.int .u32 0, Value.int .u32 0]).length; rw [List.length_append, hl]; show 55 + i < 55 + (8 + 2); omega)
  rw [show 1803 + (55 + i) = 1858 + i by omega] at this
  rw [this, List.getD_eq_getElem?_getD, List.getElem?_append_right (by show 55 ≤ 55 + i; omega), show 55 + i - ([Value.int .u8 0, .int .u8 0, .int .u8 0, .bool false, .int .u16 0, .int .u16 0, .int .u16 0, .int .u64 (gas : Nat), .int .i32 0] ++ (bvs (adNo 1) ++ (bvs (adNo 240) ++ (wcs 0 ++ [cv, iv])))).length = i from Nat.add_sub_cancel_left 55 i, List.getElem?_append_left hi, ← List.getD_eq_getElem?_getD]
theorem fmL_len {gas : Nat} {cv iv : Value} {ds : List Nat} (hd : ds.length = 8) : (fmL gas cv iv ds).length = 65 := by
  have hl : (ivs .u64 ds).length = 8 := by simp [ivs, hd]
  have e : (fmL gas cv iv ds).length = 55 + ((ivs .u64 ds).length + 2) := by
    unfold fmL
    simp only [List.length_append, List.length_cons, List.length_nil]
    show 9 + (20 + (20 + (4 + (2 + ((ivs .u64 ds).length + 2))))) = _
    omega
  rw [e, hl]
/-- The first state of the engine. -/
theorem openNI {J : Ent → Prop} {cb sz gas : Nat} {c c' : Nat → Value} {V : Vl} {G : List Ent} {code ds : List Nat} {cv iv : Value} (hsz : 27019 ≤ sz) (f : OpF cb c gas (gas - intN ds)) (hQ : VQ (K0 code ds waN) V (W0 code waN) 7) (hE : EntP J c c' V G (gas - intN ds) cv iv code) (hcv : Byt ⟨J, []⟩ cv code) (hiv : Byt ⟨J, []⟩ iv ds) (hg : gas ≤ 1048576) (hi : intN ds ≤ gas) (hcl : code.length ≤ 256) (hdl : ds.length ≤ 1024) :
    NI J cb sz c' (K0 code ds waN) { V with nm := 1, mq := V.jr.length } ⟨0, gas - intN ds, [], [], W0 code waN⟩ [] G := by
  obtain ⟨dd, hfr, hd8, hdb, hdt⟩ := hE.fr
  have ot := hE.ot
  have r := fun (o : Nat) (vs : List Value) (hr : Row c o vs) (h1 : 2260 ≤ o) (h2 : o + vs.length ≤ 2404) => Row.congr hr (c' := c') fun k hk1 hk2 => ot k (by omega) (by omega) (by omega) (by omega) (by omega) (by omega) (by omega)
  have env := r 2260 envL f.env (by decide) (by decide)
  have g := fun (i : Nat) (u : Value) (hi : i < 65) (hu : (fmL (gas - intN ds) cv iv dd).getD i undef = u) => row_at hfr i (u := u) (by rw [fmL_len hd8]; exact hi) hu
  have hin : 21000 ≤ intN ds := by unfold intN; omega
  have hm0 : memC 0 = 0 := by decide
  have hO := hQ.ok
  have hjl := hQ.jl
  have hal := hQ.al
  refine ⟨⟨hsz, ⟨hE.a10, (ot 2 (by decide) (by decide) (by decide) (by decide) (by decide) (by decide) (by decide)).trans f.a2, hE.a3, ?_⟩, ?_, ?_, hE.vi, { hO with }, Nat.le_refl 1, Nat.le_refl _, ?_, ?_⟩, ?_, ?_, rfl, ?_, ?_, ?_, ?_, ?_, ?_⟩
  · rw [ot 1 (by decide) (by decide) (by decide) (by decide) (by decide) (by decide) (by decide), f.a1]
    exact ⟨by simp, by show 0 < 2 ^ 30; decide, .inl ⟨rfl, rfl, rfl⟩⟩
  · exact { mS := (ot 0 (by decide) (by decide) (by decide) (by decide) (by decide) (by decide) (by decide)).trans f.mS
            mTop := hE.tp
            mPh := hE.ph
            mRet := hE.rt
            mOr := r _ _ f.og (by decide) (by decide)
            mPr := r _ _ f.pr (by decide) (by decide)
            eCb := row_sub (p := 0) (us := bvs (adNo 192)) env rfl
            eNo := row_at env 20 (by decide) rfl
            eTi := row_at env 21 (by decide) rfl
            eGl := row_at env 22 (by decide) rfl
            eRa := row_sub (p := 23) (us := bvs (List.replicate 32 0)) env rfl
            eCh := row_sub (p := 55) (us := bvs (List.replicate 32 0)) env rfl
            eBf := row_sub (p := 87) (us := bvs (List.replicate 32 0)) env rfl
            eHa := row_at env 119 (by decide) rfl
            fk := g 0 _ (by decide) rfl
            fn := g 2 _ (by decide) rfl
            fst := g 3 _ (by decide) rfl
            fsb := g 5 _ (by decide) rfl
            fsn := g 8 _ (by decide) rfl
            fself := row_sub (p := 9) (us := bvs (adNo 1)) hfr rfl
            fcall := row_sub (p := 29) (us := bvs (adNo 240)) hfr rfl
            fval := row_sub (p := 49) (us := wcs 0) hfr rfl
            fcode := by rw [g 53 cv (by decide) rfl]; exact hcv
            finp := by rw [g 54 iv (by decide) rfl]; exact hiv
            fdst := ⟨dd, fm_sub hfr hd8, hd8, hdb, hdt⟩
            kb := ⟨by show code.length < _; omega, by show ds.length < _; omega, adOk1, adOk240, by show 0 < 2 ^ 17; decide⟩ }
  · exact ⟨g 4 _ (by decide) rfl, g 6 _ (by decide) rfl, g 7 _ (by decide) rfl, fun i hi => absurd hi (by simp), by simp, by simp, by show 0 < 60000; decide, by show gas - intN ds < 2 ^ 40; omega⟩
  · show PopOk (V.jr.length - V.jr.length) _
    rw [Nat.sub_self]; trivial
  · intro k hk
    have hk : k ≤ V.jr.length - V.jr.length := hk
    rw [Nat.sub_self] at hk
    obtain rfl : k = 0 := by omega
    exact { hO with }
  · refine ⟨⟨⟨hQ.rw.acc, hQ.rw.wrm, hQ.rw.mgn, hQ.rw.slo, hQ.rw.sor, hQ.rw.swm, hQ.rw.tmp, hQ.rw.rf, hQ.rw.lg, hQ.rw.x0⟩, Nat.le_refl _, ?_, ?_, hQ.jx⟩, rfl⟩
    · show PopOk (V.jr.length - V.jr.length) _
      rw [Nat.sub_self]; trivial
    · show RW _ (popN (V.jr.length - V.jr.length) _) _
      rw [Nat.sub_self]
      exact ⟨hQ.rw.acc, hQ.rw.wrm, hQ.rw.mgn, hQ.rw.slo, hQ.rw.sor, hQ.rw.swm, hQ.rw.tmp, hQ.rw.rf, hQ.rw.lg, hQ.rw.x0⟩
  · show gas - intN ds + memC (0 / 32) ≤ 1048576
    rw [Nat.zero_div, hm0]; omega
  · show gas - intN ds + 2600 * V.ac.length ≤ 1074576
    omega
  · show gas - intN ds + 2100 * V.sl.length ≤ 1048576
    rw [hQ.sl, List.length_nil]; omega
  · show gas - intN ds + 100 * V.tp.length ≤ 1048576
    rw [hQ.tp, List.length_nil]; omega
  · show gas - intN ds + 33 * V.jr.length ≤ 1048906
    omega
  · show gas - intN ds + 375 * V.lg.length ≤ 1048576
    rw [← hQ.rw.lg]; show gas - intN ds + 375 * 0 ≤ _; omega
  · show V.rf + 199 * (gas - intN ds) ≤ 208666624
    rw [← hQ.rw.rf]; show 0 + _ ≤ _; omega
end Go.Proofs.YgvafwGreat
