import Derived.Test.YgvaewGreatE75
import Derived.Test.YgvaewGreatN5
import Derived.Test.YgvaewGreatN6
set_option exponentiation.threshold 1000
set_option maxRecDepth 100000
set_option maxHeartbeats 4000000
set_option linter.unusedVariables false
set_option linter.unusedSimpArgs false
-- v2
namespace Go.Proofs.YgvaewGreat
open Go.HL Go.Proofs

/-- What engine.pay must do (E68). -/
def PaySpec : Prop := ∀ {I : Ent → Prop} {M G : List Ent} {cb sz gas g st rn rc : Nat} {T : TypeId} {c : Nat → Value} {K : YK} {V : Vl} {w : YW} {ra : Option Addr} {out : List Nat}, 27019 ≤ sz → PayF cb c gas g st ra rn rc → VI I c V G → VOk V → RW K V w → VB V → Byt ⟨I, []⟩ (.slice ra rn rc) out → gas ≤ 1048576 → g ≤ gas → st < 256 → (∀ t ∈ w.lg, t.2.1.length < 5) → (getA w.al (adNo 240)).bal = 2 ^ 128 → (getA w.al (adNo 240)).addr = adNo 240 → (getA (putA { getA w.al (adNo 240) with bal := 2 ^ 128 } w.al) (adNo 192)).bal = 0 → (getA (putA { getA w.al (adNo 240) with bal := 2 ^ 128 } w.al) (adNo 192)).addr = adNo 192 → CallG Hvae.prog 47 #[ptr cb 0] ⟨I, ⟨cb, sz, T, c⟩ :: (M ++ G)⟩ (PayP cb sz T M c K w gas g st out)
/-- The engine's receipt and vault behind a transaction. -/
def EQ (cb sz : Nat) (T : TypeId) (code ds : List Nat) (gas : Nat) (l : List Value) (S' : St) : Prop :=
  ∃ e ss J c' MA MS Y V' w' ov lv, Runs (K0 code ds waN) ⟨0, gas - intN ds, [], [], W0 code waN⟩ e ∧ l = rptL 0 e.st (usedN gas e.gas e.w.rf) ov lv (List.replicate 20 0) ∧ S' = ⟨J, ⟨cb, sz, T, c'⟩ :: (MA ++ (MS ++ Y))⟩ ∧ XI J c' (V'.ac.map coolA) (V'.sl.map coolS) MA MS ∧ VOk V' ∧ RW (K0 code ds waN) V' w' ∧ w'.al = alN code ss ∧ e.w.al = alN code ss ∧ SsOk ss ∧ Byt ⟨J, []⟩ ov e.out ∧ LogsI J lv e.w.lg
/-- engine.Chain.Apply where the transaction is played -/
theorem eApply {I : Ent → Prop} {G : List Ent} {cb sz gas dc : Nat} {T : TypeId} {c : Nat → Value} {V : Vl} {da : Option Addr} {ds code : List Nat} (hpay : PaySpec) (hsz : 27024 ≤ sz) (hM : MN cb c) (hT : c 27023 = .bool false) (hV : VI I c V G) (hF : FP code 2 V) (hNd : Byt ⟨I, []⟩ (.slice da ds.length dc) ds) (hg : gas ≤ 1048576) (hd : ds.length ≤ 1024) (hi : intN ds ≤ gas) (hcl : code.length ≤ 256) (hcb : ∀ d ∈ code, d < 256) (hdb : ∀ d ∈ ds, d < 256) (ho : ∀ o ∈ code, famN o ≠ 16) :
    CallG Hvae.prog 11 #[ptr cb 0, txV (.slice da ds.length dc) gas] ⟨I, ⟨cb, sz, T, c⟩ :: G⟩ fun r S' => ∃ l, r = .agg l.toArray ∧ EQ cb sz T code ds gas l S' := by
  refine eApply0 (by omega) (kc0 hcl ho) (eOpenP (by omega) hM hV hF hNd hg hd hi hcl) ?_
  rintro c1 L S f2 f3 f4 ⟨I1, V1, G1, hN⟩ ⟨J, c0, V2, M, G2, e, rv, rfl, h1, h2, h3, h4, h5, h6, h7, h8⟩
  obtain ⟨ra, rc, rfl, -⟩ := h1.form
  have hR0 := runOk0 (ds := ds) hg hcl hcb
  obtain ⟨ss, hal, hSs⟩ := AlOk.runs (ky0 hcl hd hcb hdb) (by omega) h8 hR0 ⟨[], rfl, SsOk.nil⟩
  have hlg := LgB.runs (lgB0 (code := code) (ds := ds) (wa := waN)) h8 (fun t ht => by cases ht)
  have hPF := payF_of (st := e.st) (g := e.gas) (ra := ra) (rn := e.out.length) (rc := rc) hN f2 f3 h5
  have hTb : endC c0 e.st e.gas (.slice ra e.out.length rc) 27023 = .bool false := (endC_T (by decide)).trans ((h5 27023 (.inr (by decide)) (by decide) (by decide) (by decide) (by decide)).trans (f4.trans hT))
  have h7 : e.gas ≤ gas - intN ds := h7
  have hp := hpay (M := M) (sz := sz) (T := T) (K := K0 code ds waN) (by omega) hPF (endC_VI h2) h3 h4 h6 h1 hg (by omega) (Nat.lt_trans (runs_st h8) (by decide)) hlg (by rw [hal]; rfl) (by rw [hal]; rfl) (by rw [hal]; rfl) (by rw [hal]; rfl)
  refine CallG.behind L (eFinish hsz hPF hTb hp) ?_
  rintro r J2 G3 hs ⟨J3, c', MA, MS, Y, V', ov, lv, rfl, e2, hX, hO, hR, hB, hL⟩
  cases e2
  refine ⟨rptL 0 e.st (usedN gas e.gas e.w.rf) ov lv (List.replicate 20 0), _, _, rfl, rfl, ?_, rfl, e, ss, _, c', MA, MS, Y, V', _, ov, lv, h8, rfl, rfl, hX, hO, hR, ?_, hal, hSs, hB, hL⟩
  · intro u hu
    have o1 := Byt.isl hB
    obtain ⟨la, ln, lc, rfl⟩ := lg_sl hL
    rcases List.mem_append.1 hu with hu | hu
    · simp only [List.mem_cons, List.not_mem_nil, or_false] at hu
      rcases hu with rfl | rfl | rfl | rfl | rfl
      · rfl
      · rfl
      · rfl
      · exact o1
      · rfl
    · exact one_bvs _ u hu
  · show putA { getA (putA { getA e.w.al (adNo 240) with bal := 2 ^ 128 } e.w.al) (adNo 192) with bal := 0 } (putA { getA e.w.al (adNo 240) with bal := 2 ^ 128 } e.w.al) = alN code ss
    rw [hal]; rfl
end Go.Proofs.YgvaewGreat
