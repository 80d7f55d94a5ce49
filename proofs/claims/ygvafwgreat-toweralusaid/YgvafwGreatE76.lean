import Derived.Test.YgvafwGreatE75
import Derived.Test.YgvafwGreatN5
import Derived.Test.YgvafwGreatN6
set_option exponentiation.threshold 1000
set_option maxRecDepth 100000
set_option maxHeartbeats 4000000
set_option linter.unusedVariables false
set_option linter.unusedSimpArgs false
-- v2
namespace Go.Proofs.YgvafwGreat
open Go.HL Go.Proofs

/-- What engine.pay must do (E68). -/
def PaySpec : Prop := ∀ {I : Ent → Prop} {M G : List Ent} {cb sz gas g st rn rc : Nat} {T : TypeId} {c : Nat → Value} {K : YK} {V : Vl} {w : YW} {ra : Option Addr} {out : List Nat}, 27019 ≤ sz → PayF cb c gas g st ra rn rc → VI I c V G → VOk V → RW K V w → VB V → Byt ⟨I, []⟩ (.slice ra rn rc) out → gas ≤ 1048576 → g ≤ gas → st < 256 → (∀ t ∈ w.lg, t.2.1.length < 5) → (getA w.al (adNo 240)).bal = 2 ^ 128 → (getA w.al (adNo 240)).addr = adNo 240 → (getA (putA { getA w.al (adNo 240) with bal := 2 ^ 128 } w.al) (adNo 192)).bal = 0 → (getA (putA { getA w.al (adNo 240) with bal := 2 ^ 128 } w.al) (adNo 192)).addr = adNo 192 → CallG Hvaf.prog 47 #[ptr cb 0] ⟨I, ⟨cb, sz, T, c⟩ :: (M ++ G)⟩ (PayP cb sz T M c K w gas g st out)
theorem ss_put {w : YW} {code : List Nat} (h : AlOk code w ∨ w.al = alC code) : (getA w.al (adNo 240)).bal = 2 ^ 128 ∧ (getA w.al (adNo 240)).addr = adNo 240 ∧ (getA (putA { getA w.al (adNo 240) with bal := 2 ^ 128 } w.al) (adNo 192)).bal = 0 ∧ (getA (putA { getA w.al (adNo 240) with bal := 2 ^ 128 } w.al) (adNo 192)).addr = adNo 192 ∧ putA { getA (putA { getA w.al (adNo 240) with bal := 2 ^ 128 } w.al) (adNo 192) with bal := 0 } (putA { getA w.al (adNo 240) with bal := 2 ^ 128 } w.al) = w.al := by
  rcases h with ⟨ss, h, _⟩ | h
  · rw [h]; exact ⟨rfl, rfl, rfl, rfl, rfl⟩
  · rw [h]; exact ⟨rfl, rfl, rfl, rfl, rfl⟩
/-- The engine's receipt and vault behind a transaction. -/
def EQ (cb sz : Nat) (T : TypeId) (q : AQ) (l : List Value) (S' : St) : Prop :=
  ∃ e J c' MA MS Y V' w' ov lv, RunsA q.K q.s0 e ∧ l = rptL 0 e.st (usedN 200000 e.gas e.w.rf) ov lv (List.replicate 20 0) ∧ S' = ⟨J, ⟨cb, sz, T, c'⟩ :: (MA ++ (MS ++ Y))⟩ ∧ XI J c' (V'.ac.map coolA) (V'.sl.map coolS) MA MS ∧ VOk V' ∧ RW q.K V' w' ∧ w'.al = e.w.al ∧ FinA q e ∧ Byt ⟨J, []⟩ ov e.out ∧ LogsI J lv e.w.lg
/-- engine.Chain.Apply where the transaction is played -/
theorem eApply {I : Ent → Prop} {G : List Ent} {cb sz : Nat} {T : TypeId} {c : Nat → Value} {V : Vl} {q : AQ} (hpay : PaySpec) (hsz : 27024 ≤ sz) (hM : MN cb c) (hT : c 27023 = .bool false) (hV : VI I c V G) (hF : FP q.code 2 V) (hq : q.Ok) :
    CallG Hvaf.prog 11 #[ptr cb 0, txV (.slice none 0 0) 200000] ⟨I, ⟨cb, sz, T, c⟩ :: G⟩ fun r S' => ∃ l, r = .agg l.toArray ∧ EQ cb sz T q l S' := by
  refine eApply0 (by omega) hq (eOpenP (ds := []) (by omega) hM hV hF (Byt.nil _) (by decide) (by decide) (by decide) (by rw [q.len hq]; decide)) ?_
  rintro c1 L S f2 f3 f4 ⟨I1, V1, G1, hN⟩ ⟨J, c0, V2, M, G2, e, rv, rfl, h1, h2, h3, h4, h5, h6, h8⟩
  obtain ⟨ra, rc, rfl, -⟩ := h1.form
  obtain ⟨hFin, hge⟩ := RA.runs hq h8 (RA.zero hq)
  have hge : e.gas ≤ 179000 := hge
  obtain ⟨p1, p2, p3, p4, p5⟩ := ss_put hFin.al
  have hPF := payF_of (st := e.st) (g := e.gas) (ra := ra) (rn := e.out.length) (rc := rc) hN f2 f3 h5
  have hTb : endC c0 e.st e.gas (.slice ra e.out.length rc) 27023 = .bool false := (endC_T (by decide)).trans ((h5 27023 (.inr (by decide)) (by decide) (by decide) (by decide) (by decide)).trans (f4.trans hT))
  have hp := hpay (M := M) (sz := sz) (T := T) (K := q.K) (by omega) hPF (endC_VI h2) h3 h4 h6 h1 (by decide) (by omega) (Nat.lt_trans hFin.st (by decide)) hFin.lg p1 p2 p3 p4
  refine CallG.behind L (eFinish hsz hPF hTb hp) ?_
  rintro r J2 G3 hs ⟨J3, c', MA, MS, Y, V', ov, lv, rfl, e2, hX, hO, hR, hB, hL⟩
  cases e2
  refine ⟨rptL 0 e.st (usedN 200000 e.gas e.w.rf) ov lv (List.replicate 20 0), _, _, rfl, rfl, ?_, rfl, e, _, c', MA, MS, Y, V', _, ov, lv, h8, rfl, rfl, hX, hO, hR, p5, hFin, hB, hL⟩
  intro u hu
  have o1 := Byt.isl hB
  obtain ⟨la, ln, lc, rfl⟩ := lg_sl hL
  rcases List.mem_append.1 hu with hu | hu
  · simp only [List.mem_cons, List.not_mem_nil, or_false] at hu
    rcases hu with rfl | rfl | rfl | rfl | rfl
    · rfl
    · rfl
    · rfl
    · exact o1
    · rfl
  · exact one_bvs _ u hu
end Go.Proofs.YgvafwGreat
