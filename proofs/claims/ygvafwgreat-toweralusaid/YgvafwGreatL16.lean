import Derived.Test.YgvafwGreatL15
import Derived.Test.YgvafwGreatL7
import Derived.Test.YgvafwGreatL11
import Derived.Test.YgvafwGreatL12
import Derived.Test.YgvafwGreatE77
import Derived.Test.YgvafwGreatE78
import Derived.Test.YgvafwGreatY93
import Derived.Test.YgvafwGreatY95
set_option exponentiation.threshold 1000
set_option maxRecDepth 100000
set_option maxHeartbeats 4000000
set_option linter.unusedVariables false
set_option linter.unusedSimpArgs false
-- v2
-- v4
-- v5
-- v6
-- v7
namespace Go.Proofs.YgvafwGreat
open Go.HL Go.Proofs

theorem XI.up {I J : Ent → Prop} {c : Nat → Value} {ac : List VA} {sl : List VSl} {MA MS : List Ent} (h : XI I c ac sl MA MS) (hs : HL.Sub I J) : XI J c ac sl MA MS := ⟨h.oa, h.os, fun x hx => (h.cd x hx).mono hs (by simp)⟩
theorem BS.up {I J : Ent → Prop} {cs : Nat → Value} {code : List Nat} (h : BS I cs code) (hs : HL.Sub I J) : BS J cs code := ⟨h.acc.up hs, h.nl, h.ph, h.st, h.ap, h.nl2, h.tot.up hs, h.env⟩
section
variable {J : Ent → Prop} {GE : List Ent} {cb sb sz : Nat} {T : TypeId} {c cs : Nat → Value} {V : Vl} {q : AQ}
/-- the engine plays the transaction -/
theorem ePlay {e : NE} (hq : q.Ok) (hr : RunsA q.K q.s0 e) (hsz : 27024 ≤ sz) (hM : MN cb c) (hT : c 27023 = .bool false) (hV : VI J c V GE) (hF : FP q.code 2 V) :
    PlayOk 11 14 (ptr cb 0) (txV (.slice none 0 0) 200000) 0 e.st (usedN 200000 e.gas e.w.rf) e.out e.w.lg (exY e.w.al) J (⟨cb, sz, T, c⟩ :: GE) := by
  intro J1 hs
  refine (eApply paySpec hsz hM hT (hV.up hs) hF hq).mono ?_
  rintro r S' - ⟨l, rfl, e', J2, c', MA, MS, Y, V', w', ov, lv, hr', rfl, rfl, hX, hO, hR, hal2, hFA, hB, hL⟩
  obtain rfl := RunsA.det hr' hr
  exact ⟨_, _, ov, lv, rfl, rfl, hB, hL, fun J3 h3 => (eExport (by omega) (hX.up h3) hO hR hal2 hFA).mono fun r S' _ h => h.2⟩
/-- the specification plays the transaction -/
theorem yPlay {e : NE} (hq : q.Ok) (hr : RunsA q.K q.s0 e) (hB0 : BS J cs q.code) :
    PlayOk 13 15 (ptr sb 0) (txV (.slice none 0 0) 200000) 0 e.st (usedN 200000 e.gas e.w.rf) e.out e.w.lg (exY e.w.al) J [⟨sb, 179, 118, cs⟩] := by
  intro J1 hs
  refine (yApply hq (hB0.up hs)).mono ?_
  rintro r S' - ⟨l, rfl, e', J2, cs', ov, lv, hr', rfl, rfl, hA, hFA, hB, hL⟩
  obtain rfl := RunsA.det hr' hr
  exact ⟨_, _, ov, lv, rfl, rfl, hB, hL, fun J3 h3 => (yExportE (G := []) (hA.up h3) hFA).mono fun r S' _ h => h.2⟩
end
/-- what both chains answer -/
theorem lBothP {I : Ent → Prop} {w : Value} {cc : Nat} {ca : Option Addr} {q : AQ} (hq : q.Ok) (hR : RowI I 55 w [el1 (.slice ca q.code.length cc), el2]) (hb : Byt ⟨I, []⟩ (.slice ca q.code.length cc) q.code) :
    ∃ v st u out ml wl, v < 256 ∧ st < 13 ∧ u < 2 ^ 64 ∧ ml.length < 2 ^ 30 ∧ (∀ t ∈ ml, t.2.1.length < 2 ^ 30) ∧ wl.length < 2 ^ 30 ∧ CallG Hvaf.prog 9 #[w, envV] ⟨I, []⟩ fun r S' => ∃ J cb sb GE GY, r = .tuple #[ptr cb 0, ptr sb 0, .bool true] ∧ S' = ⟨J, GE ++ GY⟩ ∧ PlayOk 11 14 (ptr cb 0) (txV (.slice none 0 0) 200000) v st u out ml wl J GE ∧ PlayOk 13 15 (ptr sb 0) (txV (.slice none 0 0) 200000) v st u out ml wl J GY := by
  have hcl : q.code.length ≤ 256 := by rw [q.len hq]; decide
  obtain ⟨e, hr⟩ := RunsA.exists hq (q.s0.gas + 1) q.s0 (Nat.lt_succ_self _) (RA.zero hq)
  obtain ⟨hFA, _⟩ := RA.runs hq hr (RA.zero hq)
  have hl := sz_lg hFA.sz
  have hwl : (exY e.w.al).length < 2 ^ 30 := by
    rcases hFA.al with ⟨ss, h1, _⟩ | h1
    · rw [h1]; show 2 < 2 ^ 30; decide
    · rw [h1]; show 3 < 2 ^ 30; decide
  refine ⟨0, e.st, usedN 200000 e.gas e.w.rf, e.out, e.w.lg, exY e.w.al, by decide, hFA.st, by unfold usedN; omega, by omega, fun t ht => by have := hFA.lg t ht; omega, hwl, (lBoth hR hb hcl).mono ?_⟩
  rintro r _ hs ⟨J, cb, sb, sz, c, GE, V, cs, rfl, rfl, hsz, hV, hF, hM, hT, hB⟩
  exact ⟨J, cb, sb, _, _, rfl, rfl, ePlay hq hr hsz hM hT hV hF, yPlay hq hr hB⟩
/-- law.Tower on the stage -/
theorem lTowerP {I : Ent → Prop} {wa ca : Option Addr} {wc tb cc : Nat} {ct : Nat → Value} {q : AQ} (hq : q.Ok) (htb : I ⟨tb, 174, 40, ct⟩) (hct : Row ct 0 (txL (.slice none 0 0) 200000)) (hR : RowI I 55 (.slice wa 2 wc) [el1 (.slice ca q.code.length cc), el2]) (hb : Byt ⟨I, []⟩ (.slice ca q.code.length cc) q.code) :
    CallG Hvaf.prog 4 #[.slice wa 2 wc, envV, sl tb 0 1 1] ⟨I, []⟩ fun r S' => r = .bool true := by
  obtain ⟨v, st, u, out, ml, wl, h1, h2, h3, h4, h5, h6, hB⟩ := lBothP hq hR hb
  exact lTower htb hct hB h1 h2 h3 h4 h5 h6
theorem row1 {I : Ent → Prop} {b : Nat} {T : TypeId} {c : Nat → Value} {v : Value} (hb : I ⟨b, 1, T, c⟩) (hc : c 0 = v) : RowI I 1 (HL.sl b 0 1 1) [[v]] := by
  refine ⟨by simp, .inr ⟨⟨b, 1, T, c⟩, 0, 1, rfl, Nat.le_refl _, hb, by simp, ⟨fun i hi => ?_⟩, Nat.le_refl _⟩⟩
  have h0 : i = 0 := by simpa using hi
  subst h0
  exact hc
theorem frzRow1 {P : Program} {f : FuncId} {args : Array Value} {I : Ent → Prop} {b : Nat} {T : TypeId} {c : Nat → Value} {L : List Ent} {K : Post} (v : Value) (hc : c 0 = v) (h : ∀ J, HL.Sub I J → RowI J 1 (HL.sl b 0 1 1) [[v]] → CallG P f args ⟨J, []⟩ K) : CallG P f args ⟨I, ⟨b, 1, T, c⟩ :: L⟩ K :=
  CallG.rel ⟨L, [⟨b, 1, T, c⟩], [], _, by simp, fun _ => .rfl, h _ (fun _ h => .inl h) (row1 (.inr List.mem_cons_self) hc)⟩
theorem frzTx {P : Program} {f : FuncId} {args : Array Value} {I : Ent → Prop} {b : Nat} {T : TypeId} {c : Nat → Value} {K : Post} (L : List Value) (hc : cellsFrom c 0 174 = L) (h : ∀ J ct, HL.Sub I J → J ⟨b, 174, T, ct⟩ → Row ct 0 L → CallG P f args ⟨J, []⟩ K) : CallG P f args ⟨I, [⟨b, 174, T, c⟩]⟩ K :=
  CallG.frz [⟨b, 174, T, c⟩] [] (h _ c (fun _ h => .inl h) (.inr List.mem_cons_self) (Row.ofCells hc))
theorem stg_q {q : AQ} (hq : q.Ok) : stgN q.code = q.code := by unfold stgN; rw [if_pos (by rw [q.len hq]; decide)]
theorem lStageF {I : Ent → Prop} {G : List Ent} {v cv : Value} {q : AQ} (hq : q.Ok) (hR : RowI I 1 v [[cv]]) (hb : Byt ⟨I, []⟩ cv q.code) :
    CallG Hvaf.prog 5 #[v] ⟨I, G⟩ fun r S' => S'.G = G ∧ ∃ wa wc ca cc, r = .slice wa 2 wc ∧ RowI S'.I 55 (.slice wa 2 wc) [el1 (.slice ca q.code.length cc), el2] ∧ Byt ⟨S'.I, []⟩ (.slice ca q.code.length cc) q.code := by
  refine (lStage hR rfl rfl hb).mono ?_
  rintro r S' - ⟨h1, cv', h2, h3⟩
  rw [stg_q hq] at h3
  obtain ⟨wa, wc, rfl⟩ := h2.form
  obtain ⟨ca, cc, rfl, _⟩ := h3.form
  exact ⟨h1, wa, wc, ca, cc, rfl, h2, h3⟩
/-- law.TowerAlu -/
theorem lTowerAlu {I : Ent → Prop} {q : AQ} (hq : q.Ok) :
    CallG Hvaf.prog 3 #[.int .u8 (q.o : Nat), bytesV q.a, bytesV q.b, bytesV q.c] ⟨I, []⟩ fun r S' => r = .bool true := by
  have a32 : (bvs q.a).length = 32 := by simp [hq.a.1]
  have b32 : (bvs q.b).length = 32 := by simp [hq.b.1]
  have c32 : (bvs q.c).length = 32 := by simp [hq.c.1]
  have sa : (bytesV q.a).cells.size = 32 := by show (bvs q.a).toArray.size = 32; simp [hq.a.1]
  have sb : (bytesV q.b).cells.size = 32 := by show (bvs q.b).toArray.size = 32; simp [hq.b.1]
  have sc : (bytesV q.c).cells.size = 32 := by show (bvs q.c).toArray.size = 32; simp [hq.c.1]
  refine CallG.start (C := mkC Hvaf.prog) cok (args := [.int .u8 (q.o : Nat), bytesV q.a, bytesV q.b, bytesV q.c]) Hvaf.func3 rfl Hvaf.ntmps3 (by simp) (by kernel_rfl) ?_
  intro b1 b2 b3
  repeat (first | (refine QuG.keep ?_; first | refine QuG.boxL cok 0 rfl rfl rfl rfl rfl (by assumption) ?_ | refine QuG.boxL cok 1 rfl rfl rfl rfl rfl (by assumption) ?_ | refine QuG.boxL cok 2 rfl rfl rfl rfl rfl (by assumption) ?_) | refine SeqS.go cok ?_)
  refine callBS (lAluProgram hq) fun pa pc J1 hs1 hB1 => ?_
  repeat (first | refine And.intro (fillOk_of (Eq.refl true)) ?_ | refine And.intro (by dsimp only; omega) ?_)
  intro b8
  skip
  refine frzRow1 (.slice pa q.code.length pc) rfl fun J2 hs2 hR2 => ?_
  refine (lStageF hq hR2 (hB1.mono hs2 (by simp))).mono ?_
  rintro r2 ⟨J3, _⟩ hs3 ⟨rfl, wa, wc, sa', sc', rfl, hR3, hB3⟩
  replace hR3 : RowI J3 55 (.slice wa 2 wc) [el1 (.slice sa' q.code.length sc'), el2] := hR3
  replace hB3 : Byt ⟨J3, []⟩ (.slice sa' q.code.length sc') q.code := hB3
  skip
  refine lStageEnv.mono ?_
  rintro r3 _ - ⟨rfl, rfl⟩
  skip
  refine lToA1.mono ?_
  rintro r4 _ - ⟨rfl, rfl⟩
  repeat (first | refine And.intro (fillOk_of (Eq.refl true)) ?_ | refine And.intro (by dsimp only; omega) ?_)
  intro b15
  skip
  refine frzTx (txL (.slice none 0 0) 200000) rfl fun J4 ct hs4 htb hct => ?_
  refine (lTowerP hq htb hct (hR3.up hs4) (hB3.mono hs4 (by simp))).mono ?_
  rintro r5 S5 - rfl
  repeat (first | refine SeqS.go cok ?_)
  exact Fin.same rfl
end Go.Proofs.YgvafwGreat
