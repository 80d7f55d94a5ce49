import Derived.Test.YgvafwGreatN16
import Derived.Test.YgvafwGreatN12
set_option exponentiation.threshold 1000
set_option maxRecDepth 100000
set_option maxHeartbeats 4000000
set_option linter.unusedVariables false
set_option linter.unusedSimpArgs false
-- v2
-- v4
-- v5
-- v6
-- v7
namespace Go.Proofs.YgvafwGreat
open Go.HL Go.Proofs

/-- engine.Chain.Export, by the vault's -/
theorem eExport0 {I : Ent → Prop} {G : List Ent} {cb : Nat} {wl : List OA} (h : CallG Hvaf.prog 32 #[ptr cb 2435] ⟨I, G⟩ fun r S' => S'.G = G ∧ OWI S'.I r wl) :
    CallG Hvaf.prog 14 #[ptr cb 0] ⟨I, G⟩ fun r S' => S'.G = G ∧ OWI S'.I r wl := by
  have h2 : CallG Hvaf.prog 32 #[ptr cb 2435] ⟨I, G⟩ fun r S' => ∃ J a n m, S' = ⟨J, G⟩ ∧ r = .slice a n m ∧ OWI J (.slice a n m) wl := by
    refine h.mono ?_
    rintro r ⟨J, _⟩ hs ⟨rfl, hO⟩
    obtain ⟨vss, hR, hL⟩ := hO.out
    obtain ⟨a, m, rfl⟩ := hR.form
    exact ⟨J, a, _, m, rfl, rfl, vss, hR, hL⟩
  refine CallG.start (C := mkC Hvaf.prog) cok (args := [ptr cb 0]) Hvaf.func14 rfl Hvaf.ntmps14 (by simp) (by kernel_rfl) ?_
  repeat (first | refine SeqS.go cok ?_)
  refine h2.mono ?_
  rintro r _ - ⟨J, a, n, m, rfl, rfl, hO⟩
  repeat (first | refine SeqS.go cok ?_)
  exact Fin.same ⟨rfl, hO⟩
/-- engine.Chain.Export behind a transaction -/
theorem eExport2 {I : Ent → Prop} {cb sz : Nat} {T : TypeId} {c : Nat → Value} {V : Vl} {w : YW} {code ds : List Nat} {ss : List (Nat × Nat)} {MA MS Y : List Ent} (hsz : 27019 ≤ sz) (hX : XI I c (V.ac.map coolA) (V.sl.map coolS) MA MS) (hO : VOk V) (hR : RW (K0 code ds waN) V w) (hal : w.al = alN code ss) (hS : SsOk ss) :
    CallG Hvaf.prog 14 #[ptr cb 0] ⟨I, ⟨cb, sz, T, c⟩ :: (MA ++ (MS ++ Y))⟩ fun r S' => S'.G = Y ∧ OWI S'.I r (wlE code ss) := by
  rw [show (⟨cb, sz, T, c⟩ : Ent) :: (MA ++ (MS ++ Y)) = (⟨cb, sz, T, c⟩ :: (MA ++ MS)) ++ Y by simp]
  refine CallG.frz _ _ ?_
  have hX2 : XI (fun x => I x ∨ x ∈ (⟨cb, sz, T, c⟩ : Ent) :: (MA ++ MS)) c (V.ac.map coolA) (V.sl.map coolS) MA MS := ⟨hX.oa, hX.os, fun x hx => (hX.cd x hx).mono (fun _ h => .inl h) (by simp)⟩
  obtain ⟨j, hXV, e0, ej⟩ := xv_of (cb := cb) (T := T) hsz hX2 (.inr List.mem_cons_self) (fun x hx => .inr (List.mem_cons_of_mem _ (List.mem_append_left _ hx))) (fun x hx => .inr (List.mem_cons_of_mem _ (List.mem_append_right _ hx))) hO hR hal
  refine eExport0 ((vExport hXV).mono ?_)
  rintro r S' - ⟨hG, L, hp, hw, hOW⟩
  refine ⟨hG, ?_⟩
  rw [kv_of hO hR hal hS hp hw] at hOW
  have e1 : [oaN ((V.ac.map coolA).getD 0 dVA) ss, oaN ((V.ac.map coolA).getD j dVA) []] = wlE code ss := by
    have h1 : oaN ((V.ac.map coolA).getD 0 dVA) ss = { oaN ((V.ac.map coolA).getD 0 dVA) [] with sl := ss.map fun p => (be32 p.1, be32 p.2) } := rfl
    rw [h1, e0, ej]; rfl
  rw [← e1]; exact hOW
/-- engine.Chain.Export behind a transaction that made an account -/
theorem eExport3 {I : Ent → Prop} {cb sz : Nat} {T : TypeId} {c : Nat → Value} {V : Vl} {w : YW} {code ds : List Nat} {MA MS Y : List Ent} (hsz : 27019 ≤ sz) (hX : XI I c (V.ac.map coolA) (V.sl.map coolS) MA MS) (hO : VOk V) (hR : RW (K0 code ds waN) V w) (hal : w.al = alC code) :
    CallG Hvaf.prog 14 #[ptr cb 0] ⟨I, ⟨cb, sz, T, c⟩ :: (MA ++ (MS ++ Y))⟩ fun r S' => S'.G = Y ∧ OWI S'.I r (exY (alC code)) := by
  rw [show (⟨cb, sz, T, c⟩ : Ent) :: (MA ++ (MS ++ Y)) = (⟨cb, sz, T, c⟩ :: (MA ++ MS)) ++ Y by simp]
  refine CallG.frz _ _ ?_
  have hX2 : XI (fun x => I x ∨ x ∈ (⟨cb, sz, T, c⟩ : Ent) :: (MA ++ MS)) c (V.ac.map coolA) (V.sl.map coolS) MA MS := ⟨hX.oa, hX.os, fun x hx => (hX.cd x hx).mono (fun _ h => .inl h) (by simp)⟩
  obtain ⟨j, k, hXV, e0, ej, ek⟩ := xw_of (cb := cb) (T := T) hsz hX2 (.inr List.mem_cons_self) (fun x hx => .inr (List.mem_cons_of_mem _ (List.mem_append_left _ hx))) (fun x hx => .inr (List.mem_cons_of_mem _ (List.mem_append_right _ hx))) hO hR hal
  refine eExport0 ((vExport3 hXV).mono ?_)
  rintro r S' - ⟨hG, hOW⟩
  refine ⟨hG, ?_⟩
  rw [e0, ej, ek] at hOW
  exact hOW
/-- engine.Chain.Export behind a transaction -/
theorem eExport {I : Ent → Prop} {cb sz : Nat} {T : TypeId} {c : Nat → Value} {V : Vl} {w : YW} {q : AQ} {e : NE} {MA MS Y : List Ent} (hsz : 27019 ≤ sz) (hX : XI I c (V.ac.map coolA) (V.sl.map coolS) MA MS) (hO : VOk V) (hR : RW q.K V w) (hal : w.al = e.w.al) (hF : FinA q e) :
    CallG Hvaf.prog 14 #[ptr cb 0] ⟨I, ⟨cb, sz, T, c⟩ :: (MA ++ (MS ++ Y))⟩ fun r S' => S'.G = Y ∧ OWI S'.I r (exY e.w.al) := by
  rcases hF.al with ⟨ss, h1, h2⟩ | h1
  · rw [h1, exY_E]
    exact eExport2 hsz hX hO hR (hal.trans h1) h2
  · rw [h1]
    exact eExport3 hsz hX hO hR (hal.trans h1)
end Go.Proofs.YgvafwGreat
