import Derived.Test.YgvafwGreatE72
import Derived.Test.YgvafwGreatE94
import Derived.Test.YgvafwGreatE67u
set_option exponentiation.threshold 1000
set_option maxRecDepth 100000
set_option maxHeartbeats 40000000
set_option linter.unusedVariables false
set_option linter.unusedSimpArgs false
-- v2
-- v4
-- v5
-- v6
-- v7
namespace Go.Proofs.YgvafwGreat
open Go.HL Go.Proofs

/-- mach.Machine.Step where nothing runs -/
theorem mStepE {I : Ent → Prop} {G : List Ent} {cb sz : Nat} {T : TypeId} {c : Nat → Value} (hsz : 2435 ≤ sz) (hph : c 2404 = .int .u8 2) :
    CallG Hvaf.prog 46 #[ptr cb 0] ⟨I, ⟨cb, sz, T, c⟩ :: G⟩ fun r S' => ⟨I, ⟨cb, sz, T, c⟩ :: G⟩ = S' ∧ r = .bool false := by
  refine CallG.start (C := mkC Hvaf.prog) cok (args := [ptr cb 0]) Hvaf.func46 rfl Hvaf.ntmps46 (by simp) (by kernel_rfl) ?_
  repeat (first | (refine QuG.keep ?_; first | refine QuG.l1E cok 0 rfl rfl rfl rfl rfl (by first | exact Nat.le_of_ble_eq_true rfl | omega | (dsimp only; omega) | (simp only [addS_eq, mulS_eq]; omega)) (by assumption) ?_) | refine SeqS.go cok ?_ | refine GuardS.no rfl ?_ | refine CondS.t rfl ?_)
  exact Fin.same ⟨rfl, rfl⟩
/-- engine.Chain.Step -/
theorem eStep {S : St} {cb : Nat} {K : Post} (h : CallG Hvaf.prog 46 #[ptr cb 0] S fun r S' => ∃ b, r = .bool b ∧ K (.bool b) S') : CallG Hvaf.prog 25 #[ptr cb 0] S K := by
  refine CallG.start (C := mkC Hvaf.prog) cok (args := [ptr cb 0]) Hvaf.func25 rfl Hvaf.ntmps25 (by simp) (by kernel_rfl) ?_
  repeat (first | refine SeqS.go cok ?_)
  refine h.mono ?_
  rintro r S' hs ⟨b, rfl, hk⟩
  repeat (first | refine SeqS.go cok ?_)
  exact Fin.same hk
/-- engine.Chain.Begin -/
theorem eBegin {I : Ent → Prop} {G : List Ent} {cb gas : Nat} {dv : Value} {K : Post} (h : CallG Hvaf.prog 45 #[ptr cb 0, txV dv gas] ⟨I, G⟩ fun r S' => ∃ v : Nat, r = .int .u8 (v : Nat) ∧ K (.int .u8 (v : Nat)) S') : CallG Hvaf.prog 24 #[ptr cb 0, txV dv gas] ⟨I, G⟩ K := by
  refine CallG.start (C := mkC Hvaf.prog) cok (args := [ptr cb 0, txV dv gas]) Hvaf.func24 rfl Hvaf.ntmps24 (by simp) (by kernel_rfl) ?_
  intro b3
  repeat (first | refine SeqS.go cok ?_ | (refine QuG.keep ?_; first | refine QuG.lN cok 0 rfl rfl rfl rfl rfl (by first | exact Nat.le_of_ble_eq_true rfl | omega | (dsimp only; omega) | (simp only [addS_eq, mulS_eq]; omega)) ?_) | refine W.drawI 1 cok [0, 1, 3, 0, 15, 31] [0, 1, 2, 3, 4, 5] [3] (by kernel_rfl) (by kernel_rfl) ?_)
  refine CallG.behind [_] h ?_
  rintro r J1 G1 hs ⟨v, rfl, hk⟩
  repeat (first | refine SeqS.go cok ?_ | (refine still_in ?_; first | refine still_drop (by decide) ?_))
  exact Fin.drop G1 [_] hk
/-- The engine behind a whole run: ended. -/
def ERunE (cb sz : Nat) (T : TypeId) (c1 : Nat → Value) (q : AQ) (L : List Ent) (S' : St) : Prop :=
  ∃ J c0 V M G e rv, S' = ⟨J, L ++ (⟨cb, sz, T, endC c0 e.st e.gas rv⟩ :: (M ++ G))⟩ ∧ Byt ⟨J, []⟩ rv e.out ∧ VI J c0 V G ∧ VOk V ∧ RW q.K V e.w ∧ KeepC c1 c0 ∧ VB V ∧ RunsA q.K q.s0 e
/-- The engine amid a run: the outer frame runs, or a child that CREATE made. -/
def ERunM (cb sz : Nat) (T : TypeId) (c1 : Nat → Value) (q : AQ) (L : List Ent) (n : Nat) (S' : St) : Prop :=
  (∃ J c' V M G σ, n = σ.gas + 1 ∧ S' = ⟨J, L ++ (⟨cb, sz, T, c'⟩ :: (M ++ G))⟩ ∧ NI J cb sz c' q.K V σ M G ∧ KeepC c1 c' ∧ RA q σ ∧ ∀ e, RunsA q.K σ e → RunsA q.K q.s0 e) ∨ (∃ J c' V M G σ, n = σ.gas + 2 ∧ S' = ⟨J, L ++ (⟨cb, sz, T, c'⟩ :: (M ++ G))⟩ ∧ ChI J cb sz c1 c' q.K V σ M G ∧ RA q σ ∧ ∀ e, RunsA q.K σ e → RunsA q.K q.s0 e) ∨ (n = 0 ∧ ERunE cb sz T c1 q L S')
theorem ChI.keep {I : Ent → Prop} {cb sz : Nat} {c0 c1 c' : Nat → Value} {K : YK} {V : Vl} {τ : NS} {M G : List Ent} (h : ChI I cb sz c1 c' K V τ M G) (hk : KeepC c0 c1) : ChI I cb sz c0 c' K V τ M G := by
  obtain ⟨cP, pc, g0, g1, n, a1, a2, a3, a4, a5, a6⟩ := h.st
  exact ⟨h.eS, h.ar, ⟨cP, pc, g0, g1, n, a1, a2, hk.trans a3, a4, a5, a6⟩, h.ts, h.eV, h.eO, h.rj, h.bd⟩
/-- One Step of the engine. -/
theorem eRunStep {cb sz n : Nat} {T : TypeId} {c1 : Nat → Value} {q : AQ} {L : List Ent} {S : St} (hsz : 27019 ≤ sz) (hq : q.Ok) (h : ERunM cb sz T c1 q L n S) :
    CallG Hvaf.prog 25 #[ptr cb 0] S fun r S' => (r = .bool true ∧ ∃ m, m < n ∧ ERunM cb sz T c1 q L m S') ∨ (r = .bool false ∧ ERunE cb sz T c1 q L S') := by
  rcases h with ⟨J, c', V, M, G, σ, rfl, rfl, hN, hk, hR, hr⟩ | ⟨J, c', V, M, G, σ, rfl, rfl, hN, hR, hr⟩ | ⟨rfl, J, c0, V, M, G, e, rv, rfl, h1, h2, h3, h4, h5, h6, h8⟩
  · refine eStep (CallG.behind L (mStepX hq hR hN) ?_)
    rintro r J2 G2 hs ⟨rfl, hst⟩
    refine ⟨true, rfl, .inl ⟨rfl, ?_⟩⟩
    cases hs2 : stepA q.K σ with
    | inl τ =>
      rw [hs2] at hst
      obtain ⟨hR3, hg3⟩ := hR.next hq hs2
      rcases hst with ⟨J3, c3, V3, M3, G3, e3, hN3, hk3, _⟩ | ⟨J3, c3, V3, M3, G3, e3, hN3, hk3⟩
      · cases e3
        exact ⟨τ.gas + 1, by omega, .inl ⟨_, c3, V3, M3, G3, τ, rfl, rfl, hN3, hk.trans hk3, hR3, fun e he => hr e (.next hs2 he)⟩⟩
      · cases e3
        exact ⟨τ.gas + 2, by omega, .inr (.inl ⟨_, c3, V3, M3, G3, τ, rfl, rfl, hN3.keep hk, hR3, fun e he => hr e (.next hs2 he)⟩)⟩
    | inr e =>
      rw [hs2] at hst
      obtain ⟨J3, c3, V3, M3, G3, rv, e3, q1, q2, q3, q4, q5, q6, q7⟩ := hst
      cases e3
      exact ⟨0, by omega, .inr (.inr ⟨rfl, _, c3, V3, M3, G3, e, rv, rfl, q1, q2, q3, q4, hk.trans q5, q6, hr e (.fin hs2)⟩)⟩
  · refine eStep (CallG.behind L (mChild hN) ?_)
    rintro r J2 G2 hs ⟨rfl, c3, e3, hN3, hk3⟩
    cases e3
    exact ⟨true, rfl, .inl ⟨rfl, σ.gas + 1, by omega, .inl ⟨_, c3, V, M, G, σ, rfl, rfl, hN3, hk3, hR, hr⟩⟩⟩
  · have hph : endC c0 e.st e.gas rv 2404 = .int .u8 2 := (endC_MD (Out.refl c0)).ph
    refine eStep (CallG.behind L (mStepE (by omega) hph) ?_)
    rintro r J2 G2 hs ⟨e2, rfl⟩
    cases e2
    exact ⟨false, rfl, .inr ⟨rfl, _, c0, V, M, G, e, rv, rfl, h1, h2, h3, h4, h5, h6, h8⟩⟩
/-- What Open leaves. -/
def OpenP (cb sz : Nat) (T : TypeId) (c : Nat → Value) (code ds : List Nat) (gas : Nat) : Post := fun r S' => r = .int .u8 0 ∧ ∃ J c' G' V', S' = ⟨J, ⟨cb, sz, T, c'⟩ :: G'⟩ ∧ NI J cb sz c' (K0 code ds waN) V' ⟨0, gas - intN ds, [], [], W0 code waN⟩ [] G' ∧ c' 2406 = .int .u8 1 ∧ c' 2407 = .int .u64 (gas : Nat) ∧ Row c' 2415 (bvs (List.replicate 20 0)) ∧ c' 27023 = c 27023
theorem s0_eq (q : AQ) : (⟨0, 200000 - intN [], [], [], W0 q.code waN⟩ : NS) = q.s0 := rfl
/-- engine.Chain.Apply where the transaction is played; Open and Finish given -/
theorem eApply0 {I : Ent → Prop} {G : List Ent} {cb sz : Nat} {T : TypeId} {c : Nat → Value} {dv : Value} {q : AQ} {Q : List Value → St → Prop} (hsz : 27019 ≤ sz) (hq : q.Ok) (hopen : CallG Hvaf.prog 45 #[ptr cb 0, txV dv 200000] ⟨I, ⟨cb, sz, T, c⟩ :: G⟩ (OpenP cb sz T c q.code [] 200000))
    (hfin : ∀ (c1 : Nat → Value) (L : List Ent) (S : St), c1 2407 = .int .u64 ((200000 : Nat) : Int) → Row c1 2415 (bvs (List.replicate 20 0)) → c1 27023 = c 27023 → (∃ I1 V1 G1, NI I1 cb sz c1 q.K V1 q.s0 [] G1) → ERunE cb sz T c1 q L S → CallG Hvaf.prog 26 #[ptr cb 0] S fun r S' => ∃ l J2 G2, r = .agg l.toArray ∧ l.length = 25 ∧ (∀ u ∈ l, one u = true) ∧ S' = ⟨J2, L ++ G2⟩ ∧ Q l ⟨J2, G2⟩) :
    CallG Hvaf.prog 11 #[ptr cb 0, txV dv 200000] ⟨I, ⟨cb, sz, T, c⟩ :: G⟩ fun r S' => ∃ l, r = .agg l.toArray ∧ Q l S' := by
  have hbg := eBegin (K := OpenP cb sz T c q.code [] 200000) (hopen.mono fun r S' _ h => ⟨0, h.1, by have := h.1; subst this; exact h⟩)
  unfold OpenP at hbg
  rw [s0_eq q] at hbg
  refine CallG.start (C := mkC Hvaf.prog) cok (args := [ptr cb 0, txV dv 200000]) Hvaf.func11 rfl Hvaf.ntmps11 (by simp) (by kernel_rfl) ?_
  intro b3 b4
  repeat (first | refine SeqS.go cok ?_ | (refine QuG.keep ?_; first | refine QuG.lN cok 1 rfl rfl rfl rfl rfl (by first | exact Nat.le_of_ble_eq_true rfl | omega | (dsimp only; omega) | (simp only [addS_eq, mulS_eq]; omega)) ?_))
  refine CallG.behind [_, _] hbg ?_
  rintro r J1 _ hs1 ⟨rfl, J1', c1, G1, V1, e1, hN, f1, f2, f3, f4⟩
  cases e1
  repeat (first | refine SeqS.go cok ?_ | refine CondS.f rfl ?_)
  refine W.loopE cok (by kernel_rfl) 0 (fun (n : Nat) e' S' => (∃ c4, ERunM cb sz T c1 q [⟨b4, 25, 51, c4⟩, ⟨b3, 174, 40, vc (txV dv 200000)⟩] n S') ∧ slots [(0, ptr cb 0), (4, ptr b4 0)] e') (fun n => n) (q.s0.gas + 1)
    ⟨⟨_, .inl ⟨_, c1, V1, [], G1, _, rfl, rfl, hN, KeepC.refl c1, RA.zero hq, fun _ h => h⟩⟩, rfl, rfl, trivial⟩ (fun e' S' => (∃ c4, ERunE cb sz T c1 q [⟨b4, 25, 51, c4⟩, ⟨b3, 174, 40, vc (txV dv 200000)⟩] S') ∧ slots [(0, ptr cb 0), (4, ptr b4 0)] e') ?_ ?_
  · rintro e' S2 hs2 ⟨⟨c4, hE⟩, hsl⟩
    refine SeqS.slots cok _ hsl fun e => ?_
    skip
    refine (hfin _ _ _ f2 f3 f4 ⟨_, _, _, hN⟩ hE).mono ?_
    rintro r3 _ hs3 ⟨l, J2, G2, rfl, hl, ho, rfl, hQ⟩
    repeat (first | (refine OpG.keep ?_; first | refine OpG.upS cok 0 rfl rfl rfl rfl rfl (by assumption) (by first | assumption | exact one_bvs _) (by first | exact Nat.le_of_ble_eq_true rfl | omega) ?_) | (refine LdG.keep ?_; first | refine LdG.upL cok 0 rfl rfl rfl rfl rfl rfl (by assumption) (by first | exact Nat.le_of_ble_eq_true rfl | omega) ?_) | refine SeqS.go cok ?_)
    exact Fin.drop G2 [_, _] ⟨l, rfl, hQ⟩
  · rintro n e' S2 hs2 ⟨⟨c4, hM⟩, hsl⟩
    refine W.slots _ hsl fun e => ?_
    skip
    refine (eRunStep hsz hq hM).mono ?_
    rintro r3 S3 hs3 (⟨rfl, m, hm, hM3⟩ | ⟨rfl, hE3⟩)
    · repeat (first | refine SeqS.go cok ?_ | refine CondS.t rfl ?_)
      exact ⟨m, ⟨⟨c4, hM3⟩, rfl, rfl, trivial⟩, hm⟩
    · repeat (first | refine SeqS.go cok ?_ | refine CondS.f rfl ?_)
      exact ⟨⟨c4, hE3⟩, rfl, rfl, trivial⟩
end Go.Proofs.YgvafwGreat
