import Derived.Test.YgvaewGreatE72
import Derived.Test.YgvaewGreatE58
import Derived.Test.YgvaewGreatN2
import Derived.Test.YgvaewGreatE67u
set_option exponentiation.threshold 1000
set_option maxRecDepth 100000
set_option maxHeartbeats 40000000
set_option linter.unusedVariables false
set_option linter.unusedSimpArgs false
-- v2
-- v4
-- v5
-- v6
-- v7
namespace Go.Proofs.YgvaewGreat
open Go.HL Go.Proofs

/-- mach.Machine.Step where nothing runs -/
theorem mStepE {I : Ent → Prop} {G : List Ent} {cb sz : Nat} {T : TypeId} {c : Nat → Value} (hsz : 2435 ≤ sz) (hph : c 2404 = .int .u8 2) :
    CallG Hvae.prog 46 #[ptr cb 0] ⟨I, ⟨cb, sz, T, c⟩ :: G⟩ fun r S' => ⟨I, ⟨cb, sz, T, c⟩ :: G⟩ = S' ∧ r = .bool false := by
  refine CallG.start (C := mkC Hvae.prog) cok (args := [ptr cb 0]) Hvae.func46 rfl Hvae.ntmps46 (by simp) (by kernel_rfl) ?_
  repeat (first | (refine QuG.keep ?_; first | refine QuG.l1E cok 0 rfl rfl rfl rfl rfl (by first | exact Nat.le_of_ble_eq_true rfl | omega | (dsimp only; omega) | (simp only [addS_eq, mulS_eq]; omega)) (by assumption) ?_) | refine SeqS.go cok ?_ | refine GuardS.no rfl ?_ | refine CondS.t rfl ?_)
  exact Fin.same ⟨rfl, rfl⟩
/-- engine.Chain.Step -/
theorem eStep {S : St} {cb : Nat} {K : Post} (h : CallG Hvae.prog 46 #[ptr cb 0] S fun r S' => ∃ b, r = .bool b ∧ K (.bool b) S') : CallG Hvae.prog 25 #[ptr cb 0] S K := by
  refine CallG.start (C := mkC Hvae.prog) cok (args := [ptr cb 0]) Hvae.func25 rfl Hvae.ntmps25 (by simp) (by kernel_rfl) ?_
  repeat (first | refine SeqS.go cok ?_)
  refine h.mono ?_
  rintro r S' hs ⟨b, rfl, hk⟩
  repeat (first | refine SeqS.go cok ?_)
  exact Fin.same hk
/-- engine.Chain.Begin -/
theorem eBegin {I : Ent → Prop} {G : List Ent} {cb gas : Nat} {dv : Value} {K : Post} (h : CallG Hvae.prog 45 #[ptr cb 0, txV dv gas] ⟨I, G⟩ fun r S' => ∃ v : Nat, r = .int .u8 (v : Nat) ∧ K (.int .u8 (v : Nat)) S') : CallG Hvae.prog 24 #[ptr cb 0, txV dv gas] ⟨I, G⟩ K := by
  refine CallG.start (C := mkC Hvae.prog) cok (args := [ptr cb 0, txV dv gas]) Hvae.func24 rfl Hvae.ntmps24 (by simp) (by kernel_rfl) ?_
  intro b3
  repeat (first | refine SeqS.go cok ?_ | (refine QuG.keep ?_; first | refine QuG.lN cok 0 rfl rfl rfl rfl rfl (by first | exact Nat.le_of_ble_eq_true rfl | omega | (dsimp only; omega) | (simp only [addS_eq, mulS_eq]; omega)) ?_) | refine W.drawI 1 cok [0, 1, 3, 0, 15, 31] [0, 1, 2, 3, 4, 5] [3] (by kernel_rfl) (by kernel_rfl) ?_)
  refine CallG.behind [_] h ?_
  rintro r J1 G1 hs ⟨v, rfl, hk⟩
  repeat (first | refine SeqS.go cok ?_ | (refine still_in ?_; first | refine still_drop (by decide) ?_))
  exact Fin.drop G1 [_] hk
/-- The engine behind a whole run: ended. -/
def ERunE (cb sz : Nat) (T : TypeId) (c1 : Nat → Value) (K : YK) (σ0 : NS) (L : List Ent) (S' : St) : Prop :=
  ∃ J c0 V M G e rv, S' = ⟨J, L ++ (⟨cb, sz, T, endC c0 e.st e.gas rv⟩ :: (M ++ G))⟩ ∧ Byt ⟨J, []⟩ rv e.out ∧ VI J c0 V G ∧ VOk V ∧ RW K V e.w ∧ KeepC c1 c0 ∧ VB V ∧ e.gas ≤ σ0.gas ∧ Runs K σ0 e
/-- The engine amid a run. -/
def ERunM (cb sz : Nat) (T : TypeId) (c1 : Nat → Value) (K : YK) (σ0 : NS) (L : List Ent) (n : Nat) (S' : St) : Prop :=
  (∃ J c' V M G σ, n = σ.gas + 1 ∧ S' = ⟨J, L ++ (⟨cb, sz, T, c'⟩ :: (M ++ G))⟩ ∧ NI J cb sz c' K V σ M G ∧ KeepC c1 c' ∧ σ.gas ≤ σ0.gas ∧ ∀ e, Runs K σ e → Runs K σ0 e) ∨ (n = 0 ∧ ERunE cb sz T c1 K σ0 L S')
/-- One Step of the engine. -/
theorem eRunStep {cb sz n : Nat} {T : TypeId} {c1 : Nat → Value} {K : YK} {σ0 : NS} {L : List Ent} {S : St} (hsz : 27019 ≤ sz) (hC : KC K) (h : ERunM cb sz T c1 K σ0 L n S) :
    CallG Hvae.prog 25 #[ptr cb 0] S fun r S' => (r = .bool true ∧ ∃ m, m < n ∧ ERunM cb sz T c1 K σ0 L m S') ∨ (r = .bool false ∧ ERunE cb sz T c1 K σ0 L S') := by
  rcases h with ⟨J, c', V, M, G, σ, rfl, rfl, hN, hk, hg, hr⟩ | ⟨rfl, J, c0, V, M, G, e, rv, rfl, h1, h2, h3, h4, h5, h6, h7, h8⟩
  · refine eStep (CallG.behind L (mStep hC hN) ?_)
    rintro r J2 G2 hs ⟨rfl, hst⟩
    refine ⟨true, rfl, .inl ⟨rfl, ?_⟩⟩
    cases hs2 : stepN kecN K σ with
    | inl τ =>
      rw [hs2] at hst
      obtain ⟨J3, c3, V3, M3, G3, e3, hN3, hk3, hg3⟩ := hst
      cases e3
      exact ⟨τ.gas + 1, by omega, .inl ⟨_, c3, V3, M3, G3, τ, rfl, rfl, hN3, hk.trans hk3, by omega, fun e he => hr e (.next hs2 he)⟩⟩
    | inr e =>
      rw [hs2] at hst
      obtain ⟨J3, c3, V3, M3, G3, rv, e3, q1, q2, q3, q4, q5, q6, q7⟩ := hst
      cases e3
      exact ⟨0, by omega, .inr ⟨rfl, _, c3, V3, M3, G3, e, rv, rfl, q1, q2, q3, q4, hk.trans q5, q6, by omega, hr e (.fin hs2)⟩⟩
  · have hph : endC c0 e.st e.gas rv 2404 = .int .u8 2 := (endC_MD (Out.refl c0)).ph
    refine eStep (CallG.behind L (mStepE (by omega) hph) ?_)
    rintro r J2 G2 hs ⟨e2, rfl⟩
    cases e2
    exact ⟨false, rfl, .inr ⟨rfl, _, c0, V, M, G, e, rv, rfl, h1, h2, h3, h4, h5, h6, h7, h8⟩⟩
/-- What Open leaves. -/
def OpenP (cb sz : Nat) (T : TypeId) (c : Nat → Value) (code ds : List Nat) (gas : Nat) : Post := fun r S' => r = .int .u8 0 ∧ ∃ J c' G' V', S' = ⟨J, ⟨cb, sz, T, c'⟩ :: G'⟩ ∧ NI J cb sz c' (K0 code ds waN) V' ⟨0, gas - intN ds, [], [], W0 code waN⟩ [] G' ∧ c' 2406 = .int .u8 1 ∧ c' 2407 = .int .u64 (gas : Nat) ∧ Row c' 2415 (bvs (List.replicate 20 0)) ∧ c' 27023 = c 27023
/-- engine.Chain.Apply where the transaction is played; Open and Finish given -/
theorem eApply0 {I : Ent → Prop} {G : List Ent} {cb sz gas : Nat} {T : TypeId} {c : Nat → Value} {dv : Value} {ds code : List Nat} {Q : List Value → St → Prop} (hsz : 27019 ≤ sz) (hC : KC (K0 code ds waN)) (hopen : CallG Hvae.prog 45 #[ptr cb 0, txV dv gas] ⟨I, ⟨cb, sz, T, c⟩ :: G⟩ (OpenP cb sz T c code ds gas))
    (hfin : ∀ (c1 : Nat → Value) (L : List Ent) (S : St), c1 2407 = .int .u64 (gas : Nat) → Row c1 2415 (bvs (List.replicate 20 0)) → c1 27023 = c 27023 → (∃ I1 V1 G1, NI I1 cb sz c1 (K0 code ds waN) V1 ⟨0, gas - intN ds, [], [], W0 code waN⟩ [] G1) → ERunE cb sz T c1 (K0 code ds waN) ⟨0, gas - intN ds, [], [], W0 code waN⟩ L S → CallG Hvae.prog 26 #[ptr cb 0] S fun r S' => ∃ l J2 G2, r = .agg l.toArray ∧ l.length = 25 ∧ (∀ u ∈ l, one u = true) ∧ S' = ⟨J2, L ++ G2⟩ ∧ Q l ⟨J2, G2⟩) :
    CallG Hvae.prog 11 #[ptr cb 0, txV dv gas] ⟨I, ⟨cb, sz, T, c⟩ :: G⟩ fun r S' => ∃ l, r = .agg l.toArray ∧ Q l S' := by
  have hbg := eBegin (K := OpenP cb sz T c code ds gas) (hopen.mono fun r S' _ h => ⟨0, h.1, by have := h.1; subst this; exact h⟩)
  unfold OpenP at hbg
  refine CallG.start (C := mkC Hvae.prog) cok (args := [ptr cb 0, txV dv gas]) Hvae.func11 rfl Hvae.ntmps11 (by simp) (by kernel_rfl) ?_
  intro b3 b4
  repeat (first | refine SeqS.go cok ?_ | (refine QuG.keep ?_; first | refine QuG.lN cok 1 rfl rfl rfl rfl rfl (by first | exact Nat.le_of_ble_eq_true rfl | omega | (dsimp only; omega) | (simp only [addS_eq, mulS_eq]; omega)) ?_))
  refine CallG.behind [_, _] hbg ?_
  rintro r J1 _ hs1 ⟨rfl, J1', c1, G1, V1, e1, hN, f1, f2, f3, f4⟩
  cases e1
  repeat (first | refine SeqS.go cok ?_ | refine CondS.f rfl ?_)
  refine W.loopE cok (by kernel_rfl) 0 (fun (n : Nat) e' S' => (∃ c4, ERunM cb sz T c1 (K0 code ds waN) ⟨0, gas - intN ds, [], [], W0 code waN⟩ [⟨b4, 25, 51, c4⟩, ⟨b3, 174, 40, vc (txV dv gas)⟩] n S') ∧ slots [(0, ptr cb 0), (4, ptr b4 0)] e') (fun n => n) (gas - intN ds + 1)
    ⟨⟨_, .inl ⟨_, c1, V1, [], G1, _, rfl, rfl, hN, KeepC.refl c1, Nat.le_refl _, fun _ h => h⟩⟩, rfl, rfl, trivial⟩ (fun e' S' => (∃ c4, ERunE cb sz T c1 (K0 code ds waN) ⟨0, gas - intN ds, [], [], W0 code waN⟩ [⟨b4, 25, 51, c4⟩, ⟨b3, 174, 40, vc (txV dv gas)⟩] S') ∧ slots [(0, ptr cb 0), (4, ptr b4 0)] e') ?_ ?_
  · rintro e' S2 hs2 ⟨⟨c4, hE⟩, hsl⟩
    refine SeqS.slots cok _ hsl fun e => ?_
    skip
    refine (hfin _ _ _ f2 f3 f4 ⟨_, _, _, hN⟩ hE).mono ?_
    rintro r3 _ hs3 ⟨l, J2, G2, rfl, hl, ho, rfl, hQ⟩
    repeat (first | (refine OpG.keep ?_; first | refine OpG.upS cok 0 rfl rfl rfl rfl rfl (by assumption) (by first | assumption | exact one_bvs _) (by first | exact Nat.le_of_ble_eq_true rfl | omega) ?_) | (refine LdG.keep ?_; first | refine LdG.upL cok 0 rfl rfl rfl rfl rfl rfl (by assumption) (by first | exact Nat.le_of_ble_eq_true rfl | omega) ?_) | refine SeqS.go cok ?_)
    exact Fin.drop G2 [_, _] ⟨l, rfl, hQ⟩
  · rintro n e' S2 hs2 ⟨⟨c4, hM⟩, hsl⟩
    refine W.slots _ hsl fun e => ?_
    skip
    refine (eRunStep hsz hC hM).mono ?_
    rintro r3 S3 hs3 (⟨rfl, m, hm, hM3⟩ | ⟨rfl, hE3⟩)
    · repeat (first | refine SeqS.go cok ?_ | refine CondS.t rfl ?_)
      exact ⟨m, ⟨⟨c4, hM3⟩, rfl, rfl, trivial⟩, hm⟩
    · repeat (first | refine SeqS.go cok ?_ | refine CondS.f rfl ?_)
      exact ⟨⟨c4, hE3⟩, rfl, rfl, trivial⟩
end Go.Proofs.YgvaewGreat
