import Derived.Test.YgvafwGreatY90
set_option exponentiation.threshold 1000
set_option maxRecDepth 100000
set_option maxHeartbeats 4000000
set_option linter.unusedVariables false
set_option linter.unusedSimpArgs false
-- v2
-- v4
-- v5
-- v6
-- v7
namespace Go.Proofs.YgvafwGreat
open Go.HL Go.Proofs

/-- yp.Chain.Begin, with the first state -/
theorem yBeginI {I : Ent → Prop} {sb gas dc : Nat} {cs : Nat → Value} {da : Option Addr} {ds code : List Nat} (hB : BS I cs code) (hNd : Byt ⟨I, []⟩ (.slice da ds.length dc) ds) (hg : gas ≤ 1048576) (hd : ds.length ≤ 1024) (hi : intN ds ≤ gas) (hcl : code.length ≤ 256) :
    CallG Hvaf.prog 29 #[ptr sb 0, txV (.slice da ds.length dc) gas] ⟨I, [⟨sb, 179, 118, cs⟩]⟩ fun r S' => r = .int .u8 0 ∧ ∃ J fb fsz cf cs', S' = ⟨J, [⟨sb, 179, 118, cs'⟩, ⟨fb, fsz, 156, cf⟩]⟩ ∧ (∃ fc, cs' 9 = HL.sl fb 0 1 fc ∧ FzI fc fsz) ∧ YI J fb cs' cf (K0 code ds waN) ⟨0, gas - intN ds, [], [], W0 code waN⟩ [] [] ∧ BegY J cs' gas :=
  (yBegin0 hB hNd hg hd hi).mono fun r S' hs h => ⟨h.1, begYI hB hs hcl hd h.2⟩
theorem s0_eqY (q : AQ) : (⟨0, 200000 - intN [], [], [], W0 q.code waN⟩ : NS) = q.s0 := rfl
/-- yp.Chain.Apply where the transaction is played; Finish's part is given -/
theorem yApply0 {I : Ent → Prop} {sb : Nat} {cs : Nat → Value} {q : AQ} {Q : List Value → St → Prop} (hq : q.Ok) (hB : BS I cs q.code)
    (hfin : ∀ (J1 : Ent → Prop) (cs1 : Nat → Value) (L : List Ent) (S : St), BegY J1 cs1 200000 → HL.Sub J1 S.I → RunE sb cs1 q L S → CallG Hvaf.prog 31 #[ptr sb 0] S fun r S' => ∃ l J2 G2, r = .agg l.toArray ∧ l.length = 25 ∧ (∀ u ∈ l, one u = true) ∧ S' = ⟨J2, L ++ G2⟩ ∧ Q l ⟨J2, G2⟩) :
    CallG Hvaf.prog 13 #[ptr sb 0, txV (.slice none 0 0) 200000] ⟨I, [⟨sb, 179, 118, cs⟩]⟩ fun r S' => ∃ l, r = .agg l.toArray ∧ Q l S' := by
  have hbg := yBeginI (sb := sb) (ds := []) (gas := 200000) hB (Byt.nil _) (by decide) (by decide) (by decide) (by rw [q.len hq]; decide)
  rw [s0_eqY q] at hbg
  refine CallG.start (C := mkC Hvaf.prog) cok (args := [ptr sb 0, txV (.slice none 0 0) 200000]) Hvaf.func13 rfl Hvaf.ntmps13 (by simp) (by kernel_rfl) ?_
  intro b3 b4
  repeat (first | refine SeqS.go cok ?_ | (refine QuG.keep ?_; first | refine QuG.lN cok 1 rfl rfl rfl rfl rfl (by first | exact Nat.le_of_ble_eq_true rfl | omega | (dsimp only; omega) | (simp only [addS_eq, mulS_eq]; omega)) ?_))
  refine CallG.behind [_, _] hbg ?_
  rintro r J1 _ hs1 ⟨rfl, J1', fb, fsz, cf, cs1, e1, hfz, hY, hBg⟩
  cases e1
  have hfz2 : 60 ≤ fsz := by obtain ⟨_, _, h2⟩ := hfz; exact h2.2
  repeat (first | refine SeqS.go cok ?_ | refine CondS.f rfl ?_)
  refine W.loopE cok (by kernel_rfl) 0 (fun (n : Nat) e' S' => (∃ c4, RunM sb cs1 q [⟨b4, 25, 51, c4⟩, ⟨b3, 174, 40, vc (txV (.slice none 0 0) 200000)⟩] n S') ∧ slots [(0, ptr sb 0), (4, ptr b4 0)] e') (fun n => n) (q.s0.gas + 1)
    ⟨⟨_, .inl ⟨_, fb, fsz, cs1, cf, [], [], _, rfl, rfl, hY, hfz2, .inl hfz, RA.zero hq, fun _ _ _ => rfl, fun _ h => h⟩⟩, rfl, rfl, trivial⟩ (fun e' S' => (∃ c4, RunE sb cs1 q [⟨b4, 25, 51, c4⟩, ⟨b3, 174, 40, vc (txV (.slice none 0 0) 200000)⟩] S') ∧ slots [(0, ptr sb 0), (4, ptr b4 0)] e') ?_ ?_
  · rintro e' S2 hs2 ⟨⟨c4, hE⟩, hsl⟩
    refine SeqS.slots cok _ hsl fun e => ?_
    skip
    refine (hfin _ _ _ _ hBg hs2 hE).mono ?_
    rintro r3 _ hs3 ⟨l, J2, G2, rfl, hl, ho, rfl, hQ⟩
    repeat (first | (refine OpG.keep ?_; first | refine OpG.upS cok 0 rfl rfl rfl rfl rfl (by assumption) (by first | assumption | exact one_bvs _) (by first | exact Nat.le_of_ble_eq_true rfl | omega) ?_) | (refine LdG.keep ?_; first | refine LdG.upL cok 0 rfl rfl rfl rfl rfl rfl (by assumption) (by first | exact Nat.le_of_ble_eq_true rfl | omega) ?_) | refine SeqS.go cok ?_)
    exact Fin.drop G2 [_, _] ⟨l, rfl, hQ⟩
  · rintro n e' S2 hs2 ⟨⟨c4, hM⟩, hsl⟩
    refine W.slots _ hsl fun e => ?_
    skip
    refine (yRunStep hq hM).mono ?_
    rintro r3 S3 hs3 (⟨rfl, m, hm, hM3⟩ | ⟨rfl, hE3⟩)
    · repeat (first | refine SeqS.go cok ?_ | refine CondS.t rfl ?_)
      exact ⟨m, ⟨⟨c4, hM3⟩, rfl, rfl, trivial⟩, hm⟩
    · repeat (first | refine SeqS.go cok ?_ | refine CondS.f rfl ?_)
      exact ⟨⟨c4, hE3⟩, rfl, rfl, trivial⟩
end Go.Proofs.YgvafwGreat
