import Derived.Test.YgvafwGreatL8
set_option maxRecDepth 100000
set_option maxHeartbeats 4000000
set_option linter.unusedVariables false
set_option linter.unusedSimpArgs false
-- v2
-- v4
-- v5
-- v6
-- v7
-- plus: (refine QuG.keep ?_; fail "none")
namespace Go.Proofs.YgvafwGreat
open Go.HL Go.Proofs

theorem row_sub {c : Nat → Value} {o p : Nat} {vs us : List Value} (h : Row c o vs) (hs : (vs.drop p).take us.length = us) : Row c (o + p) us := by
  refine ⟨fun i hi => ?_⟩
  have hl := congrArg List.length hs
  rw [List.length_take, List.length_drop] at hl
  have := h.get (p + i) (by omega)
  rw [← Nat.add_assoc] at this
  rw [this, ← hs, List.getD_eq_getElem?_getD, List.getD_eq_getElem?_getD, List.getElem?_take, if_pos hi, List.getElem?_drop]
/-- obs.WorldOK at the stage -/
theorem lWorldOK {I : Ent → Prop} {G : List Ent} {v : Value} {n cc : Nat} {ca : Option Addr} (hR : RowI I 55 v [el1 (.slice ca n cc), el2]) (hn : n ≤ 256) :
    CallG Hvaf.prog 40 #[v] ⟨I, G⟩ fun r S' => ⟨I, G⟩ = S' ∧ r = .bool true := by
  obtain ⟨a1, cap, e⟩ := hR.form
  subst e
  obtain ⟨x, o, rfl, hx, hE⟩ := hR.some (by show 0 < 2; decide)
  have hf := hE.fit
  replace hf : o + 2 * 55 ≤ x.sz := hf
  obtain ⟨r0, -, -⟩ := hE.at (i := 0) (show 0 < 2 by decide)
  obtain ⟨r1, -, -⟩ := hE.at (i := 1) (show 1 < 2 by decide)
  have eA : addS o (mulS 0 55) = o + 0 := by rw [addS_eq, mulS_eq]
  have eB : addS o (mulS 1 55) = o + 55 := by rw [addS_eq, mulS_eq]
  replace r0 : Row x.c (addS o (mulS 0 55)) (el1 (.slice ca n cc)) := by rw [eA]; exact r0
  replace r1 : Row x.c (addS o (mulS 1 55)) el2 := by rw [eB]; exact r1
  have s0 : Row x.c (addS o (mulS 0 55) + 21) (bvs z32) := row_sub r0 rfl
  have s1 : Row x.c (addS o (mulS 1 55) + 21) (bvs w15) := row_sub r1 rfl
  have t0 : Row x.c (addS o (mulS 0 55) + 0) (bvs (ad1 1)) := row_sub r0 rfl
  have t1 : Row x.c (addS o (mulS 1 55) + 0) (bvs (ad1 240)) := row_sub r1 rfl
  have hba : ∀ G, Byt ⟨I, G⟩ (HL.sl x.b (addS o (mulS 0 55) + 0) 20 20) (ad1 1) := fun G => ⟨by decide, by decide, _, 20, rfl, by decide, by decide, .inr ⟨x, _, rfl, .inl hx, by show addS o (mulS 0 55) + 0 + 20 ≤ x.sz; omega, fun i hi => by rw [t0.get i hi, bvs_getD _ _ hi]⟩⟩
  have hbb : ∀ G, Byt ⟨I, G⟩ (HL.sl x.b (addS o (mulS 1 55) + 0) 20 20) (ad1 240) := fun G => ⟨by decide, by decide, _, 20, rfl, by decide, by decide, .inr ⟨x, _, rfl, .inl hx, by show addS o (mulS 1 55) + 0 + 20 ≤ x.sz; omega, fun i hi => by rw [t1.get i hi, bvs_getD _ _ hi]⟩⟩
  have h1 := fun (G : List Ent) => lAcctOK1 (G := G) r0 hx (by omega) hn
  have h2 := fun (G : List Ent) => lAcctOK2 (G := G) r1 hx (by omega)
  refine CallG.start (C := mkC Hvaf.prog) cok (args := [HL.sl x.b o 2 cap]) Hvaf.func40 rfl Hvaf.ntmps40 (by simp) (by kernel_rfl) ?_
  repeat (first | refine SeqS.go cok ?_ | refine CondS.f rfl ?_)
  intro b3
  repeat (first | refine SeqS.go cok ?_)
  refine W.rounds cok (by kernel_rfl) 3 ?_
  repeat (first | refine SeqS.go cok ?_ | refine GuardS.no rfl ?_ | refine CondS.t rfl ?_ | refine CondS.f rfl ?_ | refine And.intro (by omega) ?_ | (refine NatS.keep ?_; first | with_reducible refine NatS.lit ?_) | refine W.drawI 7 cok [0, 1, 3, 7, 7, 23, 63, 127, 255, 511, 7, 7, 3079, 7175, 15367, 31751, 65535, 131071] [0, 1, 2, 3, 4, 5, 6, 7, 8, 9, 10, 11, 12, 13, 14, 15, 16, 17] [9, 15] (by kernel_rfl) (by kernel_rfl) ?_)
  refine (h1 _).mono ?_
  rintro r _ - ⟨rfl, rfl⟩
  repeat (first | refine GuardS.yes rfl ?_ | refine And.intro (by omega) ?_ | (refine NatS.keep ?_; first | with_reducible refine NatS.lit ?_))
  refine (lAddTo (a := z32) (b := z32) (T := 33) (sb := b3) ?_ rfl s0 rfl hx (by omega) (by decide)).mono ?_
  · exact Ow.zero 32 (fun i hi => rfl)
  rintro r _ - ⟨rfl, c', rfl, how⟩
  repeat (first | (refine QuG.keep ?_; first | refine QuG.strB cok (hba _) rfl rfl rfl rfl rfl rfl rfl rfl ?_ | refine QuG.strB cok (hbb _) rfl rfl rfl rfl rfl rfl rfl rfl ?_ | refine QuG.strGe rfl rfl (by decide) (by decide) ?_) | refine SeqS.go cok ?_ | refine GuardS.yes rfl ?_ | refine CondS.t rfl ?_ | refine CondS.f rfl ?_ | refine And.intro (Eq.refl true) ?_ | refine And.intro (by omega) ?_ | (refine NatS.keep ?_; first | with_reducible refine NatS.nat ?_) | (refine ValS.keep ?_; first | (with_reducible refine ValS.kI64 ?_; first | (with_reducible refine ValS.subI64_L ?_ ?_ ?_ ; omega; omega) | (with_reducible refine ValS.addI64_LL ?_ ?_ ; omega)) | with_reducible refine ValS.sl0 ?_) | refine W.drawI 7 cok [0, 1, 3, 7, 7, 23, 63, 127, 255, 511, 7, 7, 3079, 7175, 15367, 31751, 65535, 131071] [0, 1, 2, 3, 4, 5, 6, 7, 8, 9, 10, 11, 12, 13, 14, 15, 16, 17] [9, 15] (by kernel_rfl) (by kernel_rfl) ?_)
  refine (h2 _).mono ?_
  rintro r _ - ⟨rfl, rfl⟩
  repeat (first | refine GuardS.yes rfl ?_ | refine And.intro (by omega) ?_ | (refine NatS.keep ?_; first | with_reducible refine NatS.nat ?_))
  refine (lAddTo (a := addW z32 z32 0) (b := w15) (T := 33) (sb := b3) how rfl s1 rfl hx (by omega) (by decide)).mono ?_
  rintro r _ - ⟨rfl, c2, rfl, how2⟩
  repeat (first | refine SeqS.go cok ?_ | refine GuardS.yes rfl ?_ | refine CondS.f rfl ?_ | (refine ValS.keep ?_; first | (with_reducible refine ValS.kI64 ?_; first | (with_reducible refine ValS.addI64_L ?_ ?_ ; omega))))
  exact Fin.drop G [_] ⟨rfl, rfl⟩
/-- law.newsHold -/
theorem lNewsHold {I : Ent → Prop} {G : List Ent} {v : Value} {n cc : Nat} {ca : Option Addr} (hR : RowI I 55 v [el1 (.slice ca n cc), el2]) (hn : n ≤ 256) :
    CallG Hvaf.prog 23 #[v, envV, .bool true, .bool true] ⟨I, G⟩ fun r S' => ⟨I, G⟩ = S' ∧ r = .bool true := by
  have hw := fun (G : List Ent) => lWorldOK (G := G) hR hn
  refine CallG.start (C := mkC Hvaf.prog) cok (args := [v, envV, .bool true, .bool true]) Hvaf.func23 rfl Hvaf.ntmps23 (by simp) (by kernel_rfl) ?_
  intro b5
  repeat (first | refine SeqS.go cok ?_)
  refine (hw _).mono ?_
  rintro r _ - ⟨rfl, rfl⟩
  repeat (first | refine GuardS.yes rfl ?_ | (refine QuG.keep ?_; first | refine QuG.lN cok 0 rfl rfl rfl rfl rfl (by first | exact Nat.le_of_ble_eq_true rfl | omega | (dsimp only; omega) | (simp only [addS_eq, mulS_eq]; omega)) ?_))
  refine lEnvOK.mono ?_
  rintro r _ - ⟨rfl, rfl⟩
  repeat (first | refine SeqS.go cok ?_ | refine GuardS.yes rfl ?_ | (refine QuG.keep ?_; first | refine QuG.eqB cok rfl rfl rfl rfl ?_))
  exact Fin.drop G [_] ⟨rfl, rfl⟩
end Go.Proofs.YgvafwGreat
