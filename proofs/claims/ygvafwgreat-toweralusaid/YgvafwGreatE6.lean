import Derived.Test.YgvafwGreatE2
set_option exponentiation.threshold 1000
set_option maxRecDepth 100000
set_option maxHeartbeats 4000000
set_option linter.unusedVariables false
set_option linter.unusedSimpArgs false
-- v2
-- v4
-- v5
-- v6
-- v7
namespace Go.Proofs.YgvafwGreat
open Go.HL Go.Proofs

/-- mach.Machine.arg -/
theorem mArg {I : Ent → Prop} {G : List Ent} {cb sz pc gas i : Nat} {T : TypeId} {c : Nat → Value} {s : List Nat} (hsz : 2435 ≤ sz) (hsb : c 1808 = .int .u16 ((0 : Nat) : Int)) (hM : MV c pc gas s) (hi : i < 100) :
    CallG Hvaf.prog 274 #[ptr cb 0, ptr cb 1803, .int .i64 (i : Nat)] ⟨I, ⟨cb, sz, T, c⟩ :: G⟩ fun r S' => ⟨I, ⟨cb, sz, T, c⟩ :: G⟩ = S' ∧ r = wordV (argN s i) := by
  have hsp := hM.fsp
  have hl := hM.sl
  unfold argN
  by_cases hlt : i < s.length
  · rw [if_pos hlt]
    have hst := hM.stk (s.length - 1 - i) (by omega)
    have hwl : (wcs (s.getD (s.length - 1 - i) 0)).length = 4 := rfl
    have hwo := wcs_one (s.getD (s.length - 1 - i) 0)
    have hrd : ∀ y : Ent, Rd ⟨I, y :: ⟨cb, sz, T, c⟩ :: G⟩ ⟨cb, sz, T, c⟩ := fun y => .inr (List.mem_cons_of_mem _ List.mem_cons_self)
    rw [← wcs_word]
    generalize wcs (s.getD (s.length - 1 - i) 0) = ws at *
    generalize hn : s.length = n at *
    have hat : addS 11 (mulS (0 + n - 1 - i) 4) = 11 + 4 * (n - 1 - i) := by rw [addS_eq, mulS_eq]; omega
    refine CallG.start (C := mkC Hvaf.prog) cok (args := [ptr cb 0, ptr cb 1803, .int .i64 (i : Nat)]) Hvaf.func274 rfl Hvaf.ntmps274 (by simp) (by kernel_rfl) ?_
    intro rb
    repeat (first | (refine QuG.keep ?_; refine QuG.rowE cok hst (hrd _) rfl rfl rfl rfl hat hwl (by show 11 + 4 * (n - 1 - i) + 4 ≤ sz; omega) ?_) | (refine QuG.keep ?_; first | refine QuG.l1E cok 1 rfl rfl rfl rfl rfl (by first | exact Nat.le_of_ble_eq_true rfl | omega | (dsimp only; omega) | (simp only [addS_eq, mulS_eq]; omega)) (by assumption) ?_) | (refine OpG.keep ?_; first | refine OpG.upS cok 0 rfl rfl rfl rfl rfl (by assumption) (by first | assumption | exact one_bvs _) (by first | exact Nat.le_of_ble_eq_true rfl | omega) ?_) | (refine LdG.keep ?_; first | refine LdG.upL cok 0 rfl rfl rfl rfl rfl rfl (by assumption) (by first | exact Nat.le_of_ble_eq_true rfl | omega) ?_) | refine SeqS.go cok ?_ | refine GuardS.yes rfl ?_ | refine And.intro (by dsimp only; omega) ?_ | (refine NatS.keep ?_; first | with_reducible refine NatS.nat ?_) | (refine ValS.keep ?_; first | (with_reducible refine ValS.kI64 ?_; first | (with_reducible refine ValS.convI64 ?_ ?_ ; omega) | (with_reducible refine ValS.addI64 ?_ ?_ ; omega) | (with_reducible refine ValS.subI64_L ?_ ?_ ?_ ; omega; omega) | (with_reducible refine ValS.subI64 ?_ ?_ ?_ ; omega; omega))) | refine W.drawI 1 cok [0, 1, 3, 7, 15, 0, 32, 96, 224, 480, 1023, 2047, 0, 8191, 16383] [0, 1, 2, 3, 4, 5, 6, 7, 8, 9, 10, 11, 12, 13, 14] [3, 8] (by kernel_rfl) (by kernel_rfl) ?_ | (refine GuardS.keep ?_; first | refine GuardS.F0 rfl (by omega) ?_) | (refine CondS.keep ?_; first | refine CondS.d0 rfl (by omega) ?_))
    exact Fin.drop (⟨cb, sz, T, c⟩ :: G) [_] ⟨rfl, rfl⟩
  · rw [if_neg hlt]
    generalize hn : s.length = n at *
    refine CallG.start (C := mkC Hvaf.prog) cok (args := [ptr cb 0, ptr cb 1803, .int .i64 (i : Nat)]) Hvaf.func274 rfl Hvaf.ntmps274 (by simp) (by kernel_rfl) ?_
    intro rb
    repeat (first | (refine QuG.keep ?_; first | refine QuG.l1E cok 1 rfl rfl rfl rfl rfl (by first | exact Nat.le_of_ble_eq_true rfl | omega | (dsimp only; omega) | (simp only [addS_eq, mulS_eq]; omega)) (by assumption) ?_) | refine SeqS.go cok ?_ | (refine ValS.keep ?_; first | (with_reducible refine ValS.kI64 ?_; first | (with_reducible refine ValS.convI64 ?_ ?_ ; omega) | (with_reducible refine ValS.addI64 ?_ ?_ ; omega))) | refine W.drawI 1 cok [0, 1, 3, 7, 15, 0, 32, 96, 224, 480, 1023, 2047, 0, 8191, 16383] [0, 1, 2, 3, 4, 5, 6, 7, 8, 9, 10, 11, 12, 13, 14] [3, 8] (by kernel_rfl) (by kernel_rfl) ?_)
    refine ValS.any ?_
    skip
    refine ValS.any ?_
    repeat (first | (refine QuG.keep ?_; first | refine QuG.l1E cok 1 rfl rfl rfl rfl rfl (by first | exact Nat.le_of_ble_eq_true rfl | omega | (dsimp only; omega) | (simp only [addS_eq, mulS_eq]; omega)) (by assumption) ?_) | refine SeqS.go cok ?_ | refine GuardS.no rfl ?_ | refine CondS.t rfl ?_ | refine And.intro (fillOk_of (Eq.refl true)) ?_ | (refine ValS.keep ?_; first | (with_reducible refine ValS.kI64 ?_; first | (with_reducible refine ValS.convI64 ?_ ?_ ; omega))) | (refine LdG.keep ?_; first | refine LdG.lN cok 0 rfl rfl rfl rfl rfl (by first | exact Nat.le_of_ble_eq_true rfl | omega | (dsimp only; omega) | (simp only [addS_eq, mulS_eq]; omega)) ?_) | (refine OpG.keep ?_; first | refine OpG.sL cok 0 rfl rfl rfl rfl rfl rfl rfl (by first | exact Nat.le_of_ble_eq_true rfl | omega | (dsimp only; omega) | (simp only [addS_eq, mulS_eq]; omega)) ?_) | (refine GuardS.keep ?_; first | refine GuardS.F1 rfl (by omega) ?_))
    exact Fin.drop (⟨cb, sz, T, c⟩ :: G) [_] ⟨rfl, rfl⟩
/-- mach.Machine.Opcode -/
theorem mOpcode {I : Ent → Prop} {G : List Ent} {cb sz pc gas : Nat} {T : TypeId} {c : Nat → Value} {K : YK} {s : List Nat} (hsz : 2435 ≤ sz) (hK : MK I cb c K) (hM : MV c pc gas s) :
    CallG Hvaf.prog 118 #[ptr cb 0] ⟨I, ⟨cb, sz, T, c⟩ :: G⟩ fun r S' => ⟨I, ⟨cb, sz, T, c⟩ :: G⟩ = S' ∧ r = .int .u8 (K.code.getD pc 0 : Nat) := by
  have hrn := mRunning (I := I) (G := G) (cb := cb) (T := T) hsz hK
  have hpc := hM.fpc
  have hpb := hM.pb
  have hcl := hK.kb.code
  have hcd := hK.fcode
  by_cases hlt : pc < K.code.length
  · rcases hcd.cases with ⟨_, h5⟩ | ⟨x, o, cap, hv, h5, h6, hx, hbs⟩
    · rw [h5] at hlt; simp at hlt
    have hrd : Rd ⟨I, ⟨cb, sz, T, c⟩ :: G⟩ x := by
      rcases hx with h | h
      · exact .inl h
      · simp at h
    generalize K.code = code at *
    refine CallG.start (C := mkC Hvaf.prog) cok (args := [ptr cb 0]) Hvaf.func118 rfl Hvaf.ntmps118 (by simp) (by kernel_rfl) ?_
    repeat (first | refine SeqS.go cok ?_)
    refine CallG.sameL [] hrn ?_
    repeat (first | (refine QuG.keep ?_; first | refine QuG.l1E cok 0 rfl rfl rfl rfl rfl (by first | exact Nat.le_of_ble_eq_true rfl | omega | (dsimp only; omega) | (simp only [addS_eq, mulS_eq]; omega)) (by assumption) ?_) | refine SeqS.go cok ?_ | refine GuardS.yes rfl ?_ | refine And.intro (by omega) ?_ | (refine NatS.keep ?_; first | with_reducible refine NatS.nat ?_) | (refine ValS.keep ?_; first | (with_reducible refine ValS.kI64 ?_; first | (with_reducible refine ValS.convI64 ?_ ?_ ; omega))) | (refine QuG.keep ?_; first | refine QuG.bs cok (by assumption) (by assumption) rfl rfl rfl rfl (by omega) ?_) | refine W.drawI 2 cok [0, 1, 3, 7, 15, 31, 63, 127, 7, 263, 775, 1799, 3847, 8191, 16383] [0, 1, 2, 3, 4, 5, 6, 7, 8, 9, 10, 11, 12, 13, 14] [6, 11] (by kernel_rfl) (by kernel_rfl) ?_ | refine W.drawI 4 cok [0, 1, 3, 7, 0, 16, 48, 112, 255, 511, 1023] [0, 1, 2, 3, 4, 5, 6, 7, 8, 9, 10] [3, 7, 9] (by kernel_rfl) (by kernel_rfl) ?_ | (refine CondS.keep ?_; first | refine CondS.d0 rfl (by omega) ?_))
    exact Fin.same ⟨rfl, rfl⟩
  · obtain ⟨ad, cap, hv⟩ : ∃ ad cap, c 1856 = .slice ad K.code.length cap := by
      rcases hcd.cases with ⟨h1, h2⟩ | ⟨x, o, cap, h1, _⟩
      · exact ⟨none, 0, by rw [h1, h2]; rfl⟩
      · exact ⟨_, cap, h1⟩
    have h0 : K.code.getD pc 0 = 0 := by rw [List.getD_eq_getElem?_getD, List.getElem?_eq_none (by omega)]; rfl
    rw [h0]
    generalize K.code.length = n at *
    refine CallG.start (C := mkC Hvaf.prog) cok (args := [ptr cb 0]) Hvaf.func118 rfl Hvaf.ntmps118 (by simp) (by kernel_rfl) ?_
    repeat (first | refine SeqS.go cok ?_)
    refine CallG.sameL [] hrn ?_
    repeat (first | (refine QuG.keep ?_; first | refine QuG.l1E cok 0 rfl rfl rfl rfl rfl (by first | exact Nat.le_of_ble_eq_true rfl | omega | (dsimp only; omega) | (simp only [addS_eq, mulS_eq]; omega)) (by assumption) ?_) | refine SeqS.go cok ?_ | refine GuardS.yes rfl ?_ | (refine ValS.keep ?_; first | (with_reducible refine ValS.kI64 ?_; first | (with_reducible refine ValS.convI64 ?_ ?_ ; omega))) | refine W.drawI 2 cok [0, 1, 3, 7, 15, 31, 63, 127, 7, 263, 775, 1799, 3847, 8191, 16383] [0, 1, 2, 3, 4, 5, 6, 7, 8, 9, 10, 11, 12, 13, 14] [6, 11] (by kernel_rfl) (by kernel_rfl) ?_ | (refine CondS.keep ?_; first | refine CondS.d1 rfl (by omega) ?_))
    exact Fin.same ⟨rfl, rfl⟩
end Go.Proofs.YgvafwGreat
