import Derived.Test.YgvafwGreatE87
import Derived.Test.YgvafwGreatE46
import Derived.Test.YgvafwGreatE43b
import Derived.Test.YgvafwGreatE66
set_option exponentiation.threshold 1000
set_option maxRecDepth 100000
set_option maxHeartbeats 4000000
set_option linter.unusedVariables false
set_option linter.unusedSimpArgs false
-- v2
-- v4
-- v5
-- v6
-- v7
namespace Go.Proofs.YgvafwGreat
open Go.HL Go.Proofs

/-- A child's cells, as its one step reads them. -/
structure Ch1 (I : Ent → Prop) (cb : Nat) (c : Nat → Value) (g1 n : Nat) : Prop where
  top : c 2258 = .int .i8 1
  ph : c 2404 = .int .u8 1
  s0 : c 0 = ptr cb 2435
  fk : c 1868 = .int .u8 5
  fn : c 1870 = .int .u8 0
  fst : c 1871 = .bool false
  fpc : c 1872 = .int .u16 0
  fsp : c 1874 = .int .u16 0
  fgas : c 1875 = .int .u64 (g1 : Nat)
  fself : Row c 1877 (bvs crAd)
  code : Byt ⟨I, []⟩ (c 1921) (List.replicate n 0)
  gb : g1 < 2 ^ 40
theorem ChC.ch1 {I : Ent → Prop} {cb : Nat} {c c' : Nat → Value} {pc g0 g1 n : Nat} (h : ChC I cb c c' pc g0 g1 n) (hg : g1 < 2 ^ 40) : Ch1 I cb c' g1 n := by
  obtain ⟨cv, ds, hr, hd, hB⟩ := h.fr
  have hl : (fmC g1 1 64 1 cv ds).length = 65 := by
    unfold fmC
    simp only [List.length_append, List.length_cons, List.length_nil, bvs_len', ivs_length, hd]; rfl
  have g := fun (i : Nat) (u : Value) (hi : i < 65) (hu : (fmC g1 1 64 1 cv ds).getD i undef = u) => row_at hr i (u := u) (by rw [hl]; exact hi) hu
  refine ⟨h.top, h.ph, h.s0, g 0 _ (by decide) rfl, g 2 _ (by decide) rfl, g 3 _ (by decide) rfl, g 4 _ (by decide) rfl, g 6 _ (by decide) rfl, g 7 _ (by decide) rfl, row_sub (p := 9) (us := bvs crAd) hr rfl, ?_, hg⟩
  have e : c' 1921 = cv := g 53 cv (by decide) rfl
  rw [e]; exact hB
section
variable {I : Ent → Prop} {G : List Ent} {cb sz g1 n : Nat} {T : TypeId} {c : Nat → Value}
/-- mach.Machine.RunNative, a child -/
theorem cNat (hsz : 2435 ≤ sz) (h : Ch1 I cb c g1 n) :
    CallG Hvaf.prog 117 #[ptr cb 0] ⟨I, ⟨cb, sz, T, c⟩ :: G⟩ fun r S' => ⟨I, ⟨cb, sz, T, c⟩ :: G⟩ = S' ∧ r = .bool false := by
  have hrn := mRunning1 (I := I) (G := G) (cb := cb) (T := T) hsz h.ph h.s0 h.top
  have hfn := h.fn
  refine CallG.start (C := mkC Hvaf.prog) cok (args := [ptr cb 0]) Hvaf.func117 rfl Hvaf.ntmps117 (by simp) (by kernel_rfl) ?_
  repeat (first | refine SeqS.go cok ?_)
  refine CallG.sameL [] hrn ?_
  repeat (first | (refine QuG.keep ?_; first | refine QuG.l1E cok 0 rfl rfl rfl rfl rfl (by first | exact Nat.le_of_ble_eq_true rfl | omega | (dsimp only; omega) | (simp only [addS_eq, mulS_eq]; omega)) (by assumption) ?_) | refine SeqS.go cok ?_ | refine GuardS.yes rfl ?_ | refine CondS.t rfl ?_)
  exact Fin.same ⟨rfl, rfl⟩
/-- mach.Machine.Opcode, a child -/
theorem cOpcode (hsz : 2435 ≤ sz) (h : Ch1 I cb c g1 n) :
    CallG Hvaf.prog 118 #[ptr cb 0] ⟨I, ⟨cb, sz, T, c⟩ :: G⟩ fun r S' => ⟨I, ⟨cb, sz, T, c⟩ :: G⟩ = S' ∧ r = .int .u8 ((0 : Nat) : Int) := by
  have hrn := mRunning1 (I := I) (G := G) (cb := cb) (T := T) hsz h.ph h.s0 h.top
  have hpc := h.fpc
  have hcd := h.code
  by_cases hlt : 0 < (List.replicate n 0).length
  · rcases hcd.cases with ⟨_, h5⟩ | ⟨x, o, cap, hv, h5, h6, hx, hbs⟩
    · rw [h5] at hlt; simp at hlt
    have hrd : Rd ⟨I, ⟨cb, sz, T, c⟩ :: G⟩ x := by
      rcases hx with h | h
      · exact .inl h
      · simp at h
    have h0 : (List.replicate n 0).getD 0 0 = 0 := by
      rw [List.getD_eq_getElem?_getD, List.getElem?_replicate]; split <;> rfl
    have hpc' : c 1872 = .int .u16 ((0 : Nat) : Int) := hpc
    suffices hkey : CallG Hvaf.prog 118 #[ptr cb 0] ⟨I, ⟨cb, sz, T, c⟩ :: G⟩ fun r S' => ⟨I, ⟨cb, sz, T, c⟩ :: G⟩ = S' ∧ r = .int .u8 ((List.replicate n 0).getD 0 0 : Nat) by rw [h0] at hkey; exact hkey
    clear h0
    generalize List.replicate n 0 = code at *
    refine CallG.start (C := mkC Hvaf.prog) cok (args := [ptr cb 0]) Hvaf.func118 rfl Hvaf.ntmps118 (by simp) (by kernel_rfl) ?_
    repeat (first | refine SeqS.go cok ?_)
    refine CallG.sameL [] hrn ?_
    repeat (first | (refine QuG.keep ?_; first | refine QuG.l1E cok 0 rfl rfl rfl rfl rfl (by first | exact Nat.le_of_ble_eq_true rfl | omega | (dsimp only; omega) | (simp only [addS_eq, mulS_eq]; omega)) (by assumption) ?_) | refine SeqS.go cok ?_ | refine GuardS.yes rfl ?_ | refine And.intro (by omega) ?_ | (refine NatS.keep ?_; first | with_reducible refine NatS.nat ?_) | (refine ValS.keep ?_; first | (with_reducible refine ValS.kI64 ?_; first | (with_reducible refine ValS.convI64 ?_ ?_ ; omega))) | (refine QuG.keep ?_; first | refine QuG.bs cok (by assumption) (by assumption) rfl rfl rfl rfl (by omega) ?_) | refine W.drawI 2 cok [0, 1, 3, 7, 15, 31, 63, 127, 7, 263, 775, 1799, 3847, 8191, 16383] [0, 1, 2, 3, 4, 5, 6, 7, 8, 9, 10, 11, 12, 13, 14] [6, 11] (by kernel_rfl) (by kernel_rfl) ?_ | refine W.drawI 4 cok [0, 1, 3, 7, 0, 16, 48, 112, 255, 511, 1023] [0, 1, 2, 3, 4, 5, 6, 7, 8, 9, 10] [3, 7, 9] (by kernel_rfl) (by kernel_rfl) ?_ | (refine CondS.keep ?_; first | refine CondS.d0 rfl (by omega) ?_))
    exact Fin.same ⟨rfl, rfl⟩
  · obtain ⟨ad, cap, hv⟩ : ∃ ad cap, c 1921 = .slice ad 0 cap := by
      have hz : List.replicate n 0 = [] := List.eq_nil_of_length_eq_zero (by omega)
      rw [hz] at hcd
      rcases hcd.cases with ⟨h1, h2⟩ | ⟨x, o, cap, h1, _⟩
      · exact ⟨none, 0, h1⟩
      · exact ⟨_, cap, h1⟩
    refine CallG.start (C := mkC Hvaf.prog) cok (args := [ptr cb 0]) Hvaf.func118 rfl Hvaf.ntmps118 (by simp) (by kernel_rfl) ?_
    repeat (first | refine SeqS.go cok ?_)
    refine CallG.sameL [] hrn ?_
    repeat (first | (refine QuG.keep ?_; first | refine QuG.l1E cok 0 rfl rfl rfl rfl rfl (by first | exact Nat.le_of_ble_eq_true rfl | omega | (dsimp only; omega) | (simp only [addS_eq, mulS_eq]; omega)) (by assumption) ?_) | refine SeqS.go cok ?_ | refine GuardS.yes rfl ?_ | refine CondS.t rfl ?_ | (refine ValS.keep ?_; first | (with_reducible refine ValS.kI64 ?_; first | (with_reducible refine ValS.convI64_LL ?_ ?_ ; omega))) | refine W.drawI 2 cok [0, 1, 3, 7, 15, 31, 63, 127, 7, 263, 775, 1799, 3847, 8191, 16383] [0, 1, 2, 3, 4, 5, 6, 7, 8, 9, 10, 11, 12, 13, 14] [6, 11] (by kernel_rfl) (by kernel_rfl) ?_)
    exact Fin.same ⟨rfl, rfl⟩
/-- mach.Machine.Pass, a child's STOP -/
theorem cPass (hsz : 2435 ≤ sz) (h : Ch1 I cb c g1 n) :
    CallG Hvaf.prog 198 #[ptr cb 0, .int .u8 ((0 : Nat) : Int), .int .u16 ((0 : Nat) : Int)] ⟨I, ⟨cb, sz, T, c⟩ :: G⟩ fun r S' => ⟨I, ⟨cb, sz, T, c⟩ :: G⟩ = S' ∧ r = .bool true := by
  have hrn := mRunning1 (I := I) (G := G) (cb := cb) (T := T) hsz h.ph h.s0 h.top
  have hst := h.fst
  have hgs := h.fgas
  have hgb := h.gb
  have hfl := fun S => Flat_spec (S := S) (o := 0) (by decide)
  rw [show flatB 0 = true by decide] at hfl
  have hsame : upd c 1875 (.int .u64 ((g1 - 0 : Nat) : Int)) = c := upd_same h.fgas
  refine CallG.start (C := mkC Hvaf.prog) cok (args := [ptr cb 0, .int .u8 ((0 : Nat) : Int), .int .u16 ((0 : Nat) : Int)]) Hvaf.func198 rfl Hvaf.ntmps198 (by simp) (by kernel_rfl) ?_
  repeat (first | refine SeqS.go cok ?_)
  refine CallG.sameL [] hrn ?_
  repeat (first | (refine QuG.keep ?_; first | refine QuG.l1E cok 0 rfl rfl rfl rfl rfl (by first | exact Nat.le_of_ble_eq_true rfl | omega | (dsimp only; omega) | (simp only [addS_eq, mulS_eq]; omega)) (by assumption) ?_) | refine SeqS.go cok ?_ | refine GuardS.yes rfl ?_ | refine GuardS.no rfl ?_ | refine CondS.f rfl ?_)
  refine (hfl _).mono ?_
  rintro r _ - ⟨rfl, rfl⟩
  repeat (first | (refine QuG.keep ?_; first | refine QuG.l1E cok 0 rfl rfl rfl rfl rfl (by first | exact Nat.le_of_ble_eq_true rfl | omega | (dsimp only; omega) | (simp only [addS_eq, mulS_eq]; omega)) (by assumption) ?_) | refine SeqS.go cok ?_ | refine CondS.t rfl ?_ | refine CondS.f rfl ?_ | (refine ValS.keep ?_; first | (with_reducible refine ValS.kU64 ?_; first | (with_reducible refine ValS.convU64 ?_ ?_ ; omega) | (with_reducible refine ValS.subU64 ?_ ?_ ?_ ; omega; omega))) | (refine OpG.keep ?_; first | refine OpG.s1 cok 0 rfl rfl rfl rfl rfl (by first | exact Nat.le_of_ble_eq_true rfl | omega | (dsimp only; omega) | (simp only [addS_eq, mulS_eq]; omega)) rfl rfl ?_))
  exact Fin.same ⟨congrArg (fun x => (⟨I, ⟨cb, sz, T, x⟩ :: G⟩ : St)) hsame.symm, rfl⟩
/-- mach.Machine.Admit, a child's STOP -/
theorem cAdmit (hsz : 2435 ≤ sz) (h : Ch1 I cb c g1 n) :
    CallG Hvaf.prog 120 #[ptr cb 0, .int .u8 ((0 : Nat) : Int), .int .u8 ((0 : Nat) : Int), .int .u8 ((0 : Nat) : Int), .int .u16 ((0 : Nat) : Int), .bool true] ⟨I, ⟨cb, sz, T, c⟩ :: G⟩ fun r S' => ⟨I, ⟨cb, sz, T, c⟩ :: G⟩ = S' ∧ r = .bool true := by
  have hrn := mRunning1 (I := I) (G := G) (cb := cb) (T := T) hsz h.ph h.s0 h.top
  have hsp := h.fsp
  have hps := cPass (G := G) (T := T) hsz h
  refine CallG.start (C := mkC Hvaf.prog) cok (args := [ptr cb 0, .int .u8 ((0 : Nat) : Int), .int .u8 ((0 : Nat) : Int), .int .u8 ((0 : Nat) : Int), .int .u16 ((0 : Nat) : Int), .bool true]) Hvaf.func120 rfl Hvaf.ntmps120 (by simp) (by kernel_rfl) ?_
  repeat (first | refine SeqS.go cok ?_)
  refine CallG.sameL [] hrn ?_
  repeat (first | (refine QuG.keep ?_; first | refine QuG.l1E cok 0 rfl rfl rfl rfl rfl (by first | exact Nat.le_of_ble_eq_true rfl | omega | (dsimp only; omega) | (simp only [addS_eq, mulS_eq]; omega)) (by assumption) ?_) | refine SeqS.go cok ?_ | refine CondS.f rfl ?_ | (refine ValS.keep ?_; first | (with_reducible refine ValS.kU16 ?_; first | (with_reducible refine ValS.convU16 ?_ ?_ ; omega) | (with_reducible refine ValS.addU16 ?_ ?_ ; omega) | (with_reducible refine ValS.subU16_M ?_ ?_ ?_ ; omega; omega))))
  refine CallG.sameL [] hps ?_
  repeat (first | refine SeqS.go cok ?_)
  exact Fin.same ⟨rfl, rfl⟩
/-- mach.deposit of nothing -/
theorem cDeposit {S : St} (hg : g1 < 2 ^ 40) : CallG Hvaf.prog 264 #[.int .u64 (g1 : Nat), .slice none 0 0] S fun r S' => S = S' ∧ r = .tuple #[.int .u64 ((g1 - 0 : Nat) : Int), .int .u8 0] := by
  refine CallG.start (C := mkC Hvaf.prog) cok (args := [.int .u64 (g1 : Nat), .slice none 0 0]) Hvaf.func264 rfl Hvaf.ntmps264 (by simp) (by kernel_rfl) ?_
  repeat (first | refine SeqS.go cok ?_ | refine GuardS.no rfl ?_ | refine CondS.f rfl ?_ | (refine ValS.keep ?_; first | (with_reducible refine ValS.kU64 ?_; first | (with_reducible refine ValS.convU64 ?_ ?_ ; omega) | (with_reducible refine ValS.subU64 ?_ ?_ ?_ ; omega; omega) | (with_reducible refine ValS.mulU64_M ?_ ?_ ; omega))))
  exact Fin.same ⟨rfl, rfl⟩
end
end Go.Proofs.YgvafwGreat
