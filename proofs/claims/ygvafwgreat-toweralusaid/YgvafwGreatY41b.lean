import Derived.Test.YgvafwGreatY41
set_option exponentiation.threshold 1000
set_option maxRecDepth 100000
set_option maxHeartbeats 4000000
set_option linter.unusedVariables false
set_option linter.unusedSimpArgs false
-- v2
-- v4
-- v5
-- v6
-- v7
namespace Go.Proofs.YgvafwGreat
open Go.HL Go.Proofs

theorem yLeaveS2 {I : Ent → Prop} {G : List Ent} {sb ssz fb fsz st : Nat} {Ts Tf : TypeId} {cs cf : Nat → Value} {ov : Value} {fc : Nat} (hsz : 17 ≤ ssz) (hfz : 60 ≤ fsz) (hk : cf 0 = .int .u8 0) (hF : cs 9 = sl fb 0 1 fc) (hone : one ov = true) (h1 : ∀ k, k < 60 → one (cf k) = true)  :
    CallG Hvaf.prog 69 #[ptr sb 0, .int .u8 (0 : Nat), ov] ⟨I, ⟨sb, ssz, Ts, cs⟩ :: ⟨fb, fsz, Tf, cf⟩ :: G⟩ fun r S' => ∃ cs', S' = ⟨I, ⟨sb, ssz, Ts, cs'⟩ :: ⟨fb, fsz, Tf, cf⟩ :: G⟩ ∧ LvP cs cs' (cs) (ov) (cf 4) 0 := by
  have hcr := fun (S : St) => yCreates0 (S := S)
  have h4 : one (cf 4) = true := h1 4 (by decide)
  refine CallG.start (C := mkC Hvaf.prog) cok (args := [ptr sb 0, .int .u8 (0 : Nat), ov]) Hvaf.func69 rfl Hvaf.ntmps69 (by simp) (by kernel_rfl) ?_
  repeat (first | (refine QuG.keep ?_; first | refine QuG.l1E cok 0 rfl rfl rfl rfl rfl (by first | exact Nat.le_of_ble_eq_true rfl | omega | (dsimp only; omega) | (simp only [addS_eq, mulS_eq]; omega)) (by assumption) ?_) | refine And.intro (by omega) ?_ | (refine NatS.keep ?_; first | with_reducible refine NatS.nat ?_) | (refine ValS.keep ?_; first | (with_reducible refine ValS.kI64 ?_; first | (with_reducible refine ValS.subI64_L ?_ ?_ ?_ ; omega; omega))) | (refine QuG.keep ?_; first | refine QuG.lN cok 1 rfl rfl rfl rfl rfl (by first | exact Nat.le_of_ble_eq_true rfl | omega | (dsimp only; omega) | (simp only [addS_eq, mulS_eq]; omega)) ?_) | refine W.drawI 0 cok [0, 1, 3, 7, 0, 16, 48, 112, 240, 496, 1023, 2047, 0, 8191] [0, 1, 2, 3, 4, 5, 6, 7, 8, 9, 10, 11, 12, 13] [3, 7, 11] (by kernel_rfl) (by kernel_rfl) ?_)
  intro b1
  refine OpG.keep ?_
  refine OpG.sL cok 0 rfl rfl rfl rfl rfl rfl (cells_one (n := 60) (o := 0) fun k _ hk => h1 k (by omega)) (by decide) ?_
  repeat (first | (refine QuG.keep ?_; first | refine QuG.l1E cok 0 rfl rfl rfl rfl rfl (by first | exact Nat.le_of_ble_eq_true rfl | omega | (dsimp only; omega) | (simp only [addS_eq, mulS_eq]; omega)) (by assumption) ?_) | refine SeqS.go cok ?_ | (refine QuG.keep ?_; first | refine QuG.l1 cok 0 rfl rfl rfl rfl rfl (by first | exact Nat.le_of_ble_eq_true rfl | omega | (dsimp only; omega) | (simp only [addS_eq, mulS_eq]; omega)) ?_) | (refine still_in ?_; first | refine still_drop (by decide) ?_))
  refine (hcr _).mono ?_
  rintro r _ - ⟨rfl, rfl⟩
  repeat (first | (refine QuG.keep ?_; first | refine QuG.l1E cok 1 rfl rfl rfl rfl rfl (by first | exact Nat.le_of_ble_eq_true rfl | omega | (dsimp only; omega) | (simp only [addS_eq, mulS_eq]; omega)) (by assumption) ?_) | (refine OpG.keep ?_; first | refine OpG.s1 cok 1 rfl rfl rfl rfl rfl (by first | exact Nat.le_of_ble_eq_true rfl | omega | (dsimp only; omega) | (simp only [addS_eq, mulS_eq]; omega)) rfl (by assumption) ?_) | refine SeqS.go cok ?_ | refine GuardS.no rfl ?_ | refine CondS.t rfl ?_ | refine CondS.f rfl ?_ | refine And.intro (Eq.refl true) ?_ | refine And.intro (by omega) ?_ | (refine NatS.keep ?_; first | with_reducible refine NatS.nat ?_) | (refine ValS.keep ?_; first | (with_reducible refine ValS.kI64 ?_; first | (with_reducible refine ValS.subI64_L ?_ ?_ ?_ ; omega; omega)) | with_reducible refine ValS.sl0 ?_) | (refine QuG.keep ?_; first | refine QuG.l1 cok 1 rfl rfl rfl rfl rfl (by first | exact Nat.le_of_ble_eq_true rfl | omega | (dsimp only; omega) | (simp only [addS_eq, mulS_eq]; omega)) ?_) | (refine still_in ?_; first | refine still_drop (by decide) ?_) | (refine OpG.keep ?_; first | refine OpG.s1 cok 1 rfl rfl rfl rfl rfl (by first | exact Nat.le_of_ble_eq_true rfl | omega | (dsimp only; omega) | (simp only [addS_eq, mulS_eq]; omega)) rfl rfl ?_) | refine W.drawI 17 cok [0, 0, 2, 6, 14, 0, 32, 96, 224, 480, 992, 0, 2048, 6144, 14336, 30720, 63488, 131070, 262143, 524287, 1048575] [0, 1, 2, 3, 4, 5, 6, 7, 8, 9, 10, 11, 12, 13, 14, 15, 16, 17, 18, 19, 20] [4, 8, 14] (by kernel_rfl) (by kernel_rfl) ?_)

  refine Fin.drop (⟨sb, ssz, Ts, _⟩ :: ⟨fb, fsz, Tf, cf⟩ :: G) [_] ⟨_, rfl, ?_⟩
  refine ⟨rfl, rfl, rfl, rfl, rfl, ?_, rfl, ?_⟩
  · intro k hk8
    have h8 : k = 0 ∨ k = 1 ∨ k = 2 ∨ k = 3 ∨ k = 4 ∨ k = 5 ∨ k = 6 ∨ k = 7 := by omega
    rcases h8 with rfl | rfl | rfl | rfl | rfl | rfl | rfl | rfl <;> rfl
  · intro k hk12 hk16
    exact ((((((upd_ne (by omega)).trans (upd_ne (by omega))).trans (upd_ne (by omega))).trans (upd_ne (by omega))).trans (upd_ne (by omega))).trans (upd_ne (by omega)))
theorem yLeaveR2 {I : Ent → Prop} {G : List Ent} {sb ssz fb fsz st : Nat} {Ts Tf : TypeId} {cs cf : Nat → Value} {ov : Value} {fc : Nat} (hsz : 17 ≤ ssz) (hfz : 60 ≤ fsz) (hk : cf 0 = .int .u8 0) (hF : cs 9 = sl fb 0 1 fc) (hone : one ov = true) (h1 : ∀ k, k < 60 → one (cf k) = true)  :
    CallG Hvaf.prog 69 #[ptr sb 0, .int .u8 (1 : Nat), ov] ⟨I, ⟨sb, ssz, Ts, cs⟩ :: ⟨fb, fsz, Tf, cf⟩ :: G⟩ fun r S' => ∃ cs', S' = ⟨I, ⟨sb, ssz, Ts, cs'⟩ :: ⟨fb, fsz, Tf, cf⟩ :: G⟩ ∧ LvP cs cs' (fun k => cf (52 + k)) (ov) (cf 4) 1 := by
  have hcr := fun (S : St) => yCreates0 (S := S)
  have h4 : one (cf 4) = true := h1 4 (by decide)
  refine CallG.start (C := mkC Hvaf.prog) cok (args := [ptr sb 0, .int .u8 (1 : Nat), ov]) Hvaf.func69 rfl Hvaf.ntmps69 (by simp) (by kernel_rfl) ?_
  repeat (first | (refine QuG.keep ?_; first | refine QuG.l1E cok 0 rfl rfl rfl rfl rfl (by first | exact Nat.le_of_ble_eq_true rfl | omega | (dsimp only; omega) | (simp only [addS_eq, mulS_eq]; omega)) (by assumption) ?_) | refine And.intro (by omega) ?_ | (refine NatS.keep ?_; first | with_reducible refine NatS.nat ?_) | (refine ValS.keep ?_; first | (with_reducible refine ValS.kI64 ?_; first | (with_reducible refine ValS.subI64_L ?_ ?_ ?_ ; omega; omega))) | (refine QuG.keep ?_; first | refine QuG.lN cok 1 rfl rfl rfl rfl rfl (by first | exact Nat.le_of_ble_eq_true rfl | omega | (dsimp only; omega) | (simp only [addS_eq, mulS_eq]; omega)) ?_) | refine W.drawI 0 cok [0, 1, 3, 7, 0, 16, 48, 112, 240, 496, 1023, 2047, 0, 8191] [0, 1, 2, 3, 4, 5, 6, 7, 8, 9, 10, 11, 12, 13] [3, 7, 11] (by kernel_rfl) (by kernel_rfl) ?_)
  intro b1
  refine OpG.keep ?_
  refine OpG.sL cok 0 rfl rfl rfl rfl rfl rfl (cells_one (n := 60) (o := 0) fun k _ hk => h1 k (by omega)) (by decide) ?_
  repeat (first | (refine QuG.keep ?_; first | refine QuG.l1E cok 0 rfl rfl rfl rfl rfl (by first | exact Nat.le_of_ble_eq_true rfl | omega | (dsimp only; omega) | (simp only [addS_eq, mulS_eq]; omega)) (by assumption) ?_) | refine SeqS.go cok ?_ | (refine QuG.keep ?_; first | refine QuG.l1 cok 0 rfl rfl rfl rfl rfl (by first | exact Nat.le_of_ble_eq_true rfl | omega | (dsimp only; omega) | (simp only [addS_eq, mulS_eq]; omega)) ?_) | (refine still_in ?_; first | refine still_drop (by decide) ?_))
  refine (hcr _).mono ?_
  rintro r _ - ⟨rfl, rfl⟩
  repeat (first | refine SeqS.go cok ?_ | refine GuardS.no rfl ?_ | refine CondS.t rfl ?_ | refine CondS.f rfl ?_ | (refine QuG.keep ?_; first | refine QuG.lN cok 0 rfl rfl rfl rfl rfl (by first | exact Nat.le_of_ble_eq_true rfl | omega | (dsimp only; omega) | (simp only [addS_eq, mulS_eq]; omega)) ?_))
  refine OpG.keep ?_
  refine OpG.sL cok 1 rfl rfl rfl rfl rfl rfl (cells_copy h1 (o := 52) (n := 8) (by decide)) (by show 0 + 8 ≤ ssz; omega) ?_
  repeat (first | (refine QuG.keep ?_; first | refine QuG.l1E cok 1 rfl rfl rfl rfl rfl (by first | exact Nat.le_of_ble_eq_true rfl | omega | (dsimp only; omega) | (simp only [addS_eq, mulS_eq]; omega)) (by assumption) ?_) | (refine OpG.keep ?_; first | refine OpG.s1 cok 1 rfl rfl rfl rfl rfl (by first | exact Nat.le_of_ble_eq_true rfl | omega | (dsimp only; omega) | (simp only [addS_eq, mulS_eq]; omega)) rfl (by assumption) ?_) | refine SeqS.go cok ?_ | refine CondS.t rfl ?_ | refine CondS.f rfl ?_ | refine And.intro (Eq.refl true) ?_ | refine And.intro (by omega) ?_ | (refine NatS.keep ?_; first | with_reducible refine NatS.nat ?_) | (refine ValS.keep ?_; first | (with_reducible refine ValS.kI64 ?_; first | (with_reducible refine ValS.subI64_L ?_ ?_ ?_ ; omega; omega)) | with_reducible refine ValS.sl0 ?_) | (refine QuG.keep ?_; first | refine QuG.l1 cok 1 rfl rfl rfl rfl rfl (by first | exact Nat.le_of_ble_eq_true rfl | omega | (dsimp only; omega) | (simp only [addS_eq, mulS_eq]; omega)) ?_) | (refine still_in ?_; first | refine still_drop (by decide) ?_) | (refine OpG.keep ?_; first | refine OpG.s1 cok 1 rfl rfl rfl rfl rfl (by first | exact Nat.le_of_ble_eq_true rfl | omega | (dsimp only; omega) | (simp only [addS_eq, mulS_eq]; omega)) rfl rfl ?_) | refine W.drawI 17 cok [0, 0, 2, 6, 14, 0, 32, 96, 224, 480, 992, 0, 2048, 6144, 14336, 30720, 63488, 131070, 262143, 524287, 1048575] [0, 1, 2, 3, 4, 5, 6, 7, 8, 9, 10, 11, 12, 13, 14, 15, 16, 17, 18, 19, 20] [4, 8, 14] (by kernel_rfl) (by kernel_rfl) ?_)
  refine Fin.drop (⟨sb, ssz, Ts, _⟩ :: ⟨fb, fsz, Tf, cf⟩ :: G) [_] ⟨_, rfl, ?_⟩
  refine ⟨rfl, rfl, rfl, rfl, rfl, ?_, rfl, ?_⟩
  · intro k hk8
    have h8 : k = 0 ∨ k = 1 ∨ k = 2 ∨ k = 3 ∨ k = 4 ∨ k = 5 ∨ k = 6 ∨ k = 7 := by omega
    rcases h8 with rfl | rfl | rfl | rfl | rfl | rfl | rfl | rfl <;> rfl
  · intro k hk12 hk16
    exact ((((((upd_ne (by omega)).trans (upd_ne (by omega))).trans (upd_ne (by omega))).trans (upd_ne (by omega))).trans (upd_ne (by omega))).trans (upd_ne (by omega))).trans (updN_ge (by show 0 + 8 ≤ k; omega))
theorem yLeaveF2 {I : Ent → Prop} {G : List Ent} {sb ssz fb fsz st : Nat} {Ts Tf : TypeId} {cs cf : Nat → Value} {ov : Value} {fc : Nat} (hsz : 17 ≤ ssz) (hfz : 60 ≤ fsz) (hk : cf 0 = .int .u8 0) (hF : cs 9 = sl fb 0 1 fc) (hone : one ov = true) (h1 : ∀ k, k < 60 → one (cf k) = true) (hst : 2 ≤ st) (hst2 : st < 256) :
    CallG Hvaf.prog 69 #[ptr sb 0, .int .u8 (st : Nat), ov] ⟨I, ⟨sb, ssz, Ts, cs⟩ :: ⟨fb, fsz, Tf, cf⟩ :: G⟩ fun r S' => ∃ cs', S' = ⟨I, ⟨sb, ssz, Ts, cs'⟩ :: ⟨fb, fsz, Tf, cf⟩ :: G⟩ ∧ LvP cs cs' (fun k => cf (52 + k)) (.slice none 0 0) (.slice none 0 0) st := by
  have hcr := fun (S : St) => yCreates0 (S := S)
  have h4 : one (cf 4) = true := h1 4 (by decide)
  refine CallG.start (C := mkC Hvaf.prog) cok (args := [ptr sb 0, .int .u8 (st : Nat), ov]) Hvaf.func69 rfl Hvaf.ntmps69 (by simp) (by kernel_rfl) ?_
  repeat (first | (refine QuG.keep ?_; first | refine QuG.l1E cok 0 rfl rfl rfl rfl rfl (by first | exact Nat.le_of_ble_eq_true rfl | omega | (dsimp only; omega) | (simp only [addS_eq, mulS_eq]; omega)) (by assumption) ?_) | refine And.intro (by omega) ?_ | (refine NatS.keep ?_; first | with_reducible refine NatS.nat ?_) | (refine ValS.keep ?_; first | (with_reducible refine ValS.kI64 ?_; first | (with_reducible refine ValS.subI64_L ?_ ?_ ?_ ; omega; omega))) | (refine QuG.keep ?_; first | refine QuG.lN cok 1 rfl rfl rfl rfl rfl (by first | exact Nat.le_of_ble_eq_true rfl | omega | (dsimp only; omega) | (simp only [addS_eq, mulS_eq]; omega)) ?_) | refine W.drawI 0 cok [0, 1, 3, 7, 0, 16, 48, 112, 240, 496, 1023, 2047, 0, 8191] [0, 1, 2, 3, 4, 5, 6, 7, 8, 9, 10, 11, 12, 13] [3, 7, 11] (by kernel_rfl) (by kernel_rfl) ?_)
  intro b1
  refine OpG.keep ?_
  refine OpG.sL cok 0 rfl rfl rfl rfl rfl rfl (cells_one (n := 60) (o := 0) fun k _ hk => h1 k (by omega)) (by decide) ?_
  repeat (first | (refine QuG.keep ?_; first | refine QuG.l1E cok 0 rfl rfl rfl rfl rfl (by first | exact Nat.le_of_ble_eq_true rfl | omega | (dsimp only; omega) | (simp only [addS_eq, mulS_eq]; omega)) (by assumption) ?_) | refine SeqS.go cok ?_ | (refine QuG.keep ?_; first | refine QuG.l1 cok 0 rfl rfl rfl rfl rfl (by first | exact Nat.le_of_ble_eq_true rfl | omega | (dsimp only; omega) | (simp only [addS_eq, mulS_eq]; omega)) ?_) | (refine still_in ?_; first | refine still_drop (by decide) ?_))
  refine (hcr _).mono ?_
  rintro r _ - ⟨rfl, rfl⟩
  repeat (first | refine SeqS.go cok ?_ | refine GuardS.no rfl ?_ | refine CondS.f rfl ?_ | (refine QuG.keep ?_; first | refine QuG.lN cok 0 rfl rfl rfl rfl rfl (by first | exact Nat.le_of_ble_eq_true rfl | omega | (dsimp only; omega) | (simp only [addS_eq, mulS_eq]; omega)) ?_) | (refine CondS.keep ?_; first | refine CondS.nd1 rfl (by omega) ?_))
  refine OpG.keep ?_
  refine OpG.sL cok 1 rfl rfl rfl rfl rfl rfl (cells_copy h1 (o := 52) (n := 8) (by decide)) (by show 0 + 8 ≤ ssz; omega) ?_
  repeat (first | (refine QuG.keep ?_; first | refine QuG.l1E cok 1 rfl rfl rfl rfl rfl (by first | exact Nat.le_of_ble_eq_true rfl | omega | (dsimp only; omega) | (simp only [addS_eq, mulS_eq]; omega)) (by assumption) ?_) | refine SeqS.go cok ?_ | refine CondS.t rfl ?_ | refine And.intro (Eq.refl true) ?_ | refine And.intro (by omega) ?_ | (refine NatS.keep ?_; first | with_reducible refine NatS.nat ?_) | (refine ValS.keep ?_; first | (with_reducible refine ValS.kI64 ?_; first | (with_reducible refine ValS.subI64_L ?_ ?_ ?_ ; omega; omega)) | with_reducible refine ValS.sl0 ?_) | (refine QuG.keep ?_; first | refine QuG.l1 cok 1 rfl rfl rfl rfl rfl (by first | exact Nat.le_of_ble_eq_true rfl | omega | (dsimp only; omega) | (simp only [addS_eq, mulS_eq]; omega)) ?_) | (refine still_in ?_; first | refine still_drop (by decide) ?_) | (refine OpG.keep ?_; first | refine OpG.s1 cok 1 rfl rfl rfl rfl rfl (by first | exact Nat.le_of_ble_eq_true rfl | omega | (dsimp only; omega) | (simp only [addS_eq, mulS_eq]; omega)) rfl rfl ?_) | refine W.drawI 17 cok [0, 0, 2, 6, 14, 0, 32, 96, 224, 480, 992, 0, 2048, 6144, 14336, 30720, 63488, 131070, 262143, 524287, 1048575] [0, 1, 2, 3, 4, 5, 6, 7, 8, 9, 10, 11, 12, 13, 14, 15, 16, 17, 18, 19, 20] [4, 8, 14] (by kernel_rfl) (by kernel_rfl) ?_ | (refine CondS.keep ?_; first | refine CondS.d1 rfl (by omega) ?_))
  refine Fin.drop (⟨sb, ssz, Ts, _⟩ :: ⟨fb, fsz, Tf, cf⟩ :: G) [_] ⟨_, rfl, ?_⟩
  refine ⟨rfl, rfl, rfl, rfl, rfl, ?_, rfl, ?_⟩
  · intro k hk8
    have h8 : k = 0 ∨ k = 1 ∨ k = 2 ∨ k = 3 ∨ k = 4 ∨ k = 5 ∨ k = 6 ∨ k = 7 := by omega
    rcases h8 with rfl | rfl | rfl | rfl | rfl | rfl | rfl | rfl <;> rfl
  · intro k hk12 hk16
    exact ((((((upd_ne (by omega)).trans (upd_ne (by omega))).trans (upd_ne (by omega))).trans (upd_ne (by omega))).trans (upd_ne (by omega))).trans (upd_ne (by omega))).trans (updN_ge (by show 0 + 8 ≤ k; omega))
end Go.Proofs.YgvafwGreat
