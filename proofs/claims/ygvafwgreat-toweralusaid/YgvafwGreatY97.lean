import Derived.Test.YgvafwGreatY96
set_option exponentiation.threshold 1000
set_option maxRecDepth 100000
set_option maxHeartbeats 4000000
set_option linter.unusedVariables false
set_option linter.unusedSimpArgs false
-- v2
-- v4
-- v5
-- v6
-- v7
namespace Go.Proofs.YgvafwGreat
open Go.HL Go.Proofs

section
variable {I : Ent → Prop} {G : List Ent} {sb ssz fb fsz pc gas : Nat} {Ts Tf : TypeId} {cs cf : Nat → Value} {K : YK} {w : YW} {s : List Nat} {mem : List Nat} {M : List Ent}
theorem yCost240 (hsz : 9 ≤ ssz) (hfz : 60 ≤ fsz) (hC : CsI I cs cf K w pc gas s) (hM : MemO (cf 9) mem M) :
    CallG Hvaf.prog 149 #[ptr sb 0, ptr fb 0, .int .u8 ((240 : Nat) : Int)] ⟨I, ⟨sb, ssz, Ts, cs⟩ :: ⟨fb, fsz, Tf, cf⟩ :: G⟩ fun r S' => S'.G = ⟨sb, ssz, Ts, cs⟩ :: ⟨fb, fsz, Tf, cf⟩ :: G ∧ NatI S'.I r (crcN s mem.length) := by
  have ha := argN_lt (i := 2) hC.F.fb
  have hq : 32000 + 2 * ((argN s 2 + 31) / 32) < 2 ^ 300 := by
    have : (2 : Nat) ^ 256 + 32100 < 2 ^ 300 := by decide +kernel
    generalize (2 : Nat) ^ 256 = P at *
    generalize (2 : Nat) ^ 300 = Q at *
    omega
  exact yCostG (o := 240) hsz hfz hC hM (endN_lt (argN_lt hC.F.fb) (argN_lt hC.F.fb)) hq (fun J hF => yReach240 hfz hF) (yBare240 hfz hC.F)
theorem yCost255 (hsz : 9 ≤ ssz) (hfz : 60 ≤ fsz) (hC : CsI I cs cf K w pc gas s) (hM : MemO (cf 9) mem M) (hbal : (getA w.al K.self).bal = 0) :
    CallG Hvaf.prog 149 #[ptr sb 0, ptr fb 0, .int .u8 ((255 : Nat) : Int)] ⟨I, ⟨sb, ssz, Ts, cs⟩ :: ⟨fb, fsz, Tf, cf⟩ :: G⟩ fun r S' => S'.G = ⟨sb, ssz, Ts, cs⟩ :: ⟨fb, fsz, Tf, cf⟩ :: G ∧ NatI S'.I r (dstN w s) := by
  have hq : dstN w s < 2 ^ 300 := by
    have : dstN w s ≤ 7600 := by unfold dstN; split <;> omega
    exact Nat.lt_of_le_of_lt this (by decide)
  have := yCostG (G := G) (sb := sb) (fb := fb) (Ts := Ts) (Tf := Tf) (o := 255) (bN := dstN w s) (rN := 0) hsz hfz hC hM (by decide) hq (fun J hF => yReach255) (yBare255 hsz hfz hC hbal)
  have e : costG (dstN w s) 0 mem.length = dstN w s := by unfold costG; rw [if_pos (by omega)]
  rw [e] at this; exact this
/-- yp.State.refusal at CREATE -/
theorem yRef240F9 (hsz : 11 ≤ ssz) (hfz : 60 ≤ fsz) (hC : CsI I cs cf K w pc gas s) (hM : MemO (cf 9) mem M) (h3 : s.length = 3) (h512 : 512 < argN s 2) :
    CallG Hvaf.prog 68 #[ptr sb 0, ptr fb 0, .int .u8 ((240 : Nat) : Int)] ⟨I, ⟨sb, ssz, Ts, cs⟩ :: ⟨fb, fsz, Tf, cf⟩ :: G⟩ (RefP I (⟨sb, ssz, Ts, cs⟩ :: ⟨fb, fsz, Tf, cf⟩ :: G) 9 (crcN s mem.length)) := by
  have har : ∀ S, CallG Hvaf.prog 147 #[.int .u8 ((240 : Nat) : Int)] S fun r S' => S = S' ∧ r = .tuple #[.int .i64 (3 : Nat), .int .i64 (1 : Nat), .bool true] := fun S => yArity (S := S) (o := 240) (by decide)
  have hfs := hC.F.fs
  have hgas := hC.F.fgas
  obtain ⟨vss, hR, hvl, hel⟩ := hC.F.fstk.out
  obtain ⟨ad, cap, hc8⟩ := hR.form
  rw [show vss.length = 3 by omega] at hc8
  have hco := fun (J : Ent → Prop) (hC : CsI J cs cf K w pc gas s) => yCost240 (G := G) (sb := sb) (fb := fb) (Ts := Ts) (Tf := Tf) (ssz := ssz) (by omega) hfz hC hM
  generalize crcN s mem.length = cst at *
  refine CallG.start (C := mkC Hvaf.prog) cok (args := [ptr sb 0, ptr fb 0, .int .u8 ((240 : Nat) : Int)]) Hvaf.func68 rfl Hvaf.ntmps68 (by simp) (by kernel_rfl) ?_
  repeat (first | refine SeqS.go cok ?_)
  refine (har _).mono ?_
  rintro r _ - ⟨rfl, rfl⟩
  repeat (first | (refine QuG.keep ?_; first | refine QuG.l1E cok 1 rfl rfl rfl rfl rfl (by first | exact Nat.le_of_ble_eq_true rfl | omega | (dsimp only; omega) | (simp only [addS_eq, mulS_eq]; omega)) (by assumption) ?_) | refine SeqS.go cok ?_ | refine GuardS.yes rfl ?_ | refine GuardS.no rfl ?_ | refine CondS.f rfl ?_ | (refine ValS.keep ?_; first | (with_reducible refine ValS.kI64 ?_; first | (with_reducible refine ValS.addI64 ?_ ?_ ; omega) | (with_reducible refine ValS.subI64 ?_ ?_ ?_ ; omega; omega))))
  refine CallG.focus 1 rfl ?_
  refine (yArgF (i := 2) hfz hC.F (by decide)).mono ?_
  rintro u _ - ⟨rfl, hu⟩
  repeat (first | refine GuardS.yes rfl ?_)
  refine callN (yNum (n := 512) (by decide)) fun q J2 hs2 hq => ?_
  repeat (first | refine GuardS.yes rfl ?_)
  refine (nCmpG (hu.up hs2) hq (by omega)).mono ?_
  rintro r _ - ⟨rfl, rfl⟩
  repeat (first | refine SeqS.go cok ?_ | refine GuardS.yes rfl ?_ | refine CondS.t rfl ?_)
  exact Fin.focus 1 rfl (Fin.same ⟨_, rfl, hs2, rfl, by simp⟩)
/-- yp.State.refusal at CREATE -/
theorem yRef240F2 (hsz : 11 ≤ ssz) (hfz : 60 ≤ fsz) (hC : CsI I cs cf K w pc gas s) (hM : MemO (cf 9) mem M) (h3 : s.length = 3) (h512 : argN s 2 ≤ 512) (hg : gas < crcN s mem.length) :
    CallG Hvaf.prog 68 #[ptr sb 0, ptr fb 0, .int .u8 ((240 : Nat) : Int)] ⟨I, ⟨sb, ssz, Ts, cs⟩ :: ⟨fb, fsz, Tf, cf⟩ :: G⟩ (RefP I (⟨sb, ssz, Ts, cs⟩ :: ⟨fb, fsz, Tf, cf⟩ :: G) 2 (crcN s mem.length)) := by
  have har : ∀ S, CallG Hvaf.prog 147 #[.int .u8 ((240 : Nat) : Int)] S fun r S' => S = S' ∧ r = .tuple #[.int .i64 (3 : Nat), .int .i64 (1 : Nat), .bool true] := fun S => yArity (S := S) (o := 240) (by decide)
  have hfs := hC.F.fs
  have hgas := hC.F.fgas
  obtain ⟨vss, hR, hvl, hel⟩ := hC.F.fstk.out
  obtain ⟨ad, cap, hc8⟩ := hR.form
  rw [show vss.length = 3 by omega] at hc8
  have hco := fun (J : Ent → Prop) (hC : CsI J cs cf K w pc gas s) => yCost240 (G := G) (sb := sb) (fb := fb) (Ts := Ts) (Tf := Tf) (ssz := ssz) (by omega) hfz hC hM
  generalize crcN s mem.length = cst at *
  refine CallG.start (C := mkC Hvaf.prog) cok (args := [ptr sb 0, ptr fb 0, .int .u8 ((240 : Nat) : Int)]) Hvaf.func68 rfl Hvaf.ntmps68 (by simp) (by kernel_rfl) ?_
  repeat (first | refine SeqS.go cok ?_)
  refine (har _).mono ?_
  rintro r _ - ⟨rfl, rfl⟩
  repeat (first | (refine QuG.keep ?_; first | refine QuG.l1E cok 1 rfl rfl rfl rfl rfl (by first | exact Nat.le_of_ble_eq_true rfl | omega | (dsimp only; omega) | (simp only [addS_eq, mulS_eq]; omega)) (by assumption) ?_) | refine SeqS.go cok ?_ | refine GuardS.yes rfl ?_ | refine GuardS.no rfl ?_ | refine CondS.f rfl ?_ | (refine ValS.keep ?_; first | (with_reducible refine ValS.kI64 ?_; first | (with_reducible refine ValS.addI64 ?_ ?_ ; omega) | (with_reducible refine ValS.subI64 ?_ ?_ ?_ ; omega; omega))))
  refine CallG.focus 1 rfl ?_
  refine (yArgF (i := 2) hfz hC.F (by decide)).mono ?_
  rintro u _ - ⟨rfl, hu⟩
  repeat (first | refine GuardS.yes rfl ?_)
  refine callN (yNum (n := 512) (by decide)) fun q J2 hs2 hq => ?_
  repeat (first | refine GuardS.yes rfl ?_)
  refine (nCmpLe (hu.up hs2) hq h512).mono ?_
  rintro r _ - ⟨rfl, z0, hz0, hz0', rfl⟩
  repeat (first | refine SeqS.go cok ?_ | refine GuardS.yes rfl ?_ | refine GuardS.no rfl ?_ | refine CondS.f rfl ?_ | refine W.drawI 12 cok [0, 1, 3, 7, 15, 7, 63, 127, 7, 263, 775, 1799, 3847, 7943, 16383, 32767, 65535, 131071, 262143] [0, 1, 2, 3, 5, 8, 9, 10, 11, 12, 13, 4, 6, 7, 14, 15, 16, 17, 18] [11] (by kernel_rfl) (by kernel_rfl) ?_ | (refine CondS.keep ?_; first | refine CondS.d0 rfl (by omega) ?_))
  refine CallG.focus 1 rfl ?_
  refine callN (hco _ (hC.up hs2)) fun v J hs hv => ?_
  repeat (first | refine SeqS.go cok ?_ | (refine QuG.keep ?_; first | refine QuG.l1 cok 1 rfl rfl rfl rfl rfl (by first | exact Nat.le_of_ble_eq_true rfl | omega | (dsimp only; omega) | (simp only [addS_eq, mulS_eq]; omega)) ?_))
  refine (nCmpG hv (hgas.up (hs2.trans hs)) (by omega)).mono ?_
  rintro r _ - ⟨rfl, rfl⟩
  repeat (first | refine SeqS.go cok ?_ | refine CondS.t rfl ?_)
  exact Fin.same ⟨_, rfl, hs2.trans hs, rfl, by simp⟩
/-- yp.State.refusal at CREATE -/
theorem yRef240Y (hsz : 11 ≤ ssz) (hfz : 60 ≤ fsz) (hC : CsI I cs cf K w pc gas s) (hM : MemO (cf 9) mem M) (h3 : s.length = 3) (h512 : argN s 2 ≤ 512) (hg : crcN s mem.length ≤ gas) :
    CallG Hvaf.prog 68 #[ptr sb 0, ptr fb 0, .int .u8 ((240 : Nat) : Int)] ⟨I, ⟨sb, ssz, Ts, cs⟩ :: ⟨fb, fsz, Tf, cf⟩ :: G⟩ (RefP I (⟨sb, ssz, Ts, cs⟩ :: ⟨fb, fsz, Tf, cf⟩ :: G) 0 (crcN s mem.length)) := by
  have har : ∀ S, CallG Hvaf.prog 147 #[.int .u8 ((240 : Nat) : Int)] S fun r S' => S = S' ∧ r = .tuple #[.int .i64 (3 : Nat), .int .i64 (1 : Nat), .bool true] := fun S => yArity (S := S) (o := 240) (by decide)
  have hfs := hC.F.fs
  have hgas := hC.F.fgas
  obtain ⟨vss, hR, hvl, hel⟩ := hC.F.fstk.out
  obtain ⟨ad, cap, hc8⟩ := hR.form
  rw [show vss.length = 3 by omega] at hc8
  have hco := fun (J : Ent → Prop) (hC : CsI J cs cf K w pc gas s) => yCost240 (G := G) (sb := sb) (fb := fb) (Ts := Ts) (Tf := Tf) (ssz := ssz) (by omega) hfz hC hM
  generalize crcN s mem.length = cst at *
  refine CallG.start (C := mkC Hvaf.prog) cok (args := [ptr sb 0, ptr fb 0, .int .u8 ((240 : Nat) : Int)]) Hvaf.func68 rfl Hvaf.ntmps68 (by simp) (by kernel_rfl) ?_
  repeat (first | refine SeqS.go cok ?_)
  refine (har _).mono ?_
  rintro r _ - ⟨rfl, rfl⟩
  repeat (first | (refine QuG.keep ?_; first | refine QuG.l1E cok 1 rfl rfl rfl rfl rfl (by first | exact Nat.le_of_ble_eq_true rfl | omega | (dsimp only; omega) | (simp only [addS_eq, mulS_eq]; omega)) (by assumption) ?_) | refine SeqS.go cok ?_ | refine GuardS.yes rfl ?_ | refine GuardS.no rfl ?_ | refine CondS.f rfl ?_ | (refine ValS.keep ?_; first | (with_reducible refine ValS.kI64 ?_; first | (with_reducible refine ValS.addI64 ?_ ?_ ; omega) | (with_reducible refine ValS.subI64 ?_ ?_ ?_ ; omega; omega))))
  refine CallG.focus 1 rfl ?_
  refine (yArgF (i := 2) hfz hC.F (by decide)).mono ?_
  rintro u _ - ⟨rfl, hu⟩
  repeat (first | refine GuardS.yes rfl ?_)
  refine callN (yNum (n := 512) (by decide)) fun q J2 hs2 hq => ?_
  repeat (first | refine GuardS.yes rfl ?_)
  refine (nCmpLe (hu.up hs2) hq h512).mono ?_
  rintro r _ - ⟨rfl, z0, hz0, hz0', rfl⟩
  repeat (first | refine SeqS.go cok ?_ | refine GuardS.yes rfl ?_ | refine GuardS.no rfl ?_ | refine CondS.f rfl ?_ | refine W.drawI 12 cok [0, 1, 3, 7, 15, 7, 63, 127, 7, 263, 775, 1799, 3847, 7943, 16383, 32767, 65535, 131071, 262143] [0, 1, 2, 3, 5, 8, 9, 10, 11, 12, 13, 4, 6, 7, 14, 15, 16, 17, 18] [11] (by kernel_rfl) (by kernel_rfl) ?_ | (refine CondS.keep ?_; first | refine CondS.d0 rfl (by omega) ?_))
  refine CallG.focus 1 rfl ?_
  refine callN (hco _ (hC.up hs2)) fun v J hs hv => ?_
  repeat (first | refine SeqS.go cok ?_ | (refine QuG.keep ?_; first | refine QuG.l1 cok 1 rfl rfl rfl rfl rfl (by first | exact Nat.le_of_ble_eq_true rfl | omega | (dsimp only; omega) | (simp only [addS_eq, mulS_eq]; omega)) ?_))
  refine (nCmpLe hv (hgas.up (hs2.trans hs)) (by omega)).mono ?_
  rintro r _ - ⟨rfl, z, hz, hz', rfl⟩
  repeat (first | refine SeqS.go cok ?_ | refine GuardS.no rfl ?_ | refine CondS.f rfl ?_ | refine W.drawI 17 cok [0, 1, 3, 7, 15, 31, 63, 7, 255, 511, 1023, 2047] [0, 1, 2, 3, 4, 5, 6, 7, 8, 9, 10, 11] [6] (by kernel_rfl) (by kernel_rfl) ?_ | refine W.drawI 19 cok [0, 1, 3, 7, 15, 31, 63, 7, 135, 511, 1023, 2047, 4095] [0, 1, 2, 3, 4, 5, 6, 7, 8, 9, 10, 11, 12] [6] (by kernel_rfl) (by kernel_rfl) ?_ | refine W.drawI 21 cok [0, 1, 3, 7, 15, 31, 63, 127, 255, 511, 1023, 2047, 4095, 511, 8703, 32767, 65535, 131071, 262143] [0, 1, 2, 3, 4, 5, 6, 7, 8, 9, 10, 11, 12, 13, 14, 15, 16, 17, 18] [12] (by kernel_rfl) (by kernel_rfl) ?_ | (refine CondS.keep ?_; first | refine CondS.d0 rfl (by omega) ?_))
  exact Fin.same ⟨_, rfl, hs2.trans hs, rfl, fun _ => hv⟩
/-- yp.State.refusal at SELFDESTRUCT -/
theorem yRef255Y (hsz : 11 ≤ ssz) (hfz : 60 ≤ fsz) (hC : CsI I cs cf K w pc gas s) (hM : MemO (cf 9) mem M) (h3 : s.length = 3) (hbal : (getA w.al K.self).bal = 0) (hg : dstN w s ≤ gas) :
    CallG Hvaf.prog 68 #[ptr sb 0, ptr fb 0, .int .u8 ((255 : Nat) : Int)] ⟨I, ⟨sb, ssz, Ts, cs⟩ :: ⟨fb, fsz, Tf, cf⟩ :: G⟩ (RefP I (⟨sb, ssz, Ts, cs⟩ :: ⟨fb, fsz, Tf, cf⟩ :: G) 0 (dstN w s)) := by
  have har : ∀ S, CallG Hvaf.prog 147 #[.int .u8 ((255 : Nat) : Int)] S fun r S' => S = S' ∧ r = .tuple #[.int .i64 (1 : Nat), .int .i64 (0 : Nat), .bool true] := fun S => yArity (S := S) (o := 255) (by decide)
  have hfs := hC.F.fs
  have hgas := hC.F.fgas
  obtain ⟨vss, hR, hvl, hel⟩ := hC.F.fstk.out
  obtain ⟨ad, cap, hc8⟩ := hR.form
  rw [show vss.length = 3 by omega] at hc8
  have hco := yCost255 (G := G) (sb := sb) (fb := fb) (Ts := Ts) (Tf := Tf) (ssz := ssz) (by omega) hfz hC hM hbal
  generalize dstN w s = cst at *
  refine CallG.start (C := mkC Hvaf.prog) cok (args := [ptr sb 0, ptr fb 0, .int .u8 ((255 : Nat) : Int)]) Hvaf.func68 rfl Hvaf.ntmps68 (by simp) (by kernel_rfl) ?_
  repeat (first | refine SeqS.go cok ?_)
  refine (har _).mono ?_
  rintro r _ - ⟨rfl, rfl⟩
  repeat (first | (refine QuG.keep ?_; first | refine QuG.l1E cok 1 rfl rfl rfl rfl rfl (by first | exact Nat.le_of_ble_eq_true rfl | omega | (dsimp only; omega) | (simp only [addS_eq, mulS_eq]; omega)) (by assumption) ?_) | refine SeqS.go cok ?_ | refine GuardS.yes rfl ?_ | refine GuardS.no rfl ?_ | refine CondS.f rfl ?_ | (refine ValS.keep ?_; first | (with_reducible refine ValS.kI64 ?_; first | (with_reducible refine ValS.addI64 ?_ ?_ ; omega) | (with_reducible refine ValS.subI64 ?_ ?_ ?_ ; omega; omega))) | refine W.drawI 12 cok [0, 1, 3, 7, 15, 7, 63, 127, 7, 263, 775, 1799, 3847, 7943, 16383, 32767, 65535, 131071, 262143] [0, 1, 2, 3, 5, 8, 9, 10, 11, 12, 13, 4, 6, 7, 14, 15, 16, 17, 18] [11] (by kernel_rfl) (by kernel_rfl) ?_)
  refine callN hco fun v J hs hv => ?_
  repeat (first | refine SeqS.go cok ?_ | (refine QuG.keep ?_; first | refine QuG.l1 cok 1 rfl rfl rfl rfl rfl (by first | exact Nat.le_of_ble_eq_true rfl | omega | (dsimp only; omega) | (simp only [addS_eq, mulS_eq]; omega)) ?_))
  refine (nCmpLe hv (hgas.up hs) (by omega)).mono ?_
  rintro r _ - ⟨rfl, z, hz, hz', rfl⟩
  repeat (first | refine SeqS.go cok ?_ | refine GuardS.no rfl ?_ | refine CondS.f rfl ?_ | refine W.drawI 17 cok [0, 1, 3, 7, 15, 31, 63, 7, 255, 511, 1023, 2047] [0, 1, 2, 3, 4, 5, 6, 7, 8, 9, 10, 11] [6] (by kernel_rfl) (by kernel_rfl) ?_ | refine W.drawI 19 cok [0, 1, 3, 7, 15, 31, 63, 7, 135, 511, 1023, 2047, 4095] [0, 1, 2, 3, 4, 5, 6, 7, 8, 9, 10, 11, 12] [6] (by kernel_rfl) (by kernel_rfl) ?_ | refine W.drawI 21 cok [0, 1, 3, 7, 15, 31, 63, 127, 255, 511, 1023, 2047, 4095, 511, 8703, 32767, 65535, 131071, 262143] [0, 1, 2, 3, 4, 5, 6, 7, 8, 9, 10, 11, 12, 13, 14, 15, 16, 17, 18] [12] (by kernel_rfl) (by kernel_rfl) ?_ | (refine CondS.keep ?_; first | refine CondS.d0 rfl (by omega) ?_))
  exact Fin.same ⟨_, rfl, hs, rfl, fun _ => hv⟩
end
end Go.Proofs.YgvafwGreat
