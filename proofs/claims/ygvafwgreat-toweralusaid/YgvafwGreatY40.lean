import Derived.Test.YgvafwGreatY39
set_option exponentiation.threshold 1000
set_option maxRecDepth 100000
set_option maxHeartbeats 4000000
set_option linter.unusedVariables false
set_option linter.unusedSimpArgs false
-- v2
-- v4
-- v5
-- v6
-- v7
namespace Go.Proofs.YgvafwGreat
open Go.HL Go.Proofs

theorem yRef62b {I : Ent → Prop} {G : List Ent} {sb ssz fb fsz pc gas : Nat} {Ts Tf : TypeId} {cs cf : Nat → Value} {K : YK} {w : YW} {s mem : List Nat} {M : List Ent} (hsz : 11 ≤ ssz) (hfz : 60 ≤ fsz) (hC : CsI I cs cf K w pc gas s) (hM : MemO (cf 9) mem M) (hret : cs 10 = .slice none 0 0) (h1 : ¬ s.length < 3) (hz0 : argN s 1 + argN s 2 ≠ 0) :
    CallG Hvaf.prog 68 #[ptr sb 0, ptr fb 0, .int .u8 (62 : Nat)] ⟨I, ⟨sb, ssz, Ts, cs⟩ :: ⟨fb, fsz, Tf, cf⟩ :: G⟩ (RefP I (⟨sb, ssz, Ts, cs⟩ :: ⟨fb, fsz, Tf, cf⟩ :: G) 8 (costN K w s mem.length 62)) := by
  have hsum : argN s 1 + argN s 2 < NB := NB_sum (argN_lt hC.F.fb) (argN_lt hC.F.fb)
  have har : ∀ S, CallG Hvaf.prog 147 #[.int .u8 (62 : Nat)] S fun r S' => S = S' ∧ r = .tuple #[.int .i64 (3 : Nat), .int .i64 (0 : Nat), .bool true] := fun S => yArity (S := S) (o := 62) (by decide)
  have hfs := hC.F.fs
  have hgas := hC.F.fgas
  obtain ⟨vss, hR, hvl, hel⟩ := hC.F.fstk.out
  obtain ⟨ad, cap, hc8⟩ := hR.form
  have hl := hC.F.fl
  obtain ⟨ad2, cap2, hc10, _⟩ := hC.F.fcode.form
  have hcode := hC.F.fcode
  rw [hc10] at hcode
  have hco := fun (I) (hC : CsI I cs cf K w pc gas s) => yCost (I := I) (o := 62) (G := G) (sb := sb) (fb := fb) (Ts := Ts) (Tf := Tf) (ssz := ssz) (by omega) hfz hC hM (by decide) (by decide)
  generalize costN K w s mem.length 62 = cst at *
  refine CallG.start (C := mkC Hvaf.prog) cok (args := [ptr sb 0, ptr fb 0, .int .u8 ((62 : Nat) : Int)]) Hvaf.func68 rfl Hvaf.ntmps68 (by simp) (by kernel_rfl) ?_
  repeat (first | refine SeqS.go cok ?_)
  refine (har _).mono ?_
  rintro r _ - ⟨rfl, rfl⟩
  repeat (first | (refine QuG.keep ?_; first | refine QuG.l1E cok 0 rfl rfl rfl rfl rfl (by first | exact Nat.le_of_ble_eq_true rfl | omega | (dsimp only; omega) | (simp only [addS_eq, mulS_eq]; omega)) (by assumption) ?_ | refine QuG.l1E cok 1 rfl rfl rfl rfl rfl (by first | exact Nat.le_of_ble_eq_true rfl | omega | (dsimp only; omega) | (simp only [addS_eq, mulS_eq]; omega)) (by assumption) ?_) | refine SeqS.go cok ?_ | refine GuardS.yes rfl ?_ | refine GuardS.no rfl ?_ | refine CondS.f rfl ?_ | (refine ValS.keep ?_; first | (with_reducible refine ValS.kI64 ?_; first | (with_reducible refine ValS.addI64 ?_ ?_ ; omega) | (with_reducible refine ValS.subI64 ?_ ?_ ?_ ; omega; omega)) | (with_reducible refine ValS.kU64 ?_; first | (with_reducible refine ValS.convU64 ?_ ?_ ; omega))) | refine W.drawI 12 cok [0, 1, 3, 7, 15, 7, 63, 127, 7, 263, 775, 1799, 3847, 7943, 16383, 32767, 65535, 131071, 262143] [0, 1, 2, 3, 5, 8, 9, 10, 11, 12, 13, 4, 6, 7, 14, 15, 16, 17, 18] [11] (by kernel_rfl) (by kernel_rfl) ?_ | (refine CondS.keep ?_; first | refine CondS.d0 rfl (by omega) ?_))
  refine CallG.focus 1 rfl ?_
  refine (yArgF (i := 1) hfz hC.F (by decide)).mono ?_
  rintro u _ - ⟨rfl, hu⟩
  repeat (first | refine GuardS.yes rfl ?_ | (refine still_in ?_; first | (refine still_keep (by decide) rfl ?_ ?_; first | exact QuV.l1 cok 1 rfl rfl rfl rfl rfl (by first | exact Nat.le_of_ble_eq_true rfl | omega | (dsimp only; omega) | (simp only [addS_eq, mulS_eq]; omega)) (by assumption))))
  refine CallG.focus 0 rfl ?_
  refine (yArgF (i := 2) hfz hC.F (by decide)).mono ?_
  rintro x _ - ⟨rfl, hx⟩
  repeat (first | refine GuardS.yes rfl ?_ | (refine still_in ?_; first | (refine still_keep (by decide) rfl ?_ ?_; first | exact QuV.l1 cok 1 rfl rfl rfl rfl rfl (by first | exact Nat.le_of_ble_eq_true rfl | omega | (dsimp only; omega) | (simp only [addS_eq, mulS_eq]; omega)) (by assumption))))
  refine callN (nAdd hu hx hsum) fun y J1 hs1 hy => ?_
  repeat (first | refine GuardS.yes rfl ?_ | (refine still_in ?_; first | (refine still_keep (by decide) rfl ?_ ?_; first | exact QuV.l1 cok 1 rfl rfl rfl rfl rfl (by first | exact Nat.le_of_ble_eq_true rfl | omega | (dsimp only; omega) | (simp only [addS_eq, mulS_eq]; omega)) (by assumption))))
  refine callN (yNum (n := 0) (by decide)) fun q J2 hs2 hq => ?_
  repeat (first | refine GuardS.yes rfl ?_ | (refine still_in ?_; first | refine still_drop (by decide) ?_))
  refine (nCmpG (hy.up hs2) hq (by omega)).mono ?_
  rintro r _ - ⟨rfl, rfl⟩
  repeat (first | refine SeqS.go cok ?_ | refine GuardS.yes rfl ?_ | refine CondS.t rfl ?_ | (refine still_in ?_; first | refine still_drop (by decide) ?_))
  exact Fin.focus 1 rfl (Fin.same ⟨_, rfl, hs1.trans hs2, rfl, by simp⟩)
theorem yRef62g {I : Ent → Prop} {G : List Ent} {sb ssz fb fsz pc gas : Nat} {Ts Tf : TypeId} {cs cf : Nat → Value} {K : YK} {w : YW} {s mem : List Nat} {M : List Ent} (hsz : 11 ≤ ssz) (hfz : 60 ≤ fsz) (hC : CsI I cs cf K w pc gas s) (hM : MemO (cf 9) mem M) (hret : cs 10 = .slice none 0 0) (h1 : ¬ s.length < 3) (hz0 : argN s 1 + argN s 2 = 0) (hg : gas < costN K w s mem.length 62) :
    CallG Hvaf.prog 68 #[ptr sb 0, ptr fb 0, .int .u8 (62 : Nat)] ⟨I, ⟨sb, ssz, Ts, cs⟩ :: ⟨fb, fsz, Tf, cf⟩ :: G⟩ (RefP I (⟨sb, ssz, Ts, cs⟩ :: ⟨fb, fsz, Tf, cf⟩ :: G) 2 (costN K w s mem.length 62)) := by
  have hsum : argN s 1 + argN s 2 < NB := NB_sum (argN_lt hC.F.fb) (argN_lt hC.F.fb)
  have har : ∀ S, CallG Hvaf.prog 147 #[.int .u8 (62 : Nat)] S fun r S' => S = S' ∧ r = .tuple #[.int .i64 (3 : Nat), .int .i64 (0 : Nat), .bool true] := fun S => yArity (S := S) (o := 62) (by decide)
  have hfs := hC.F.fs
  have hgas := hC.F.fgas
  obtain ⟨vss, hR, hvl, hel⟩ := hC.F.fstk.out
  obtain ⟨ad, cap, hc8⟩ := hR.form
  have hl := hC.F.fl
  obtain ⟨ad2, cap2, hc10, _⟩ := hC.F.fcode.form
  have hcode := hC.F.fcode
  rw [hc10] at hcode
  have hco := fun (I) (hC : CsI I cs cf K w pc gas s) => yCost (I := I) (o := 62) (G := G) (sb := sb) (fb := fb) (Ts := Ts) (Tf := Tf) (ssz := ssz) (by omega) hfz hC hM (by decide) (by decide)
  generalize costN K w s mem.length 62 = cst at *
  refine CallG.start (C := mkC Hvaf.prog) cok (args := [ptr sb 0, ptr fb 0, .int .u8 ((62 : Nat) : Int)]) Hvaf.func68 rfl Hvaf.ntmps68 (by simp) (by kernel_rfl) ?_
  repeat (first | refine SeqS.go cok ?_)
  refine (har _).mono ?_
  rintro r _ - ⟨rfl, rfl⟩
  repeat (first | (refine QuG.keep ?_; first | refine QuG.l1E cok 0 rfl rfl rfl rfl rfl (by first | exact Nat.le_of_ble_eq_true rfl | omega | (dsimp only; omega) | (simp only [addS_eq, mulS_eq]; omega)) (by assumption) ?_ | refine QuG.l1E cok 1 rfl rfl rfl rfl rfl (by first | exact Nat.le_of_ble_eq_true rfl | omega | (dsimp only; omega) | (simp only [addS_eq, mulS_eq]; omega)) (by assumption) ?_) | refine SeqS.go cok ?_ | refine GuardS.yes rfl ?_ | refine GuardS.no rfl ?_ | refine CondS.f rfl ?_ | (refine ValS.keep ?_; first | (with_reducible refine ValS.kI64 ?_; first | (with_reducible refine ValS.addI64 ?_ ?_ ; omega) | (with_reducible refine ValS.subI64 ?_ ?_ ?_ ; omega; omega)) | (with_reducible refine ValS.kU64 ?_; first | (with_reducible refine ValS.convU64 ?_ ?_ ; omega))) | refine W.drawI 12 cok [0, 1, 3, 7, 15, 7, 63, 127, 7, 263, 775, 1799, 3847, 7943, 16383, 32767, 65535, 131071, 262143] [0, 1, 2, 3, 5, 8, 9, 10, 11, 12, 13, 4, 6, 7, 14, 15, 16, 17, 18] [11] (by kernel_rfl) (by kernel_rfl) ?_ | (refine CondS.keep ?_; first | refine CondS.d0 rfl (by omega) ?_))
  refine CallG.focus 1 rfl ?_
  refine (yArgF (i := 1) hfz hC.F (by decide)).mono ?_
  rintro u _ - ⟨rfl, hu⟩
  repeat (first | refine GuardS.yes rfl ?_ | (refine still_in ?_; first | (refine still_keep (by decide) rfl ?_ ?_; first | exact QuV.l1 cok 1 rfl rfl rfl rfl rfl (by first | exact Nat.le_of_ble_eq_true rfl | omega | (dsimp only; omega) | (simp only [addS_eq, mulS_eq]; omega)) (by assumption))))
  refine CallG.focus 0 rfl ?_
  refine (yArgF (i := 2) hfz hC.F (by decide)).mono ?_
  rintro x _ - ⟨rfl, hx⟩
  repeat (first | refine GuardS.yes rfl ?_ | (refine still_in ?_; first | (refine still_keep (by decide) rfl ?_ ?_; first | exact QuV.l1 cok 1 rfl rfl rfl rfl rfl (by first | exact Nat.le_of_ble_eq_true rfl | omega | (dsimp only; omega) | (simp only [addS_eq, mulS_eq]; omega)) (by assumption))))
  refine callN (nAdd hu hx hsum) fun y J1 hs1 hy => ?_
  repeat (first | refine GuardS.yes rfl ?_ | (refine still_in ?_; first | (refine still_keep (by decide) rfl ?_ ?_; first | exact QuV.l1 cok 1 rfl rfl rfl rfl rfl (by first | exact Nat.le_of_ble_eq_true rfl | omega | (dsimp only; omega) | (simp only [addS_eq, mulS_eq]; omega)) (by assumption))))
  refine callN (yNum (n := 0) (by decide)) fun q J2 hs2 hq => ?_
  repeat (first | refine GuardS.yes rfl ?_ | (refine still_in ?_; first | refine still_drop (by decide) ?_))
  refine (nCmpE (hy.up hs2) hq hz0).mono ?_
  rintro r _ - ⟨rfl, rfl⟩
  repeat (first | refine SeqS.go cok ?_ | refine GuardS.yes rfl ?_ | refine CondS.f rfl ?_ | (refine still_in ?_; first | refine still_drop (by decide) ?_))
  refine CallG.focus 1 rfl ?_
  refine callN (hco _ (hC.up (hs1.trans hs2))) fun v J hs hv => ?_
  repeat (first | refine SeqS.go cok ?_ | (refine QuG.keep ?_; first | refine QuG.l1 cok 1 rfl rfl rfl rfl rfl (by first | exact Nat.le_of_ble_eq_true rfl | omega | (dsimp only; omega) | (simp only [addS_eq, mulS_eq]; omega)) ?_))
  refine (nCmpG hv (hgas.up ((hs1.trans hs2).trans hs)) (by omega)).mono ?_
  rintro r _ - ⟨rfl, rfl⟩
  repeat (first | refine SeqS.go cok ?_ | refine CondS.t rfl ?_)
  exact Fin.same ⟨_, rfl, (hs1.trans hs2).trans hs, rfl, by simp⟩
theorem yRef62 {I : Ent → Prop} {G : List Ent} {sb ssz fb fsz pc gas : Nat} {Ts Tf : TypeId} {cs cf : Nat → Value} {K : YK} {w : YW} {s mem : List Nat} {M : List Ent} (hsz : 11 ≤ ssz) (hfz : 60 ≤ fsz) (hC : CsI I cs cf K w pc gas s) (hM : MemO (cf 9) mem M) (hret : cs 10 = .slice none 0 0) (h1 : ¬ s.length < 3) (hz0 : argN s 1 + argN s 2 = 0) (hg : ¬ gas < costN K w s mem.length 62) :
    CallG Hvaf.prog 68 #[ptr sb 0, ptr fb 0, .int .u8 (62 : Nat)] ⟨I, ⟨sb, ssz, Ts, cs⟩ :: ⟨fb, fsz, Tf, cf⟩ :: G⟩ (RefP I (⟨sb, ssz, Ts, cs⟩ :: ⟨fb, fsz, Tf, cf⟩ :: G) 0 (costN K w s mem.length 62)) := by
  have hsum : argN s 1 + argN s 2 < NB := NB_sum (argN_lt hC.F.fb) (argN_lt hC.F.fb)
  have har : ∀ S, CallG Hvaf.prog 147 #[.int .u8 (62 : Nat)] S fun r S' => S = S' ∧ r = .tuple #[.int .i64 (3 : Nat), .int .i64 (0 : Nat), .bool true] := fun S => yArity (S := S) (o := 62) (by decide)
  have hfs := hC.F.fs
  have hgas := hC.F.fgas
  obtain ⟨vss, hR, hvl, hel⟩ := hC.F.fstk.out
  obtain ⟨ad, cap, hc8⟩ := hR.form
  have hl := hC.F.fl
  obtain ⟨ad2, cap2, hc10, _⟩ := hC.F.fcode.form
  have hcode := hC.F.fcode
  rw [hc10] at hcode
  have hco := fun (I) (hC : CsI I cs cf K w pc gas s) => yCost (I := I) (o := 62) (G := G) (sb := sb) (fb := fb) (Ts := Ts) (Tf := Tf) (ssz := ssz) (by omega) hfz hC hM (by decide) (by decide)
  generalize costN K w s mem.length 62 = cst at *
  refine CallG.start (C := mkC Hvaf.prog) cok (args := [ptr sb 0, ptr fb 0, .int .u8 ((62 : Nat) : Int)]) Hvaf.func68 rfl Hvaf.ntmps68 (by simp) (by kernel_rfl) ?_
  repeat (first | refine SeqS.go cok ?_)
  refine (har _).mono ?_
  rintro r _ - ⟨rfl, rfl⟩
  repeat (first | (refine QuG.keep ?_; first | refine QuG.l1E cok 0 rfl rfl rfl rfl rfl (by first | exact Nat.le_of_ble_eq_true rfl | omega | (dsimp only; omega) | (simp only [addS_eq, mulS_eq]; omega)) (by assumption) ?_ | refine QuG.l1E cok 1 rfl rfl rfl rfl rfl (by first | exact Nat.le_of_ble_eq_true rfl | omega | (dsimp only; omega) | (simp only [addS_eq, mulS_eq]; omega)) (by assumption) ?_) | refine SeqS.go cok ?_ | refine GuardS.yes rfl ?_ | refine GuardS.no rfl ?_ | refine CondS.f rfl ?_ | (refine ValS.keep ?_; first | (with_reducible refine ValS.kI64 ?_; first | (with_reducible refine ValS.addI64 ?_ ?_ ; omega) | (with_reducible refine ValS.subI64 ?_ ?_ ?_ ; omega; omega)) | (with_reducible refine ValS.kU64 ?_; first | (with_reducible refine ValS.convU64 ?_ ?_ ; omega))) | refine W.drawI 12 cok [0, 1, 3, 7, 15, 7, 63, 127, 7, 263, 775, 1799, 3847, 7943, 16383, 32767, 65535, 131071, 262143] [0, 1, 2, 3, 5, 8, 9, 10, 11, 12, 13, 4, 6, 7, 14, 15, 16, 17, 18] [11] (by kernel_rfl) (by kernel_rfl) ?_ | (refine CondS.keep ?_; first | refine CondS.d0 rfl (by omega) ?_))
  refine CallG.focus 1 rfl ?_
  refine (yArgF (i := 1) hfz hC.F (by decide)).mono ?_
  rintro u _ - ⟨rfl, hu⟩
  repeat (first | refine GuardS.yes rfl ?_ | (refine still_in ?_; first | (refine still_keep (by decide) rfl ?_ ?_; first | exact QuV.l1 cok 1 rfl rfl rfl rfl rfl (by first | exact Nat.le_of_ble_eq_true rfl | omega | (dsimp only; omega) | (simp only [addS_eq, mulS_eq]; omega)) (by assumption))))
  refine CallG.focus 0 rfl ?_
  refine (yArgF (i := 2) hfz hC.F (by decide)).mono ?_
  rintro x _ - ⟨rfl, hx⟩
  repeat (first | refine GuardS.yes rfl ?_ | (refine still_in ?_; first | (refine still_keep (by decide) rfl ?_ ?_; first | exact QuV.l1 cok 1 rfl rfl rfl rfl rfl (by first | exact Nat.le_of_ble_eq_true rfl | omega | (dsimp only; omega) | (simp only [addS_eq, mulS_eq]; omega)) (by assumption))))
  refine callN (nAdd hu hx hsum) fun y J1 hs1 hy => ?_
  repeat (first | refine GuardS.yes rfl ?_ | (refine still_in ?_; first | (refine still_keep (by decide) rfl ?_ ?_; first | exact QuV.l1 cok 1 rfl rfl rfl rfl rfl (by first | exact Nat.le_of_ble_eq_true rfl | omega | (dsimp only; omega) | (simp only [addS_eq, mulS_eq]; omega)) (by assumption))))
  refine callN (yNum (n := 0) (by decide)) fun q J2 hs2 hq => ?_
  repeat (first | refine GuardS.yes rfl ?_ | (refine still_in ?_; first | refine still_drop (by decide) ?_))
  refine (nCmpE (hy.up hs2) hq hz0).mono ?_
  rintro r _ - ⟨rfl, rfl⟩
  repeat (first | refine SeqS.go cok ?_ | refine GuardS.yes rfl ?_ | refine CondS.f rfl ?_ | (refine still_in ?_; first | refine still_drop (by decide) ?_))
  refine CallG.focus 1 rfl ?_
  refine callN (hco _ (hC.up (hs1.trans hs2))) fun v J hs hv => ?_
  repeat (first | refine SeqS.go cok ?_ | (refine QuG.keep ?_; first | refine QuG.l1 cok 1 rfl rfl rfl rfl rfl (by first | exact Nat.le_of_ble_eq_true rfl | omega | (dsimp only; omega) | (simp only [addS_eq, mulS_eq]; omega)) ?_))
  refine (nCmpLe hv (hgas.up ((hs1.trans hs2).trans hs)) (by omega)).mono ?_
  rintro r _ - ⟨rfl, z, hz, hz', rfl⟩
  repeat (first | refine SeqS.go cok ?_ | refine GuardS.no rfl ?_ | refine CondS.f rfl ?_ | refine W.drawI 17 cok [0, 1, 3, 7, 15, 31, 63, 7, 255, 511, 1023, 2047] [0, 1, 2, 3, 4, 5, 6, 7, 8, 9, 10, 11] [6] (by kernel_rfl) (by kernel_rfl) ?_ | refine W.drawI 19 cok [0, 1, 3, 7, 15, 31, 63, 7, 135, 511, 1023, 2047, 4095] [0, 1, 2, 3, 4, 5, 6, 7, 8, 9, 10, 11, 12] [6] (by kernel_rfl) (by kernel_rfl) ?_ | refine W.drawI 21 cok [0, 1, 3, 7, 15, 31, 63, 127, 255, 511, 1023, 2047, 4095, 511, 8703, 32767, 65535, 131071, 262143] [0, 1, 2, 3, 4, 5, 6, 7, 8, 9, 10, 11, 12, 13, 14, 15, 16, 17, 18] [12] (by kernel_rfl) (by kernel_rfl) ?_ | (refine CondS.keep ?_; first | refine CondS.d0 rfl (by omega) ?_))
  exact Fin.same ⟨_, rfl, (hs1.trans hs2).trans hs, rfl, fun _ => hv⟩
theorem yRef85g {I : Ent → Prop} {G : List Ent} {sb ssz fb fsz pc gas : Nat} {Ts Tf : TypeId} {cs cf : Nat → Value} {K : YK} {w : YW} {s mem : List Nat} {M : List Ent} (hsz : 11 ≤ ssz) (hfz : 60 ≤ fsz) (hC : CsI I cs cf K w pc gas s) (hM : MemO (cf 9) mem M) (hret : cs 10 = .slice none 0 0) (h1 : ¬ s.length < 2) (hg : gas < costN K w s mem.length 85) :
    CallG Hvaf.prog 68 #[ptr sb 0, ptr fb 0, .int .u8 (85 : Nat)] ⟨I, ⟨sb, ssz, Ts, cs⟩ :: ⟨fb, fsz, Tf, cf⟩ :: G⟩ (RefP I (⟨sb, ssz, Ts, cs⟩ :: ⟨fb, fsz, Tf, cf⟩ :: G) 2 (costN K w s mem.length 85)) := by
  have har : ∀ S, CallG Hvaf.prog 147 #[.int .u8 (85 : Nat)] S fun r S' => S = S' ∧ r = .tuple #[.int .i64 (2 : Nat), .int .i64 (0 : Nat), .bool true] := fun S => yArity (S := S) (o := 85) (by decide)
  have hfs := hC.F.fs
  have hgas := hC.F.fgas
  obtain ⟨vss, hR, hvl, hel⟩ := hC.F.fstk.out
  obtain ⟨ad, cap, hc8⟩ := hR.form
  have hl := hC.F.fl
  obtain ⟨ad2, cap2, hc10, _⟩ := hC.F.fcode.form
  have hcode := hC.F.fcode
  rw [hc10] at hcode
  have hco := fun (I) (hC : CsI I cs cf K w pc gas s) => yCost (I := I) (o := 85) (G := G) (sb := sb) (fb := fb) (Ts := Ts) (Tf := Tf) (ssz := ssz) (by omega) hfz hC hM (by decide) (by decide)
  generalize costN K w s mem.length 85 = cst at *
  refine CallG.start (C := mkC Hvaf.prog) cok (args := [ptr sb 0, ptr fb 0, .int .u8 ((85 : Nat) : Int)]) Hvaf.func68 rfl Hvaf.ntmps68 (by simp) (by kernel_rfl) ?_
  repeat (first | refine SeqS.go cok ?_)
  refine (har _).mono ?_
  rintro r _ - ⟨rfl, rfl⟩
  repeat (first | (refine QuG.keep ?_; first | refine QuG.l1E cok 1 rfl rfl rfl rfl rfl (by first | exact Nat.le_of_ble_eq_true rfl | omega | (dsimp only; omega) | (simp only [addS_eq, mulS_eq]; omega)) (by assumption) ?_) | refine SeqS.go cok ?_ | refine GuardS.yes rfl ?_ | refine GuardS.no rfl ?_ | refine CondS.f rfl ?_ | (refine ValS.keep ?_; first | (with_reducible refine ValS.kI64 ?_; first | (with_reducible refine ValS.addI64 ?_ ?_ ; omega) | (with_reducible refine ValS.subI64 ?_ ?_ ?_ ; omega; omega))) | refine W.drawI 12 cok [0, 1, 3, 7, 15, 7, 63, 127, 7, 263, 775, 1799, 3847, 7943, 16383, 32767, 65535, 131071, 262143] [0, 1, 2, 3, 5, 8, 9, 10, 11, 12, 13, 4, 6, 7, 14, 15, 16, 17, 18] [11] (by kernel_rfl) (by kernel_rfl) ?_ | (refine CondS.keep ?_; first | refine CondS.d0 rfl (by omega) ?_))
  refine callN (hco _ hC) fun v J hs hv => ?_
  repeat (first | refine SeqS.go cok ?_ | (refine QuG.keep ?_; first | refine QuG.l1 cok 1 rfl rfl rfl rfl rfl (by first | exact Nat.le_of_ble_eq_true rfl | omega | (dsimp only; omega) | (simp only [addS_eq, mulS_eq]; omega)) ?_))
  refine (nCmpG hv (hgas.up hs) (by omega)).mono ?_
  rintro r _ - ⟨rfl, rfl⟩
  repeat (first | refine SeqS.go cok ?_ | refine CondS.t rfl ?_)
  exact Fin.same ⟨_, rfl, hs, rfl, by simp⟩
theorem yRef85b {I : Ent → Prop} {G : List Ent} {sb ssz fb fsz pc gas : Nat} {Ts Tf : TypeId} {cs cf : Nat → Value} {K : YK} {w : YW} {s mem : List Nat} {M : List Ent} (hsz : 11 ≤ ssz) (hfz : 60 ≤ fsz) (hC : CsI I cs cf K w pc gas s) (hM : MemO (cf 9) mem M) (hret : cs 10 = .slice none 0 0) (h1 : ¬ s.length < 2) (hg : ¬ gas < costN K w s mem.length 85) (hlow : gas ≤ 2300) :
    CallG Hvaf.prog 68 #[ptr sb 0, ptr fb 0, .int .u8 (85 : Nat)] ⟨I, ⟨sb, ssz, Ts, cs⟩ :: ⟨fb, fsz, Tf, cf⟩ :: G⟩ (RefP I (⟨sb, ssz, Ts, cs⟩ :: ⟨fb, fsz, Tf, cf⟩ :: G) 2 (costN K w s mem.length 85)) := by
  have har : ∀ S, CallG Hvaf.prog 147 #[.int .u8 (85 : Nat)] S fun r S' => S = S' ∧ r = .tuple #[.int .i64 (2 : Nat), .int .i64 (0 : Nat), .bool true] := fun S => yArity (S := S) (o := 85) (by decide)
  have hfs := hC.F.fs
  have hgas := hC.F.fgas
  obtain ⟨vss, hR, hvl, hel⟩ := hC.F.fstk.out
  obtain ⟨ad, cap, hc8⟩ := hR.form
  have hl := hC.F.fl
  obtain ⟨ad2, cap2, hc10, _⟩ := hC.F.fcode.form
  have hcode := hC.F.fcode
  rw [hc10] at hcode
  have hco := fun (I) (hC : CsI I cs cf K w pc gas s) => yCost (I := I) (o := 85) (G := G) (sb := sb) (fb := fb) (Ts := Ts) (Tf := Tf) (ssz := ssz) (by omega) hfz hC hM (by decide) (by decide)
  generalize costN K w s mem.length 85 = cst at *
  refine CallG.start (C := mkC Hvaf.prog) cok (args := [ptr sb 0, ptr fb 0, .int .u8 ((85 : Nat) : Int)]) Hvaf.func68 rfl Hvaf.ntmps68 (by simp) (by kernel_rfl) ?_
  repeat (first | refine SeqS.go cok ?_)
  refine (har _).mono ?_
  rintro r _ - ⟨rfl, rfl⟩
  repeat (first | (refine QuG.keep ?_; first | refine QuG.l1E cok 1 rfl rfl rfl rfl rfl (by first | exact Nat.le_of_ble_eq_true rfl | omega | (dsimp only; omega) | (simp only [addS_eq, mulS_eq]; omega)) (by assumption) ?_) | refine SeqS.go cok ?_ | refine GuardS.yes rfl ?_ | refine GuardS.no rfl ?_ | refine CondS.f rfl ?_ | (refine ValS.keep ?_; first | (with_reducible refine ValS.kI64 ?_; first | (with_reducible refine ValS.addI64 ?_ ?_ ; omega) | (with_reducible refine ValS.subI64 ?_ ?_ ?_ ; omega; omega))) | refine W.drawI 12 cok [0, 1, 3, 7, 15, 7, 63, 127, 7, 263, 775, 1799, 3847, 7943, 16383, 32767, 65535, 131071, 262143] [0, 1, 2, 3, 5, 8, 9, 10, 11, 12, 13, 4, 6, 7, 14, 15, 16, 17, 18] [11] (by kernel_rfl) (by kernel_rfl) ?_ | (refine CondS.keep ?_; first | refine CondS.d0 rfl (by omega) ?_))
  refine callN (hco _ hC) fun v J hs hv => ?_
  repeat (first | refine SeqS.go cok ?_ | (refine QuG.keep ?_; first | refine QuG.l1 cok 1 rfl rfl rfl rfl rfl (by first | exact Nat.le_of_ble_eq_true rfl | omega | (dsimp only; omega) | (simp only [addS_eq, mulS_eq]; omega)) ?_))
  refine (nCmpLe hv (hgas.up hs) (by omega)).mono ?_
  rintro r _ - ⟨rfl, z, hz, hz', rfl⟩
  repeat (first | refine SeqS.go cok ?_ | refine GuardS.yes rfl ?_ | (refine QuG.keep ?_; first | refine QuG.l1 cok 1 rfl rfl rfl rfl rfl (by first | exact Nat.le_of_ble_eq_true rfl | omega | (dsimp only; omega) | (simp only [addS_eq, mulS_eq]; omega)) ?_) | refine W.drawI 17 cok [0, 1, 3, 7, 15, 31, 63, 7, 255, 511, 1023, 2047] [0, 1, 2, 3, 4, 5, 6, 7, 8, 9, 10, 11] [6] (by kernel_rfl) (by kernel_rfl) ?_ | (refine CondS.keep ?_; first | refine CondS.d0 rfl (by omega) ?_))
  refine callN (yNum (n := 2300) (by decide)) fun q J2 hs2 hq => ?_
  repeat (first | refine GuardS.yes rfl ?_ | (refine still_in ?_; first | (refine still_keep (by decide) rfl ?_ ?_; first | exact QuV.l1 cok 1 rfl rfl rfl rfl rfl (by first | exact Nat.le_of_ble_eq_true rfl | omega | (dsimp only; omega) | (simp only [addS_eq, mulS_eq]; omega)) rfl)))
  refine (nCmpLe ((hgas.up hs).up hs2) hq hlow).mono ?_
  rintro r _ - ⟨rfl, z2, hz2, hz2', rfl⟩
  repeat (first | refine SeqS.go cok ?_ | refine GuardS.yes rfl ?_ | (refine still_in ?_; first | refine still_drop (by decide) ?_) | (refine CondS.keep ?_; first | refine CondS.d1 rfl (by omega) ?_))
  exact Fin.same ⟨_, rfl, hs.trans hs2, rfl, by simp⟩
theorem yRef85 {I : Ent → Prop} {G : List Ent} {sb ssz fb fsz pc gas : Nat} {Ts Tf : TypeId} {cs cf : Nat → Value} {K : YK} {w : YW} {s mem : List Nat} {M : List Ent} (hsz : 11 ≤ ssz) (hfz : 60 ≤ fsz) (hC : CsI I cs cf K w pc gas s) (hM : MemO (cf 9) mem M) (hret : cs 10 = .slice none 0 0) (h1 : ¬ s.length < 2) (hg : ¬ gas < costN K w s mem.length 85) (hlow : ¬ gas ≤ 2300) :
    CallG Hvaf.prog 68 #[ptr sb 0, ptr fb 0, .int .u8 (85 : Nat)] ⟨I, ⟨sb, ssz, Ts, cs⟩ :: ⟨fb, fsz, Tf, cf⟩ :: G⟩ (RefP I (⟨sb, ssz, Ts, cs⟩ :: ⟨fb, fsz, Tf, cf⟩ :: G) 0 (costN K w s mem.length 85)) := by
  have har : ∀ S, CallG Hvaf.prog 147 #[.int .u8 (85 : Nat)] S fun r S' => S = S' ∧ r = .tuple #[.int .i64 (2 : Nat), .int .i64 (0 : Nat), .bool true] := fun S => yArity (S := S) (o := 85) (by decide)
  have hfs := hC.F.fs
  have hgas := hC.F.fgas
  obtain ⟨vss, hR, hvl, hel⟩ := hC.F.fstk.out
  obtain ⟨ad, cap, hc8⟩ := hR.form
  have hl := hC.F.fl
  obtain ⟨ad2, cap2, hc10, _⟩ := hC.F.fcode.form
  have hcode := hC.F.fcode
  rw [hc10] at hcode
  have hco := fun (I) (hC : CsI I cs cf K w pc gas s) => yCost (I := I) (o := 85) (G := G) (sb := sb) (fb := fb) (Ts := Ts) (Tf := Tf) (ssz := ssz) (by omega) hfz hC hM (by decide) (by decide)
  generalize costN K w s mem.length 85 = cst at *
  refine CallG.start (C := mkC Hvaf.prog) cok (args := [ptr sb 0, ptr fb 0, .int .u8 ((85 : Nat) : Int)]) Hvaf.func68 rfl Hvaf.ntmps68 (by simp) (by kernel_rfl) ?_
  repeat (first | refine SeqS.go cok ?_)
  refine (har _).mono ?_
  rintro r _ - ⟨rfl, rfl⟩
  repeat (first | (refine QuG.keep ?_; first | refine QuG.l1E cok 1 rfl rfl rfl rfl rfl (by first | exact Nat.le_of_ble_eq_true rfl | omega | (dsimp only; omega) | (simp only [addS_eq, mulS_eq]; omega)) (by assumption) ?_) | refine SeqS.go cok ?_ | refine GuardS.yes rfl ?_ | refine GuardS.no rfl ?_ | refine CondS.f rfl ?_ | (refine ValS.keep ?_; first | (with_reducible refine ValS.kI64 ?_; first | (with_reducible refine ValS.addI64 ?_ ?_ ; omega) | (with_reducible refine ValS.subI64 ?_ ?_ ?_ ; omega; omega))) | refine W.drawI 12 cok [0, 1, 3, 7, 15, 7, 63, 127, 7, 263, 775, 1799, 3847, 7943, 16383, 32767, 65535, 131071, 262143] [0, 1, 2, 3, 5, 8, 9, 10, 11, 12, 13, 4, 6, 7, 14, 15, 16, 17, 18] [11] (by kernel_rfl) (by kernel_rfl) ?_ | (refine CondS.keep ?_; first | refine CondS.d0 rfl (by omega) ?_))
  refine callN (hco _ hC) fun v J hs hv => ?_
  repeat (first | refine SeqS.go cok ?_ | (refine QuG.keep ?_; first | refine QuG.l1 cok 1 rfl rfl rfl rfl rfl (by first | exact Nat.le_of_ble_eq_true rfl | omega | (dsimp only; omega) | (simp only [addS_eq, mulS_eq]; omega)) ?_))
  refine (nCmpLe hv (hgas.up hs) (by omega)).mono ?_
  rintro r _ - ⟨rfl, z, hz, hz', rfl⟩
  repeat (first | refine SeqS.go cok ?_ | refine GuardS.yes rfl ?_ | (refine QuG.keep ?_; first | refine QuG.l1 cok 1 rfl rfl rfl rfl rfl (by first | exact Nat.le_of_ble_eq_true rfl | omega | (dsimp only; omega) | (simp only [addS_eq, mulS_eq]; omega)) ?_) | refine W.drawI 17 cok [0, 1, 3, 7, 15, 31, 63, 7, 255, 511, 1023, 2047] [0, 1, 2, 3, 4, 5, 6, 7, 8, 9, 10, 11] [6] (by kernel_rfl) (by kernel_rfl) ?_ | (refine CondS.keep ?_; first | refine CondS.d0 rfl (by omega) ?_))
  refine callN (yNum (n := 2300) (by decide)) fun q J2 hs2 hq => ?_
  repeat (first | refine GuardS.yes rfl ?_ | (refine still_in ?_; first | (refine still_keep (by decide) rfl ?_ ?_; first | exact QuV.l1 cok 1 rfl rfl rfl rfl rfl (by first | exact Nat.le_of_ble_eq_true rfl | omega | (dsimp only; omega) | (simp only [addS_eq, mulS_eq]; omega)) rfl)))
  refine (nCmpG ((hgas.up hs).up hs2) hq (by omega)).mono ?_
  rintro r _ - ⟨rfl, rfl⟩
  repeat (first | refine SeqS.go cok ?_ | refine GuardS.yes rfl ?_ | refine GuardS.no rfl ?_ | refine CondS.f rfl ?_ | (refine still_in ?_; first | refine still_drop (by decide) ?_) | refine W.drawI 19 cok [0, 1, 3, 7, 15, 31, 63, 7, 135, 511, 1023, 2047, 4095] [0, 1, 2, 3, 4, 5, 6, 7, 8, 9, 10, 11, 12] [6] (by kernel_rfl) (by kernel_rfl) ?_ | refine W.drawI 21 cok [0, 1, 3, 7, 15, 31, 63, 127, 255, 511, 1023, 2047, 4095, 511, 8703, 32767, 65535, 131071, 262143] [0, 1, 2, 3, 4, 5, 6, 7, 8, 9, 10, 11, 12, 13, 14, 15, 16, 17, 18] [12] (by kernel_rfl) (by kernel_rfl) ?_)
  exact Fin.same ⟨_, rfl, hs.trans hs2, rfl, fun _ => hv.up hs2⟩
theorem yRef86g {I : Ent → Prop} {G : List Ent} {sb ssz fb fsz pc gas : Nat} {Ts Tf : TypeId} {cs cf : Nat → Value} {K : YK} {w : YW} {s mem : List Nat} {M : List Ent} (hsz : 11 ≤ ssz) (hfz : 60 ≤ fsz) (hC : CsI I cs cf K w pc gas s) (hM : MemO (cf 9) mem M) (hret : cs 10 = .slice none 0 0) (h1 : ¬ s.length < 1) (hg : gas < costN K w s mem.length 86) :
    CallG Hvaf.prog 68 #[ptr sb 0, ptr fb 0, .int .u8 (86 : Nat)] ⟨I, ⟨sb, ssz, Ts, cs⟩ :: ⟨fb, fsz, Tf, cf⟩ :: G⟩ (RefP I (⟨sb, ssz, Ts, cs⟩ :: ⟨fb, fsz, Tf, cf⟩ :: G) 2 (costN K w s mem.length 86)) := by
  have har : ∀ S, CallG Hvaf.prog 147 #[.int .u8 (86 : Nat)] S fun r S' => S = S' ∧ r = .tuple #[.int .i64 (1 : Nat), .int .i64 (0 : Nat), .bool true] := fun S => yArity (S := S) (o := 86) (by decide)
  have hfs := hC.F.fs
  have hgas := hC.F.fgas
  obtain ⟨vss, hR, hvl, hel⟩ := hC.F.fstk.out
  obtain ⟨ad, cap, hc8⟩ := hR.form
  have hl := hC.F.fl
  obtain ⟨ad2, cap2, hc10, _⟩ := hC.F.fcode.form
  have hcode := hC.F.fcode
  rw [hc10] at hcode
  have hco := fun (I) (hC : CsI I cs cf K w pc gas s) => yCost (I := I) (o := 86) (G := G) (sb := sb) (fb := fb) (Ts := Ts) (Tf := Tf) (ssz := ssz) (by omega) hfz hC hM (by decide) (by decide)
  generalize costN K w s mem.length 86 = cst at *
  refine CallG.start (C := mkC Hvaf.prog) cok (args := [ptr sb 0, ptr fb 0, .int .u8 ((86 : Nat) : Int)]) Hvaf.func68 rfl Hvaf.ntmps68 (by simp) (by kernel_rfl) ?_
  repeat (first | refine SeqS.go cok ?_)
  refine (har _).mono ?_
  rintro r _ - ⟨rfl, rfl⟩
  repeat (first | (refine QuG.keep ?_; first | refine QuG.l1E cok 1 rfl rfl rfl rfl rfl (by first | exact Nat.le_of_ble_eq_true rfl | omega | (dsimp only; omega) | (simp only [addS_eq, mulS_eq]; omega)) (by assumption) ?_) | refine SeqS.go cok ?_ | refine GuardS.yes rfl ?_ | refine GuardS.no rfl ?_ | refine CondS.f rfl ?_ | (refine ValS.keep ?_; first | (with_reducible refine ValS.kI64 ?_; first | (with_reducible refine ValS.addI64 ?_ ?_ ; omega) | (with_reducible refine ValS.subI64 ?_ ?_ ?_ ; omega; omega))) | refine W.drawI 12 cok [0, 1, 3, 7, 15, 7, 63, 127, 7, 263, 775, 1799, 3847, 7943, 16383, 32767, 65535, 131071, 262143] [0, 1, 2, 3, 5, 8, 9, 10, 11, 12, 13, 4, 6, 7, 14, 15, 16, 17, 18] [11] (by kernel_rfl) (by kernel_rfl) ?_ | (refine CondS.keep ?_; first | refine CondS.d0 rfl (by omega) ?_))
  refine callN (hco _ hC) fun v J hs hv => ?_
  repeat (first | refine SeqS.go cok ?_ | (refine QuG.keep ?_; first | refine QuG.l1 cok 1 rfl rfl rfl rfl rfl (by first | exact Nat.le_of_ble_eq_true rfl | omega | (dsimp only; omega) | (simp only [addS_eq, mulS_eq]; omega)) ?_))
  refine (nCmpG hv (hgas.up hs) (by omega)).mono ?_
  rintro r _ - ⟨rfl, rfl⟩
  repeat (first | refine SeqS.go cok ?_ | refine CondS.t rfl ?_)
  exact Fin.same ⟨_, rfl, hs, rfl, by simp⟩
theorem yRef86b {I : Ent → Prop} {G : List Ent} {sb ssz fb fsz pc gas : Nat} {Ts Tf : TypeId} {cs cf : Nat → Value} {K : YK} {w : YW} {s mem : List Nat} {M : List Ent} (hsz : 11 ≤ ssz) (hfz : 60 ≤ fsz) (hC : CsI I cs cf K w pc gas s) (hM : MemO (cf 9) mem M) (hret : cs 10 = .slice none 0 0) (h1 : ¬ s.length < 1) (hg : ¬ gas < costN K w s mem.length 86) (hd : destN K.code (argN s 0) = false) :
    CallG Hvaf.prog 68 #[ptr sb 0, ptr fb 0, .int .u8 (86 : Nat)] ⟨I, ⟨sb, ssz, Ts, cs⟩ :: ⟨fb, fsz, Tf, cf⟩ :: G⟩ (RefP I (⟨sb, ssz, Ts, cs⟩ :: ⟨fb, fsz, Tf, cf⟩ :: G) 6 (costN K w s mem.length 86)) := by
  have har : ∀ S, CallG Hvaf.prog 147 #[.int .u8 (86 : Nat)] S fun r S' => S = S' ∧ r = .tuple #[.int .i64 (1 : Nat), .int .i64 (0 : Nat), .bool true] := fun S => yArity (S := S) (o := 86) (by decide)
  have hfs := hC.F.fs
  have hgas := hC.F.fgas
  obtain ⟨vss, hR, hvl, hel⟩ := hC.F.fstk.out
  obtain ⟨ad, cap, hc8⟩ := hR.form
  have hl := hC.F.fl
  obtain ⟨ad2, cap2, hc10, _⟩ := hC.F.fcode.form
  have hcode := hC.F.fcode
  rw [hc10] at hcode
  have hco := fun (I) (hC : CsI I cs cf K w pc gas s) => yCost (I := I) (o := 86) (G := G) (sb := sb) (fb := fb) (Ts := Ts) (Tf := Tf) (ssz := ssz) (by omega) hfz hC hM (by decide) (by decide)
  generalize costN K w s mem.length 86 = cst at *
  refine CallG.start (C := mkC Hvaf.prog) cok (args := [ptr sb 0, ptr fb 0, .int .u8 ((86 : Nat) : Int)]) Hvaf.func68 rfl Hvaf.ntmps68 (by simp) (by kernel_rfl) ?_
  repeat (first | refine SeqS.go cok ?_)
  refine (har _).mono ?_
  rintro r _ - ⟨rfl, rfl⟩
  repeat (first | (refine QuG.keep ?_; first | refine QuG.l1E cok 1 rfl rfl rfl rfl rfl (by first | exact Nat.le_of_ble_eq_true rfl | omega | (dsimp only; omega) | (simp only [addS_eq, mulS_eq]; omega)) (by assumption) ?_) | refine SeqS.go cok ?_ | refine GuardS.yes rfl ?_ | refine GuardS.no rfl ?_ | refine CondS.f rfl ?_ | (refine ValS.keep ?_; first | (with_reducible refine ValS.kI64 ?_; first | (with_reducible refine ValS.addI64 ?_ ?_ ; omega) | (with_reducible refine ValS.subI64 ?_ ?_ ?_ ; omega; omega))) | refine W.drawI 12 cok [0, 1, 3, 7, 15, 7, 63, 127, 7, 263, 775, 1799, 3847, 7943, 16383, 32767, 65535, 131071, 262143] [0, 1, 2, 3, 5, 8, 9, 10, 11, 12, 13, 4, 6, 7, 14, 15, 16, 17, 18] [11] (by kernel_rfl) (by kernel_rfl) ?_ | (refine CondS.keep ?_; first | refine CondS.d0 rfl (by omega) ?_))
  refine callN (hco _ hC) fun v J hs hv => ?_
  repeat (first | refine SeqS.go cok ?_ | (refine QuG.keep ?_; first | refine QuG.l1 cok 1 rfl rfl rfl rfl rfl (by first | exact Nat.le_of_ble_eq_true rfl | omega | (dsimp only; omega) | (simp only [addS_eq, mulS_eq]; omega)) ?_))
  refine (nCmpLe hv (hgas.up hs) (by omega)).mono ?_
  rintro r _ - ⟨rfl, z, hz, hz', rfl⟩
  repeat (first | (refine QuG.keep ?_; first | refine QuG.l1E cok 1 rfl rfl rfl rfl rfl (by first | exact Nat.le_of_ble_eq_true rfl | omega | (dsimp only; omega) | (simp only [addS_eq, mulS_eq]; omega)) (by assumption) ?_) | refine SeqS.go cok ?_ | refine GuardS.yes rfl ?_ | refine GuardS.no rfl ?_ | refine CondS.f rfl ?_ | refine W.drawI 17 cok [0, 1, 3, 7, 15, 31, 63, 7, 255, 511, 1023, 2047] [0, 1, 2, 3, 4, 5, 6, 7, 8, 9, 10, 11] [6] (by kernel_rfl) (by kernel_rfl) ?_ | refine W.drawI 19 cok [0, 1, 3, 7, 15, 31, 63, 7, 135, 511, 1023, 2047, 4095] [0, 1, 2, 3, 4, 5, 6, 7, 8, 9, 10, 11, 12] [6] (by kernel_rfl) (by kernel_rfl) ?_ | (refine CondS.keep ?_; first | refine CondS.d0 rfl (by omega) ?_))
  refine CallG.focus 1 rfl ?_
  refine (yArgF (i := 0) hfz (hC.F.up hs) (by decide)).mono ?_
  rintro u _ - ⟨rfl, hu⟩
  repeat (first | refine GuardS.yes rfl ?_ | (refine still_in ?_; first | (refine still_keep (by decide) rfl ?_ ?_; first | exact QuV.l1 cok 0 rfl rfl rfl rfl rfl (by first | exact Nat.le_of_ble_eq_true rfl | omega | (dsimp only; omega) | (simp only [addS_eq, mulS_eq]; omega)) (by assumption))))
  refine (yIsDest (hcode.mono hs (by simp)) hu (by have := hC.KB.code; omega)).mono ?_
  rintro r ⟨J3, G3⟩ hs3 ⟨h31, h32⟩
  replace hs3 : HL.Sub _ J3 := hs3
  dsimp only at h31
  rw [hd] at h32
  subst h31 h32
  repeat (first | refine SeqS.go cok ?_ | refine GuardS.yes rfl ?_ | refine CondS.t rfl ?_ | (refine still_in ?_; first | refine still_drop (by decide) ?_))
  exact Fin.focus 1 rfl (Fin.same ⟨_, rfl, hs.trans hs3, rfl, by simp⟩)
theorem yRef86 {I : Ent → Prop} {G : List Ent} {sb ssz fb fsz pc gas : Nat} {Ts Tf : TypeId} {cs cf : Nat → Value} {K : YK} {w : YW} {s mem : List Nat} {M : List Ent} (hsz : 11 ≤ ssz) (hfz : 60 ≤ fsz) (hC : CsI I cs cf K w pc gas s) (hM : MemO (cf 9) mem M) (hret : cs 10 = .slice none 0 0) (h1 : ¬ s.length < 1) (hg : ¬ gas < costN K w s mem.length 86) (hd : destN K.code (argN s 0) = true) :
    CallG Hvaf.prog 68 #[ptr sb 0, ptr fb 0, .int .u8 (86 : Nat)] ⟨I, ⟨sb, ssz, Ts, cs⟩ :: ⟨fb, fsz, Tf, cf⟩ :: G⟩ (RefP I (⟨sb, ssz, Ts, cs⟩ :: ⟨fb, fsz, Tf, cf⟩ :: G) 0 (costN K w s mem.length 86)) := by
  have har : ∀ S, CallG Hvaf.prog 147 #[.int .u8 (86 : Nat)] S fun r S' => S = S' ∧ r = .tuple #[.int .i64 (1 : Nat), .int .i64 (0 : Nat), .bool true] := fun S => yArity (S := S) (o := 86) (by decide)
  have hfs := hC.F.fs
  have hgas := hC.F.fgas
  obtain ⟨vss, hR, hvl, hel⟩ := hC.F.fstk.out
  obtain ⟨ad, cap, hc8⟩ := hR.form
  have hl := hC.F.fl
  obtain ⟨ad2, cap2, hc10, _⟩ := hC.F.fcode.form
  have hcode := hC.F.fcode
  rw [hc10] at hcode
  have hco := fun (I) (hC : CsI I cs cf K w pc gas s) => yCost (I := I) (o := 86) (G := G) (sb := sb) (fb := fb) (Ts := Ts) (Tf := Tf) (ssz := ssz) (by omega) hfz hC hM (by decide) (by decide)
  generalize costN K w s mem.length 86 = cst at *
  refine CallG.start (C := mkC Hvaf.prog) cok (args := [ptr sb 0, ptr fb 0, .int .u8 ((86 : Nat) : Int)]) Hvaf.func68 rfl Hvaf.ntmps68 (by simp) (by kernel_rfl) ?_
  repeat (first | refine SeqS.go cok ?_)
  refine (har _).mono ?_
  rintro r _ - ⟨rfl, rfl⟩
  repeat (first | (refine QuG.keep ?_; first | refine QuG.l1E cok 1 rfl rfl rfl rfl rfl (by first | exact Nat.le_of_ble_eq_true rfl | omega | (dsimp only; omega) | (simp only [addS_eq, mulS_eq]; omega)) (by assumption) ?_) | refine SeqS.go cok ?_ | refine GuardS.yes rfl ?_ | refine GuardS.no rfl ?_ | refine CondS.f rfl ?_ | (refine ValS.keep ?_; first | (with_reducible refine ValS.kI64 ?_; first | (with_reducible refine ValS.addI64 ?_ ?_ ; omega) | (with_reducible refine ValS.subI64 ?_ ?_ ?_ ; omega; omega))) | refine W.drawI 12 cok [0, 1, 3, 7, 15, 7, 63, 127, 7, 263, 775, 1799, 3847, 7943, 16383, 32767, 65535, 131071, 262143] [0, 1, 2, 3, 5, 8, 9, 10, 11, 12, 13, 4, 6, 7, 14, 15, 16, 17, 18] [11] (by kernel_rfl) (by kernel_rfl) ?_ | (refine CondS.keep ?_; first | refine CondS.d0 rfl (by omega) ?_))
  refine callN (hco _ hC) fun v J hs hv => ?_
  repeat (first | refine SeqS.go cok ?_ | (refine QuG.keep ?_; first | refine QuG.l1 cok 1 rfl rfl rfl rfl rfl (by first | exact Nat.le_of_ble_eq_true rfl | omega | (dsimp only; omega) | (simp only [addS_eq, mulS_eq]; omega)) ?_))
  refine (nCmpLe hv (hgas.up hs) (by omega)).mono ?_
  rintro r _ - ⟨rfl, z, hz, hz', rfl⟩
  repeat (first | (refine QuG.keep ?_; first | refine QuG.l1E cok 1 rfl rfl rfl rfl rfl (by first | exact Nat.le_of_ble_eq_true rfl | omega | (dsimp only; omega) | (simp only [addS_eq, mulS_eq]; omega)) (by assumption) ?_) | refine SeqS.go cok ?_ | refine GuardS.yes rfl ?_ | refine GuardS.no rfl ?_ | refine CondS.f rfl ?_ | refine W.drawI 17 cok [0, 1, 3, 7, 15, 31, 63, 7, 255, 511, 1023, 2047] [0, 1, 2, 3, 4, 5, 6, 7, 8, 9, 10, 11] [6] (by kernel_rfl) (by kernel_rfl) ?_ | refine W.drawI 19 cok [0, 1, 3, 7, 15, 31, 63, 7, 135, 511, 1023, 2047, 4095] [0, 1, 2, 3, 4, 5, 6, 7, 8, 9, 10, 11, 12] [6] (by kernel_rfl) (by kernel_rfl) ?_ | (refine CondS.keep ?_; first | refine CondS.d0 rfl (by omega) ?_))
  refine CallG.focus 1 rfl ?_
  refine (yArgF (i := 0) hfz (hC.F.up hs) (by decide)).mono ?_
  rintro u _ - ⟨rfl, hu⟩
  repeat (first | refine GuardS.yes rfl ?_ | (refine still_in ?_; first | (refine still_keep (by decide) rfl ?_ ?_; first | exact QuV.l1 cok 0 rfl rfl rfl rfl rfl (by first | exact Nat.le_of_ble_eq_true rfl | omega | (dsimp only; omega) | (simp only [addS_eq, mulS_eq]; omega)) (by assumption))))
  refine (yIsDest (hcode.mono hs (by simp)) hu (by have := hC.KB.code; omega)).mono ?_
  rintro r ⟨J3, G3⟩ hs3 ⟨h31, h32⟩
  replace hs3 : HL.Sub _ J3 := hs3
  dsimp only at h31
  rw [hd] at h32
  subst h31 h32
  repeat (first | refine SeqS.go cok ?_ | refine GuardS.yes rfl ?_ | refine GuardS.no rfl ?_ | refine CondS.f rfl ?_ | (refine still_in ?_; first | refine still_drop (by decide) ?_) | refine W.drawI 21 cok [0, 1, 3, 7, 15, 31, 63, 127, 255, 511, 1023, 2047, 4095, 511, 8703, 32767, 65535, 131071, 262143] [0, 1, 2, 3, 4, 5, 6, 7, 8, 9, 10, 11, 12, 13, 14, 15, 16, 17, 18] [12] (by kernel_rfl) (by kernel_rfl) ?_)
  exact Fin.focus 1 rfl (Fin.same ⟨_, rfl, hs.trans hs3, rfl, fun _ => hv.up hs3⟩)
theorem yRef87g {I : Ent → Prop} {G : List Ent} {sb ssz fb fsz pc gas : Nat} {Ts Tf : TypeId} {cs cf : Nat → Value} {K : YK} {w : YW} {s mem : List Nat} {M : List Ent} (hsz : 11 ≤ ssz) (hfz : 60 ≤ fsz) (hC : CsI I cs cf K w pc gas s) (hM : MemO (cf 9) mem M) (hret : cs 10 = .slice none 0 0) (h1 : ¬ s.length < 2) (hg : gas < costN K w s mem.length 87) :
    CallG Hvaf.prog 68 #[ptr sb 0, ptr fb 0, .int .u8 (87 : Nat)] ⟨I, ⟨sb, ssz, Ts, cs⟩ :: ⟨fb, fsz, Tf, cf⟩ :: G⟩ (RefP I (⟨sb, ssz, Ts, cs⟩ :: ⟨fb, fsz, Tf, cf⟩ :: G) 2 (costN K w s mem.length 87)) := by
  have har : ∀ S, CallG Hvaf.prog 147 #[.int .u8 (87 : Nat)] S fun r S' => S = S' ∧ r = .tuple #[.int .i64 (2 : Nat), .int .i64 (0 : Nat), .bool true] := fun S => yArity (S := S) (o := 87) (by decide)
  have hfs := hC.F.fs
  have hgas := hC.F.fgas
  obtain ⟨vss, hR, hvl, hel⟩ := hC.F.fstk.out
  obtain ⟨ad, cap, hc8⟩ := hR.form
  have hl := hC.F.fl
  obtain ⟨ad2, cap2, hc10, _⟩ := hC.F.fcode.form
  have hcode := hC.F.fcode
  rw [hc10] at hcode
  have hco := fun (I) (hC : CsI I cs cf K w pc gas s) => yCost (I := I) (o := 87) (G := G) (sb := sb) (fb := fb) (Ts := Ts) (Tf := Tf) (ssz := ssz) (by omega) hfz hC hM (by decide) (by decide)
  generalize costN K w s mem.length 87 = cst at *
  refine CallG.start (C := mkC Hvaf.prog) cok (args := [ptr sb 0, ptr fb 0, .int .u8 ((87 : Nat) : Int)]) Hvaf.func68 rfl Hvaf.ntmps68 (by simp) (by kernel_rfl) ?_
  repeat (first | refine SeqS.go cok ?_)
  refine (har _).mono ?_
  rintro r _ - ⟨rfl, rfl⟩
  repeat (first | (refine QuG.keep ?_; first | refine QuG.l1E cok 1 rfl rfl rfl rfl rfl (by first | exact Nat.le_of_ble_eq_true rfl | omega | (dsimp only; omega) | (simp only [addS_eq, mulS_eq]; omega)) (by assumption) ?_) | refine SeqS.go cok ?_ | refine GuardS.yes rfl ?_ | refine GuardS.no rfl ?_ | refine CondS.f rfl ?_ | (refine ValS.keep ?_; first | (with_reducible refine ValS.kI64 ?_; first | (with_reducible refine ValS.addI64 ?_ ?_ ; omega) | (with_reducible refine ValS.subI64 ?_ ?_ ?_ ; omega; omega))) | refine W.drawI 12 cok [0, 1, 3, 7, 15, 7, 63, 127, 7, 263, 775, 1799, 3847, 7943, 16383, 32767, 65535, 131071, 262143] [0, 1, 2, 3, 5, 8, 9, 10, 11, 12, 13, 4, 6, 7, 14, 15, 16, 17, 18] [11] (by kernel_rfl) (by kernel_rfl) ?_ | (refine CondS.keep ?_; first | refine CondS.d0 rfl (by omega) ?_))
  refine callN (hco _ hC) fun v J hs hv => ?_
  repeat (first | refine SeqS.go cok ?_ | (refine QuG.keep ?_; first | refine QuG.l1 cok 1 rfl rfl rfl rfl rfl (by first | exact Nat.le_of_ble_eq_true rfl | omega | (dsimp only; omega) | (simp only [addS_eq, mulS_eq]; omega)) ?_))
  refine (nCmpG hv (hgas.up hs) (by omega)).mono ?_
  rintro r _ - ⟨rfl, rfl⟩
  repeat (first | refine SeqS.go cok ?_ | refine CondS.t rfl ?_)
  exact Fin.same ⟨_, rfl, hs, rfl, by simp⟩
theorem yRef87z {I : Ent → Prop} {G : List Ent} {sb ssz fb fsz pc gas : Nat} {Ts Tf : TypeId} {cs cf : Nat → Value} {K : YK} {w : YW} {s mem : List Nat} {M : List Ent} (hsz : 11 ≤ ssz) (hfz : 60 ≤ fsz) (hC : CsI I cs cf K w pc gas s) (hM : MemO (cf 9) mem M) (hret : cs 10 = .slice none 0 0) (h1 : ¬ s.length < 2) (hg : ¬ gas < costN K w s mem.length 87) (hz0 : argN s 1 = 0) :
    CallG Hvaf.prog 68 #[ptr sb 0, ptr fb 0, .int .u8 (87 : Nat)] ⟨I, ⟨sb, ssz, Ts, cs⟩ :: ⟨fb, fsz, Tf, cf⟩ :: G⟩ (RefP I (⟨sb, ssz, Ts, cs⟩ :: ⟨fb, fsz, Tf, cf⟩ :: G) 0 (costN K w s mem.length 87)) := by
  have har : ∀ S, CallG Hvaf.prog 147 #[.int .u8 (87 : Nat)] S fun r S' => S = S' ∧ r = .tuple #[.int .i64 (2 : Nat), .int .i64 (0 : Nat), .bool true] := fun S => yArity (S := S) (o := 87) (by decide)
  have hfs := hC.F.fs
  have hgas := hC.F.fgas
  obtain ⟨vss, hR, hvl, hel⟩ := hC.F.fstk.out
  obtain ⟨ad, cap, hc8⟩ := hR.form
  have hl := hC.F.fl
  obtain ⟨ad2, cap2, hc10, _⟩ := hC.F.fcode.form
  have hcode := hC.F.fcode
  rw [hc10] at hcode
  have hco := fun (I) (hC : CsI I cs cf K w pc gas s) => yCost (I := I) (o := 87) (G := G) (sb := sb) (fb := fb) (Ts := Ts) (Tf := Tf) (ssz := ssz) (by omega) hfz hC hM (by decide) (by decide)
  generalize costN K w s mem.length 87 = cst at *
  refine CallG.start (C := mkC Hvaf.prog) cok (args := [ptr sb 0, ptr fb 0, .int .u8 ((87 : Nat) : Int)]) Hvaf.func68 rfl Hvaf.ntmps68 (by simp) (by kernel_rfl) ?_
  repeat (first | refine SeqS.go cok ?_)
  refine (har _).mono ?_
  rintro r _ - ⟨rfl, rfl⟩
  repeat (first | (refine QuG.keep ?_; first | refine QuG.l1E cok 1 rfl rfl rfl rfl rfl (by first | exact Nat.le_of_ble_eq_true rfl | omega | (dsimp only; omega) | (simp only [addS_eq, mulS_eq]; omega)) (by assumption) ?_) | refine SeqS.go cok ?_ | refine GuardS.yes rfl ?_ | refine GuardS.no rfl ?_ | refine CondS.f rfl ?_ | (refine ValS.keep ?_; first | (with_reducible refine ValS.kI64 ?_; first | (with_reducible refine ValS.addI64 ?_ ?_ ; omega) | (with_reducible refine ValS.subI64 ?_ ?_ ?_ ; omega; omega))) | refine W.drawI 12 cok [0, 1, 3, 7, 15, 7, 63, 127, 7, 263, 775, 1799, 3847, 7943, 16383, 32767, 65535, 131071, 262143] [0, 1, 2, 3, 5, 8, 9, 10, 11, 12, 13, 4, 6, 7, 14, 15, 16, 17, 18] [11] (by kernel_rfl) (by kernel_rfl) ?_ | (refine CondS.keep ?_; first | refine CondS.d0 rfl (by omega) ?_))
  refine callN (hco _ hC) fun v J hs hv => ?_
  repeat (first | refine SeqS.go cok ?_ | (refine QuG.keep ?_; first | refine QuG.l1 cok 1 rfl rfl rfl rfl rfl (by first | exact Nat.le_of_ble_eq_true rfl | omega | (dsimp only; omega) | (simp only [addS_eq, mulS_eq]; omega)) ?_))
  refine (nCmpLe hv (hgas.up hs) (by omega)).mono ?_
  rintro r _ - ⟨rfl, z, hz, hz', rfl⟩
  repeat (first | refine SeqS.go cok ?_ | refine GuardS.yes rfl ?_ | refine GuardS.no rfl ?_ | refine CondS.f rfl ?_ | refine W.drawI 17 cok [0, 1, 3, 7, 15, 31, 63, 7, 255, 511, 1023, 2047] [0, 1, 2, 3, 4, 5, 6, 7, 8, 9, 10, 11] [6] (by kernel_rfl) (by kernel_rfl) ?_ | refine W.drawI 19 cok [0, 1, 3, 7, 15, 31, 63, 7, 135, 511, 1023, 2047, 4095] [0, 1, 2, 3, 4, 5, 6, 7, 8, 9, 10, 11, 12] [6] (by kernel_rfl) (by kernel_rfl) ?_ | refine W.drawI 21 cok [0, 1, 3, 7, 15, 31, 63, 127, 255, 511, 1023, 2047, 4095, 511, 8703, 32767, 65535, 131071, 262143] [0, 1, 2, 3, 4, 5, 6, 7, 8, 9, 10, 11, 12, 13, 14, 15, 16, 17, 18] [12] (by kernel_rfl) (by kernel_rfl) ?_ | (refine CondS.keep ?_; first | refine CondS.d0 rfl (by omega) ?_))
  refine CallG.focus 1 rfl ?_
  refine (yArgF (i := 1) hfz (hC.F.up hs) (by decide)).mono ?_
  rintro x _ - ⟨rfl, hx⟩
  repeat (first | refine GuardS.yes rfl ?_)
  refine (zT hx hz0).mono ?_
  rintro r _ - ⟨rfl, rfl⟩
  repeat (first | refine SeqS.go cok ?_ | refine GuardS.yes rfl ?_ | refine GuardS.no rfl ?_ | refine CondS.f rfl ?_)
  exact Fin.focus 1 rfl (Fin.same ⟨_, rfl, hs, rfl, fun _ => hv⟩)
theorem yRef87b {I : Ent → Prop} {G : List Ent} {sb ssz fb fsz pc gas : Nat} {Ts Tf : TypeId} {cs cf : Nat → Value} {K : YK} {w : YW} {s mem : List Nat} {M : List Ent} (hsz : 11 ≤ ssz) (hfz : 60 ≤ fsz) (hC : CsI I cs cf K w pc gas s) (hM : MemO (cf 9) mem M) (hret : cs 10 = .slice none 0 0) (h1 : ¬ s.length < 2) (hg : ¬ gas < costN K w s mem.length 87) (hz0 : argN s 1 ≠ 0) (hd : destN K.code (argN s 0) = false) :
    CallG Hvaf.prog 68 #[ptr sb 0, ptr fb 0, .int .u8 (87 : Nat)] ⟨I, ⟨sb, ssz, Ts, cs⟩ :: ⟨fb, fsz, Tf, cf⟩ :: G⟩ (RefP I (⟨sb, ssz, Ts, cs⟩ :: ⟨fb, fsz, Tf, cf⟩ :: G) 6 (costN K w s mem.length 87)) := by
  have har : ∀ S, CallG Hvaf.prog 147 #[.int .u8 (87 : Nat)] S fun r S' => S = S' ∧ r = .tuple #[.int .i64 (2 : Nat), .int .i64 (0 : Nat), .bool true] := fun S => yArity (S := S) (o := 87) (by decide)
  have hfs := hC.F.fs
  have hgas := hC.F.fgas
  obtain ⟨vss, hR, hvl, hel⟩ := hC.F.fstk.out
  obtain ⟨ad, cap, hc8⟩ := hR.form
  have hl := hC.F.fl
  obtain ⟨ad2, cap2, hc10, _⟩ := hC.F.fcode.form
  have hcode := hC.F.fcode
  rw [hc10] at hcode
  have hco := fun (I) (hC : CsI I cs cf K w pc gas s) => yCost (I := I) (o := 87) (G := G) (sb := sb) (fb := fb) (Ts := Ts) (Tf := Tf) (ssz := ssz) (by omega) hfz hC hM (by decide) (by decide)
  generalize costN K w s mem.length 87 = cst at *
  refine CallG.start (C := mkC Hvaf.prog) cok (args := [ptr sb 0, ptr fb 0, .int .u8 ((87 : Nat) : Int)]) Hvaf.func68 rfl Hvaf.ntmps68 (by simp) (by kernel_rfl) ?_
  repeat (first | refine SeqS.go cok ?_)
  refine (har _).mono ?_
  rintro r _ - ⟨rfl, rfl⟩
  repeat (first | (refine QuG.keep ?_; first | refine QuG.l1E cok 1 rfl rfl rfl rfl rfl (by first | exact Nat.le_of_ble_eq_true rfl | omega | (dsimp only; omega) | (simp only [addS_eq, mulS_eq]; omega)) (by assumption) ?_) | refine SeqS.go cok ?_ | refine GuardS.yes rfl ?_ | refine GuardS.no rfl ?_ | refine CondS.f rfl ?_ | (refine ValS.keep ?_; first | (with_reducible refine ValS.kI64 ?_; first | (with_reducible refine ValS.addI64 ?_ ?_ ; omega) | (with_reducible refine ValS.subI64 ?_ ?_ ?_ ; omega; omega))) | refine W.drawI 12 cok [0, 1, 3, 7, 15, 7, 63, 127, 7, 263, 775, 1799, 3847, 7943, 16383, 32767, 65535, 131071, 262143] [0, 1, 2, 3, 5, 8, 9, 10, 11, 12, 13, 4, 6, 7, 14, 15, 16, 17, 18] [11] (by kernel_rfl) (by kernel_rfl) ?_ | (refine CondS.keep ?_; first | refine CondS.d0 rfl (by omega) ?_))
  refine callN (hco _ hC) fun v J hs hv => ?_
  repeat (first | refine SeqS.go cok ?_ | (refine QuG.keep ?_; first | refine QuG.l1 cok 1 rfl rfl rfl rfl rfl (by first | exact Nat.le_of_ble_eq_true rfl | omega | (dsimp only; omega) | (simp only [addS_eq, mulS_eq]; omega)) ?_))
  refine (nCmpLe hv (hgas.up hs) (by omega)).mono ?_
  rintro r _ - ⟨rfl, z, hz, hz', rfl⟩
  repeat (first | refine SeqS.go cok ?_ | refine GuardS.yes rfl ?_ | refine GuardS.no rfl ?_ | refine CondS.f rfl ?_ | refine W.drawI 17 cok [0, 1, 3, 7, 15, 31, 63, 7, 255, 511, 1023, 2047] [0, 1, 2, 3, 4, 5, 6, 7, 8, 9, 10, 11] [6] (by kernel_rfl) (by kernel_rfl) ?_ | refine W.drawI 19 cok [0, 1, 3, 7, 15, 31, 63, 7, 135, 511, 1023, 2047, 4095] [0, 1, 2, 3, 4, 5, 6, 7, 8, 9, 10, 11, 12] [6] (by kernel_rfl) (by kernel_rfl) ?_ | refine W.drawI 21 cok [0, 1, 3, 7, 15, 31, 63, 127, 255, 511, 1023, 2047, 4095, 511, 8703, 32767, 65535, 131071, 262143] [0, 1, 2, 3, 4, 5, 6, 7, 8, 9, 10, 11, 12, 13, 14, 15, 16, 17, 18] [12] (by kernel_rfl) (by kernel_rfl) ?_ | (refine CondS.keep ?_; first | refine CondS.d0 rfl (by omega) ?_))
  refine CallG.focus 1 rfl ?_
  refine (yArgF (i := 1) hfz (hC.F.up hs) (by decide)).mono ?_
  rintro x _ - ⟨rfl, hx⟩
  repeat (first | refine GuardS.yes rfl ?_)
  refine (zF hx hz0).mono ?_
  rintro r _ - ⟨rfl, rfl⟩
  repeat (first | (refine QuG.keep ?_; first | refine QuG.l1E cok 0 rfl rfl rfl rfl rfl (by first | exact Nat.le_of_ble_eq_true rfl | omega | (dsimp only; omega) | (simp only [addS_eq, mulS_eq]; omega)) (by assumption) ?_) | refine GuardS.yes rfl ?_)
  refine CallG.focus 0 rfl ?_
  refine (yArgF (i := 0) hfz (hC.F.up hs) (by decide)).mono ?_
  rintro u _ - ⟨rfl, hu⟩
  repeat (first | refine GuardS.yes rfl ?_ | (refine still_in ?_; first | (refine still_keep (by decide) rfl ?_ ?_; first | exact QuV.l1 cok 0 rfl rfl rfl rfl rfl (by first | exact Nat.le_of_ble_eq_true rfl | omega | (dsimp only; omega) | (simp only [addS_eq, mulS_eq]; omega)) (by assumption))))
  refine (yIsDest (hcode.mono hs (by simp)) hu (by have := hC.KB.code; omega)).mono ?_
  rintro r ⟨J3, G3⟩ hs3 ⟨h31, h32⟩
  replace hs3 : HL.Sub _ J3 := hs3
  dsimp only at h31
  rw [hd] at h32
  subst h31 h32
  repeat (first | refine SeqS.go cok ?_ | refine GuardS.yes rfl ?_ | refine CondS.t rfl ?_ | (refine still_in ?_; first | refine still_drop (by decide) ?_))
  exact Fin.focus 1 rfl (Fin.same ⟨_, rfl, hs.trans hs3, rfl, by simp⟩)
theorem yRef87 {I : Ent → Prop} {G : List Ent} {sb ssz fb fsz pc gas : Nat} {Ts Tf : TypeId} {cs cf : Nat → Value} {K : YK} {w : YW} {s mem : List Nat} {M : List Ent} (hsz : 11 ≤ ssz) (hfz : 60 ≤ fsz) (hC : CsI I cs cf K w pc gas s) (hM : MemO (cf 9) mem M) (hret : cs 10 = .slice none 0 0) (h1 : ¬ s.length < 2) (hg : ¬ gas < costN K w s mem.length 87) (hz0 : argN s 1 ≠ 0) (hd : destN K.code (argN s 0) = true) :
    CallG Hvaf.prog 68 #[ptr sb 0, ptr fb 0, .int .u8 (87 : Nat)] ⟨I, ⟨sb, ssz, Ts, cs⟩ :: ⟨fb, fsz, Tf, cf⟩ :: G⟩ (RefP I (⟨sb, ssz, Ts, cs⟩ :: ⟨fb, fsz, Tf, cf⟩ :: G) 0 (costN K w s mem.length 87)) := by
  have har : ∀ S, CallG Hvaf.prog 147 #[.int .u8 (87 : Nat)] S fun r S' => S = S' ∧ r = .tuple #[.int .i64 (2 : Nat), .int .i64 (0 : Nat), .bool true] := fun S => yArity (S := S) (o := 87) (by decide)
  have hfs := hC.F.fs
  have hgas := hC.F.fgas
  obtain ⟨vss, hR, hvl, hel⟩ := hC.F.fstk.out
  obtain ⟨ad, cap, hc8⟩ := hR.form
  have hl := hC.F.fl
  obtain ⟨ad2, cap2, hc10, _⟩ := hC.F.fcode.form
  have hcode := hC.F.fcode
  rw [hc10] at hcode
  have hco := fun (I) (hC : CsI I cs cf K w pc gas s) => yCost (I := I) (o := 87) (G := G) (sb := sb) (fb := fb) (Ts := Ts) (Tf := Tf) (ssz := ssz) (by omega) hfz hC hM (by decide) (by decide)
  generalize costN K w s mem.length 87 = cst at *
  refine CallG.start (C := mkC Hvaf.prog) cok (args := [ptr sb 0, ptr fb 0, .int .u8 ((87 : Nat) : Int)]) Hvaf.func68 rfl Hvaf.ntmps68 (by simp) (by kernel_rfl) ?_
  repeat (first | refine SeqS.go cok ?_)
  refine (har _).mono ?_
  rintro r _ - ⟨rfl, rfl⟩
  repeat (first | (refine QuG.keep ?_; first | refine QuG.l1E cok 1 rfl rfl rfl rfl rfl (by first | exact Nat.le_of_ble_eq_true rfl | omega | (dsimp only; omega) | (simp only [addS_eq, mulS_eq]; omega)) (by assumption) ?_) | refine SeqS.go cok ?_ | refine GuardS.yes rfl ?_ | refine GuardS.no rfl ?_ | refine CondS.f rfl ?_ | (refine ValS.keep ?_; first | (with_reducible refine ValS.kI64 ?_; first | (with_reducible refine ValS.addI64 ?_ ?_ ; omega) | (with_reducible refine ValS.subI64 ?_ ?_ ?_ ; omega; omega))) | refine W.drawI 12 cok [0, 1, 3, 7, 15, 7, 63, 127, 7, 263, 775, 1799, 3847, 7943, 16383, 32767, 65535, 131071, 262143] [0, 1, 2, 3, 5, 8, 9, 10, 11, 12, 13, 4, 6, 7, 14, 15, 16, 17, 18] [11] (by kernel_rfl) (by kernel_rfl) ?_ | (refine CondS.keep ?_; first | refine CondS.d0 rfl (by omega) ?_))
  refine callN (hco _ hC) fun v J hs hv => ?_
  repeat (first | refine SeqS.go cok ?_ | (refine QuG.keep ?_; first | refine QuG.l1 cok 1 rfl rfl rfl rfl rfl (by first | exact Nat.le_of_ble_eq_true rfl | omega | (dsimp only; omega) | (simp only [addS_eq, mulS_eq]; omega)) ?_))
  refine (nCmpLe hv (hgas.up hs) (by omega)).mono ?_
  rintro r _ - ⟨rfl, z, hz, hz', rfl⟩
  repeat (first | refine SeqS.go cok ?_ | refine GuardS.yes rfl ?_ | refine GuardS.no rfl ?_ | refine CondS.f rfl ?_ | refine W.drawI 17 cok [0, 1, 3, 7, 15, 31, 63, 7, 255, 511, 1023, 2047] [0, 1, 2, 3, 4, 5, 6, 7, 8, 9, 10, 11] [6] (by kernel_rfl) (by kernel_rfl) ?_ | refine W.drawI 19 cok [0, 1, 3, 7, 15, 31, 63, 7, 135, 511, 1023, 2047, 4095] [0, 1, 2, 3, 4, 5, 6, 7, 8, 9, 10, 11, 12] [6] (by kernel_rfl) (by kernel_rfl) ?_ | refine W.drawI 21 cok [0, 1, 3, 7, 15, 31, 63, 127, 255, 511, 1023, 2047, 4095, 511, 8703, 32767, 65535, 131071, 262143] [0, 1, 2, 3, 4, 5, 6, 7, 8, 9, 10, 11, 12, 13, 14, 15, 16, 17, 18] [12] (by kernel_rfl) (by kernel_rfl) ?_ | (refine CondS.keep ?_; first | refine CondS.d0 rfl (by omega) ?_))
  refine CallG.focus 1 rfl ?_
  refine (yArgF (i := 1) hfz (hC.F.up hs) (by decide)).mono ?_
  rintro x _ - ⟨rfl, hx⟩
  repeat (first | refine GuardS.yes rfl ?_)
  refine (zF hx hz0).mono ?_
  rintro r _ - ⟨rfl, rfl⟩
  repeat (first | (refine QuG.keep ?_; first | refine QuG.l1E cok 0 rfl rfl rfl rfl rfl (by first | exact Nat.le_of_ble_eq_true rfl | omega | (dsimp only; omega) | (simp only [addS_eq, mulS_eq]; omega)) (by assumption) ?_) | refine GuardS.yes rfl ?_)
  refine CallG.focus 0 rfl ?_
  refine (yArgF (i := 0) hfz (hC.F.up hs) (by decide)).mono ?_
  rintro u _ - ⟨rfl, hu⟩
  repeat (first | refine GuardS.yes rfl ?_ | (refine still_in ?_; first | (refine still_keep (by decide) rfl ?_ ?_; first | exact QuV.l1 cok 0 rfl rfl rfl rfl rfl (by first | exact Nat.le_of_ble_eq_true rfl | omega | (dsimp only; omega) | (simp only [addS_eq, mulS_eq]; omega)) (by assumption))))
  refine (yIsDest (hcode.mono hs (by simp)) hu (by have := hC.KB.code; omega)).mono ?_
  rintro r ⟨J3, G3⟩ hs3 ⟨h31, h32⟩
  replace hs3 : HL.Sub _ J3 := hs3
  dsimp only at h31
  rw [hd] at h32
  subst h31 h32
  repeat (first | refine SeqS.go cok ?_ | refine GuardS.yes rfl ?_ | refine CondS.f rfl ?_ | (refine still_in ?_; first | refine still_drop (by decide) ?_))
  exact Fin.focus 1 rfl (Fin.same ⟨_, rfl, hs.trans hs3, rfl, fun _ => hv.up hs3⟩)
end Go.Proofs.YgvafwGreat
