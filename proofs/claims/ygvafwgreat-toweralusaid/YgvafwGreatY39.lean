import Derived.Test.YgvafwGreatY38
set_option exponentiation.threshold 1000
set_option maxRecDepth 100000
set_option maxHeartbeats 4000000
set_option linter.unusedVariables false
set_option linter.unusedSimpArgs false
-- v2
-- v4
-- v5
-- v6
-- v7
namespace Go.Proofs.YgvafwGreat
open Go.HL Go.Proofs

/-- The first check that fails an instruction. -/
def refN (K : YK) (w : YW) (s : List Nat) (gas m o : Nat) : Nat :=
  if famN o = 0 then 5
  else if s.length < (arN o).1 then 3
  else if 64 < s.length - (arN o).1 + (arN o).2.1 then 4
  else if o = 62 ∧ argN s 1 + argN s 2 ≠ 0 then 8
  else if gas < costN K w s m o then 2
  else if o = 85 ∧ gas ≤ 2300 then 2
  else if o = 86 ∧ destN K.code (argN s 0) = false then 6
  else if o = 87 ∧ argN s 1 ≠ 0 ∧ destN K.code (argN s 0) = false then 6
  else 0
def RefP (I : Ent → Prop) (G : List Ent) (st c : Nat) : Post := fun r S' => ∃ v, S'.G = G ∧ Sub I S'.I ∧ r = .tuple #[.int .u8 (st : Nat), v] ∧ (st = 0 → NatI S'.I v c)
theorem yRef0 {I : Ent → Prop} {G : List Ent} {sb ssz fb fsz pc gas o : Nat} {Ts Tf : TypeId} {cs cf : Nat → Value} {K : YK} {w : YW} {s : List Nat} {c : Nat} (hsz : 9 ≤ ssz) (hfz : 60 ≤ fsz) (hC : CsI I cs cf K w pc gas s) (ho : o < 256) (hb : (arN o).1 < 20 ∧ (arN o).2.1 < 20 ∧ (arN o).2.2 = decide (famN o ≠ 0)) (hf : famN o = 0) :
    CallG Hvaf.prog 68 #[ptr sb 0, ptr fb 0, .int .u8 (o : Nat)] ⟨I, ⟨sb, ssz, Ts, cs⟩ :: ⟨fb, fsz, Tf, cf⟩ :: G⟩ (RefP I (⟨sb, ssz, Ts, cs⟩ :: ⟨fb, fsz, Tf, cf⟩ :: G) 5 c) := by
  have har := fun (S : St) => yArity (S := S) ho
  rw [hb.2.2] at har
  first | rw [decide_eq_false (by omega)] at har
  have hb1 := hb.1
  have hb2 := hb.2.1
  clear hb
  generalize (arN o).1 = tk at *
  generalize (arN o).2.1 = gv at *
  obtain ⟨vss, hR, hvl, hel⟩ := hC.F.fstk.out
  obtain ⟨ad, cap, hc8⟩ := hR.form
  have hl := hC.F.fl
  refine CallG.start (C := mkC Hvaf.prog) cok (args := [ptr sb 0, ptr fb 0, .int .u8 (o : Nat)]) Hvaf.func68 rfl Hvaf.ntmps68 (by simp) (by kernel_rfl) ?_
  repeat (first | refine SeqS.go cok ?_)
  refine (har _).mono ?_
  rintro r _ - ⟨rfl, rfl⟩
  repeat (first | refine SeqS.go cok ?_ | refine CondS.t rfl ?_)
  exact Fin.same ⟨_, rfl, Sub.refl _, rfl, by simp⟩
theorem yRef1 {I : Ent → Prop} {G : List Ent} {sb ssz fb fsz pc gas o : Nat} {Ts Tf : TypeId} {cs cf : Nat → Value} {K : YK} {w : YW} {s : List Nat} {c : Nat} (hsz : 9 ≤ ssz) (hfz : 60 ≤ fsz) (hC : CsI I cs cf K w pc gas s) (ho : o < 256) (hb : (arN o).1 < 20 ∧ (arN o).2.1 < 20 ∧ (arN o).2.2 = decide (famN o ≠ 0)) (hf : famN o ≠ 0) (h1 : s.length < (arN o).1) :
    CallG Hvaf.prog 68 #[ptr sb 0, ptr fb 0, .int .u8 (o : Nat)] ⟨I, ⟨sb, ssz, Ts, cs⟩ :: ⟨fb, fsz, Tf, cf⟩ :: G⟩ (RefP I (⟨sb, ssz, Ts, cs⟩ :: ⟨fb, fsz, Tf, cf⟩ :: G) 3 c) := by
  have har := fun (S : St) => yArity (S := S) ho
  rw [hb.2.2] at har
  first | rw [decide_eq_true hf] at har
  have hb1 := hb.1
  have hb2 := hb.2.1
  clear hb
  generalize (arN o).1 = tk at *
  generalize (arN o).2.1 = gv at *
  obtain ⟨vss, hR, hvl, hel⟩ := hC.F.fstk.out
  obtain ⟨ad, cap, hc8⟩ := hR.form
  have hl := hC.F.fl
  refine CallG.start (C := mkC Hvaf.prog) cok (args := [ptr sb 0, ptr fb 0, .int .u8 (o : Nat)]) Hvaf.func68 rfl Hvaf.ntmps68 (by simp) (by kernel_rfl) ?_
  repeat (first | refine SeqS.go cok ?_)
  refine (har _).mono ?_
  rintro r _ - ⟨rfl, rfl⟩
  repeat (first | (refine QuG.keep ?_; first | refine QuG.l1E cok 1 rfl rfl rfl rfl rfl (by first | exact Nat.le_of_ble_eq_true rfl | omega | (dsimp only; omega) | (simp only [addS_eq, mulS_eq]; omega)) (by assumption) ?_) | refine SeqS.go cok ?_ | refine CondS.f rfl ?_ | (refine CondS.keep ?_; first | refine CondS.d1 rfl (by omega) ?_))
  exact Fin.same ⟨_, rfl, Sub.refl _, rfl, by simp⟩
theorem yRef2 {I : Ent → Prop} {G : List Ent} {sb ssz fb fsz pc gas o : Nat} {Ts Tf : TypeId} {cs cf : Nat → Value} {K : YK} {w : YW} {s : List Nat} {c : Nat} (hsz : 9 ≤ ssz) (hfz : 60 ≤ fsz) (hC : CsI I cs cf K w pc gas s) (ho : o < 256) (hb : (arN o).1 < 20 ∧ (arN o).2.1 < 20 ∧ (arN o).2.2 = decide (famN o ≠ 0)) (hf : famN o ≠ 0) (h1 : ¬ s.length < (arN o).1) (h2 : 64 < s.length - (arN o).1 + (arN o).2.1) :
    CallG Hvaf.prog 68 #[ptr sb 0, ptr fb 0, .int .u8 (o : Nat)] ⟨I, ⟨sb, ssz, Ts, cs⟩ :: ⟨fb, fsz, Tf, cf⟩ :: G⟩ (RefP I (⟨sb, ssz, Ts, cs⟩ :: ⟨fb, fsz, Tf, cf⟩ :: G) 4 c) := by
  have har := fun (S : St) => yArity (S := S) ho
  rw [hb.2.2] at har
  first | rw [decide_eq_true hf] at har
  have hb1 := hb.1
  have hb2 := hb.2.1
  clear hb
  generalize (arN o).1 = tk at *
  generalize (arN o).2.1 = gv at *
  obtain ⟨vss, hR, hvl, hel⟩ := hC.F.fstk.out
  obtain ⟨ad, cap, hc8⟩ := hR.form
  have hl := hC.F.fl
  refine CallG.start (C := mkC Hvaf.prog) cok (args := [ptr sb 0, ptr fb 0, .int .u8 (o : Nat)]) Hvaf.func68 rfl Hvaf.ntmps68 (by simp) (by kernel_rfl) ?_
  repeat (first | refine SeqS.go cok ?_)
  refine (har _).mono ?_
  rintro r _ - ⟨rfl, rfl⟩
  repeat (first | (refine QuG.keep ?_; first | refine QuG.l1E cok 1 rfl rfl rfl rfl rfl (by first | exact Nat.le_of_ble_eq_true rfl | omega | (dsimp only; omega) | (simp only [addS_eq, mulS_eq]; omega)) (by assumption) ?_) | refine SeqS.go cok ?_ | refine CondS.f rfl ?_ | (refine ValS.keep ?_; first | (with_reducible refine ValS.kI64 ?_; first | (with_reducible refine ValS.addI64 ?_ ?_ ; omega) | (with_reducible refine ValS.subI64 ?_ ?_ ?_ ; omega; omega))) | (refine CondS.keep ?_; first | refine CondS.d1 rfl (by omega) ?_ | refine CondS.d0 rfl (by omega) ?_))
  exact Fin.same ⟨_, rfl, Sub.refl _, rfl, by simp⟩
theorem yRefPg {I : Ent → Prop} {G : List Ent} {sb ssz fb fsz pc gas o : Nat} {Ts Tf : TypeId} {cs cf : Nat → Value} {K : YK} {w : YW} {s mem : List Nat} {M : List Ent} (hsz : 11 ≤ ssz) (hfz : 60 ≤ fsz) (hC : CsI I cs cf K w pc gas s) (hM : MemO (cf 9) mem M) (hret : cs 10 = .slice none 0 0) (ho : o < 256) (hk : opOk o = true) (hb : (arN o).1 < 20 ∧ (arN o).2.1 < 20 ∧ (arN o).2.2 = true) (h1 : ¬ s.length < (arN o).1) (h2 : ¬ 64 < s.length - (arN o).1 + (arN o).2.1) (n1 : o ≠ 62) (n2 : o ≠ 85) (n3 : o ≠ 86) (n4 : o ≠ 87) (n5 : o ≠ 240) (n6 : o ≠ 245) (hg : gas < costN K w s mem.length o) :
    CallG Hvaf.prog 68 #[ptr sb 0, ptr fb 0, .int .u8 (o : Nat)] ⟨I, ⟨sb, ssz, Ts, cs⟩ :: ⟨fb, fsz, Tf, cf⟩ :: G⟩ (RefP I (⟨sb, ssz, Ts, cs⟩ :: ⟨fb, fsz, Tf, cf⟩ :: G) 2 (costN K w s mem.length o)) := by
  have har := fun (S : St) => yArity (S := S) ho
  rw [hb.2.2] at har
  have hb1 := hb.1
  have hb2 := hb.2.1
  clear hb
  generalize (arN o).1 = tk at *
  generalize (arN o).2.1 = gv at *
  have hfs := hC.F.fs
  have hgas := hC.F.fgas
  obtain ⟨vss, hR, hvl, hel⟩ := hC.F.fstk.out
  obtain ⟨ad, cap, hc8⟩ := hR.form
  have hl := hC.F.fl
  have hco := yCost (G := G) (sb := sb) (fb := fb) (Ts := Ts) (Tf := Tf) (ssz := ssz) (by omega) hfz hC hM ho hk
  generalize costN K w s mem.length o = cst at *
  refine CallG.start (C := mkC Hvaf.prog) cok (args := [ptr sb 0, ptr fb 0, .int .u8 (o : Nat)]) Hvaf.func68 rfl Hvaf.ntmps68 (by simp) (by kernel_rfl) ?_
  repeat (first | refine SeqS.go cok ?_)
  refine (har _).mono ?_
  rintro r _ - ⟨rfl, rfl⟩
  repeat (first | (refine QuG.keep ?_; first | refine QuG.l1E cok 1 rfl rfl rfl rfl rfl (by first | exact Nat.le_of_ble_eq_true rfl | omega | (dsimp only; omega) | (simp only [addS_eq, mulS_eq]; omega)) (by assumption) ?_) | refine SeqS.go cok ?_ | refine GuardS.yes rfl ?_ | refine GuardS.no rfl ?_ | refine CondS.f rfl ?_ | (refine ValS.keep ?_; first | (with_reducible refine ValS.kI64 ?_; first | (with_reducible refine ValS.addI64 ?_ ?_ ; omega) | (with_reducible refine ValS.subI64 ?_ ?_ ?_ ; omega; omega))) | refine W.drawI 12 cok [0, 1, 3, 7, 15, 7, 63, 127, 7, 263, 775, 1799, 3847, 7943, 16383, 32767, 65535, 131071, 262143] [0, 1, 2, 3, 5, 8, 9, 10, 11, 12, 13, 4, 6, 7, 14, 15, 16, 17, 18] [11] (by kernel_rfl) (by kernel_rfl) ?_ | (refine GuardS.keep ?_; first | refine GuardS.T0 rfl (by omega) ?_ | refine GuardS.F0 rfl (by omega) ?_) | (refine CondS.keep ?_; first | refine CondS.d0 rfl (by omega) ?_))
  refine callN hco fun v J hs hv => ?_
  repeat (first | refine SeqS.go cok ?_ | (refine QuG.keep ?_; first | refine QuG.l1 cok 1 rfl rfl rfl rfl rfl (by first | exact Nat.le_of_ble_eq_true rfl | omega | (dsimp only; omega) | (simp only [addS_eq, mulS_eq]; omega)) ?_))
  refine (nCmpG hv (hgas.up hs) (by omega)).mono ?_
  rintro r _ - ⟨rfl, rfl⟩
  repeat (first | refine SeqS.go cok ?_ | refine CondS.t rfl ?_)
  exact Fin.same ⟨_, rfl, hs, rfl, by simp⟩
theorem yRefP {I : Ent → Prop} {G : List Ent} {sb ssz fb fsz pc gas o : Nat} {Ts Tf : TypeId} {cs cf : Nat → Value} {K : YK} {w : YW} {s mem : List Nat} {M : List Ent} (hsz : 11 ≤ ssz) (hfz : 60 ≤ fsz) (hC : CsI I cs cf K w pc gas s) (hM : MemO (cf 9) mem M) (hret : cs 10 = .slice none 0 0) (ho : o < 256) (hk : opOk o = true) (hb : (arN o).1 < 20 ∧ (arN o).2.1 < 20 ∧ (arN o).2.2 = true) (h1 : ¬ s.length < (arN o).1) (h2 : ¬ 64 < s.length - (arN o).1 + (arN o).2.1) (n1 : o ≠ 62) (n2 : o ≠ 85) (n3 : o ≠ 86) (n4 : o ≠ 87) (n5 : o ≠ 240) (n6 : o ≠ 245) (hg : ¬ gas < costN K w s mem.length o) :
    CallG Hvaf.prog 68 #[ptr sb 0, ptr fb 0, .int .u8 (o : Nat)] ⟨I, ⟨sb, ssz, Ts, cs⟩ :: ⟨fb, fsz, Tf, cf⟩ :: G⟩ (RefP I (⟨sb, ssz, Ts, cs⟩ :: ⟨fb, fsz, Tf, cf⟩ :: G) 0 (costN K w s mem.length o)) := by
  have har := fun (S : St) => yArity (S := S) ho
  rw [hb.2.2] at har
  have hb1 := hb.1
  have hb2 := hb.2.1
  clear hb
  generalize (arN o).1 = tk at *
  generalize (arN o).2.1 = gv at *
  have hfs := hC.F.fs
  have hgas := hC.F.fgas
  obtain ⟨vss, hR, hvl, hel⟩ := hC.F.fstk.out
  obtain ⟨ad, cap, hc8⟩ := hR.form
  have hl := hC.F.fl
  have hco := yCost (G := G) (sb := sb) (fb := fb) (Ts := Ts) (Tf := Tf) (ssz := ssz) (by omega) hfz hC hM ho hk
  generalize costN K w s mem.length o = cst at *
  refine CallG.start (C := mkC Hvaf.prog) cok (args := [ptr sb 0, ptr fb 0, .int .u8 (o : Nat)]) Hvaf.func68 rfl Hvaf.ntmps68 (by simp) (by kernel_rfl) ?_
  repeat (first | refine SeqS.go cok ?_)
  refine (har _).mono ?_
  rintro r _ - ⟨rfl, rfl⟩
  repeat (first | (refine QuG.keep ?_; first | refine QuG.l1E cok 1 rfl rfl rfl rfl rfl (by first | exact Nat.le_of_ble_eq_true rfl | omega | (dsimp only; omega) | (simp only [addS_eq, mulS_eq]; omega)) (by assumption) ?_) | refine SeqS.go cok ?_ | refine GuardS.yes rfl ?_ | refine GuardS.no rfl ?_ | refine CondS.f rfl ?_ | (refine ValS.keep ?_; first | (with_reducible refine ValS.kI64 ?_; first | (with_reducible refine ValS.addI64 ?_ ?_ ; omega) | (with_reducible refine ValS.subI64 ?_ ?_ ?_ ; omega; omega))) | refine W.drawI 12 cok [0, 1, 3, 7, 15, 7, 63, 127, 7, 263, 775, 1799, 3847, 7943, 16383, 32767, 65535, 131071, 262143] [0, 1, 2, 3, 5, 8, 9, 10, 11, 12, 13, 4, 6, 7, 14, 15, 16, 17, 18] [11] (by kernel_rfl) (by kernel_rfl) ?_ | (refine GuardS.keep ?_; first | refine GuardS.T0 rfl (by omega) ?_ | refine GuardS.F0 rfl (by omega) ?_) | (refine CondS.keep ?_; first | refine CondS.d0 rfl (by omega) ?_))
  refine callN hco fun v J hs hv => ?_
  repeat (first | refine SeqS.go cok ?_ | (refine QuG.keep ?_; first | refine QuG.l1 cok 1 rfl rfl rfl rfl rfl (by first | exact Nat.le_of_ble_eq_true rfl | omega | (dsimp only; omega) | (simp only [addS_eq, mulS_eq]; omega)) ?_))
  refine (nCmpLe hv (hgas.up hs) (by omega)).mono ?_
  rintro r _ - ⟨rfl, z, hz, hz', rfl⟩
  repeat (first | refine SeqS.go cok ?_ | refine GuardS.no rfl ?_ | refine CondS.f rfl ?_ | refine W.drawI 17 cok [0, 1, 3, 7, 15, 31, 63, 7, 255, 511, 1023, 2047] [0, 1, 2, 3, 4, 5, 6, 7, 8, 9, 10, 11] [6] (by kernel_rfl) (by kernel_rfl) ?_ | refine W.drawI 19 cok [0, 1, 3, 7, 15, 31, 63, 7, 135, 511, 1023, 2047, 4095] [0, 1, 2, 3, 4, 5, 6, 7, 8, 9, 10, 11, 12] [6] (by kernel_rfl) (by kernel_rfl) ?_ | refine W.drawI 21 cok [0, 1, 3, 7, 15, 31, 63, 127, 255, 511, 1023, 2047, 4095, 511, 8703, 32767, 65535, 131071, 262143] [0, 1, 2, 3, 4, 5, 6, 7, 8, 9, 10, 11, 12, 13, 14, 15, 16, 17, 18] [12] (by kernel_rfl) (by kernel_rfl) ?_ | (refine GuardS.keep ?_; first | refine GuardS.T0 rfl (by omega) ?_) | (refine CondS.keep ?_; first | refine CondS.d0 rfl (by omega) ?_))
  exact Fin.same ⟨_, rfl, hs, rfl, fun _ => hv⟩
end Go.Proofs.YgvafwGreat
