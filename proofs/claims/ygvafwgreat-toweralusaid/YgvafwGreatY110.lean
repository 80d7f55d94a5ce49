import Derived.Test.YgvafwGreatY108
set_option exponentiation.threshold 1000
set_option maxRecDepth 100000
set_option maxHeartbeats 4000000
set_option linter.unusedVariables false
set_option linter.unusedSimpArgs false
-- v2
-- v4
-- v5
-- v6
-- v7
namespace Go.Proofs.YgvafwGreat
open Go.HL Go.Proofs

theorem val_cr : val crAd.reverse = bev crAd := by decide +kernel
theorem updN_get' {z : Nat → Value} {l : List Value} {k : Nat} (h : k < l.length) : HL.updN z 0 l k = l.getD k undef := by
  have e := updN_get (c := z) (o := 0) (vs := l) (i := k) h
  rw [Nat.zero_add] at e
  exact e
theorem ch_byt {S : St} {b1 : Nat} {c : Nat → Value} (hx : (⟨b1, 60, 156, HL.updN z156 0 (cellsFrom c 60 60)⟩ : Ent) ∈ S.G) (hsf : Row c 72 (bvs crAd)) : Byt S (HL.sl b1 12 20 20) crAd := by
  refine ⟨by decide, by decide, _, _, rfl, Nat.le_refl _, by decide, .inr ⟨_, 12, rfl, .inr hx, Row.bs ⟨fun i hi => ?_⟩ (by show 12 + 20 ≤ 60; decide)⟩⟩
  have hi : i < 20 := hi
  show HL.updN z156 0 (cellsFrom c 60 60) (12 + i) = _
  rw [updN_get' (by rw [cellsFrom_length]; omega), cellsFrom_getD _ _ _ _ (by omega), ← hsf.get i hi]
  congr 1; omega
theorem _root_.Go.HL.Fin.rot3 {K : Post} {v : Value} {I : Ent → Prop} {a b x : Ent} {G : List Ent} (h : K v ⟨I, b :: a :: G⟩) : HL.Fin K v ⟨I, a :: x :: b :: G⟩ :=
  ⟨[x], [], b :: a :: G, I, perm_sum fun f => by simp only [sumE, sumE_append]; omega, fun _ => by simp, h⟩
theorem _root_.Go.HL.CallG.idB2 {P : Program} {f : FuncId} {args : Array Value} {I : Ent → Prop} {y : Ent} {b s : Nat} {T : TypeId} {c0 c : Nat → Value} {G : List Ent} {K : Post} (h0 : c0 = c) (h : CallG P f args ⟨I, y :: ⟨b, s, T, c⟩ :: G⟩ K) : CallG P f args ⟨I, y :: ⟨b, s, T, c0⟩ :: G⟩ K := by rw [h0]; exact h
section
variable {I : Ent → Prop} {G : List Ent} {sb ssz fb fsz g : Nat} {Ts T : TypeId} {cs c : Nat → Value}
/-- yp.Frame.opcode of the child: its code is empty, or zeros -/
theorem chOpcode {n : Nat} (hsz : 120 ≤ fsz) (h63 : c 63 = .slice none 0 0) (hb : Byt ⟨I, []⟩ (c 70) (List.replicate n 0)) (hn : n < 2 ^ 47) :
    CallG Hvaf.prog 67 #[ptr fb 60] ⟨I, ⟨fb, fsz, T, c⟩ :: G⟩ fun r S' => ⟨I, ⟨fb, fsz, T, c⟩ :: G⟩ = S' ∧ r = .int .u8 0 := by
  have hpl := fun (G : List Ent) => yPlace (G := G) (L := n) (NatI.zero I) (by omega)
  have hl : (List.replicate n 0 : List Nat).length = n := List.length_replicate ..
  by_cases h : 0 < n
  · simp only [if_pos h, decide_eq_true h] at hpl
    rcases hb.cases with ⟨_, h2⟩ | ⟨x, o, cap, hc, h1, h2, hx, hbs⟩
    · rw [h2] at hl; simp at hl; omega
    · rw [hl] at hc
      have hx2 : Rd ⟨I, ⟨fb, fsz, T, c⟩ :: G⟩ x := hx.mono (.refl _) (by simp)
      have h00 : (List.replicate n 0 : List Nat).getD 0 0 = 0 := by rw [List.getD_eq_getElem?_getD, List.getElem?_replicate, if_pos h]; rfl
      have h0n : 0 < (List.replicate n 0 : List Nat).length := by omega
      refine CallG.start (C := mkC Hvaf.prog) cok (args := [ptr fb 60]) Hvaf.func67 rfl Hvaf.ntmps67 (by simp) (by kernel_rfl) ?_
      repeat (first | (refine QuG.keep ?_; first | refine QuG.l1E cok 0 rfl rfl rfl rfl rfl (by first | exact Nat.le_of_ble_eq_true rfl | omega | (dsimp only; omega) | (simp only [addS_eq, mulS_eq]; omega)) (by assumption) ?_) | refine SeqS.go cok ?_ | refine W.drawI 1 cok [0, 1, 3, 7, 0, 16, 48, 112, 240, 511, 1023, 2047, 2047, 4095, 16383] [0, 1, 2, 3, 4, 5, 6, 7, 8, 9, 10, 11, 12, 13, 14] [3, 7] (by kernel_rfl) (by kernel_rfl) ?_)
      refine (hpl _).mono ?_
      rintro r _ - ⟨rfl, rfl⟩
      repeat (first | (refine QuG.keep ?_; first | refine QuG.l1E cok 0 rfl rfl rfl rfl rfl (by first | exact Nat.le_of_ble_eq_true rfl | omega | (dsimp only; omega) | (simp only [addS_eq, mulS_eq]; omega)) (by assumption) ?_) | refine SeqS.go cok ?_ | refine CondS.t rfl ?_ | refine And.intro (by omega) ?_ | (refine NatS.keep ?_; first | with_reducible refine NatS.nat ?_) | (refine QuG.keep ?_; first | refine QuG.bs cok (by assumption) (by assumption) rfl rfl rfl rfl (by omega) ?_) | (refine still_in ?_; first | refine still_drop (by decide) ?_))
      exact Fin.same ⟨rfl, congrArg (fun m : Nat => Value.int .u8 (m : Int)) h00⟩
  · simp only [if_neg h, decide_eq_false h] at hpl
    obtain ⟨ad, cap, hc, _⟩ := hb.form
    rw [hl] at hc
    refine CallG.start (C := mkC Hvaf.prog) cok (args := [ptr fb 60]) Hvaf.func67 rfl Hvaf.ntmps67 (by simp) (by kernel_rfl) ?_
    repeat (first | (refine QuG.keep ?_; first | refine QuG.l1E cok 0 rfl rfl rfl rfl rfl (by first | exact Nat.le_of_ble_eq_true rfl | omega | (dsimp only; omega) | (simp only [addS_eq, mulS_eq]; omega)) (by assumption) ?_) | refine SeqS.go cok ?_ | refine W.drawI 1 cok [0, 1, 3, 7, 0, 16, 48, 112, 240, 511, 1023, 2047, 2047, 4095, 16383] [0, 1, 2, 3, 4, 5, 6, 7, 8, 9, 10, 11, 12, 13, 14] [3, 7] (by kernel_rfl) (by kernel_rfl) ?_)
    refine (hpl _).mono ?_
    rintro r _ - ⟨rfl, rfl⟩
    repeat (first | refine SeqS.go cok ?_ | refine CondS.f rfl ?_ | (refine still_in ?_; first | refine still_drop (by decide) ?_))
    exact Fin.same ⟨rfl, rfl⟩
theorem chReach {S : St} : CallG Hvaf.prog 71 #[ptr fb 60, .int .u8 0] S fun r S' => S = S' ∧ r = .slice none 0 0 := by
  refine CallG.start (C := mkC Hvaf.prog) cok (args := [ptr fb 60, .int .u8 0]) Hvaf.func71 rfl Hvaf.ntmps71 (by simp) (by kernel_rfl) ?_
  repeat (first | refine SeqS.go cok ?_ | refine GuardS.no rfl ?_ | refine CondS.f rfl ?_)
  exact Fin.same ⟨rfl, rfl⟩
theorem chBare : CallG Hvaf.prog 233 #[ptr sb 0, ptr fb 60, .int .u8 0] ⟨I, G⟩ fun r S' => S'.G = G ∧ NatI S'.I r 0 := by
  refine CallG.start (C := mkC Hvaf.prog) cok (args := [ptr sb 0, ptr fb 60, .int .u8 0]) Hvaf.func233 rfl Hvaf.ntmps233 (by simp) (by kernel_rfl) ?_
  repeat (first | refine SeqS.go cok ?_ | refine GuardS.no rfl ?_ | refine CondS.t rfl ?_ | refine CondS.f rfl ?_)
  refine callN (yNum (n := 0) (by decide)) fun b J1 hs1 hb => ?_
  repeat (first | refine SeqS.go cok ?_)
  exact Fin.same ⟨rfl, hb⟩
theorem chCost (hsz : 120 ≤ fsz) (h69 : c 69 = .slice none 0 0) :
    CallG Hvaf.prog 149 #[ptr sb 0, ptr fb 60, .int .u8 0] ⟨I, ⟨sb, ssz, Ts, cs⟩ :: ⟨fb, fsz, T, c⟩ :: G⟩ fun r S' => S'.G = ⟨sb, ssz, Ts, cs⟩ :: ⟨fb, fsz, T, c⟩ :: G ∧ NatI S'.I r 0 := by
  have hnum := fun (I : Ent → Prop) (G : List Ent) => yNum (I := I) (G := G) (n := 0) (by decide)
  refine CallG.start (C := mkC Hvaf.prog) cok (args := [ptr sb 0, ptr fb 60, .int .u8 0]) Hvaf.func149 rfl Hvaf.ntmps149 (by simp) (by kernel_rfl) ?_
  repeat (first | refine SeqS.go cok ?_)
  refine callN chBare fun b J1 hs1 hb => ?_
  repeat (first | (refine QuG.keep ?_; first | refine QuG.l1E cok 1 rfl rfl rfl rfl rfl (by first | exact Nat.le_of_ble_eq_true rfl | omega | (dsimp only; omega) | (simp only [addS_eq, mulS_eq]; omega)) (by assumption) ?_) | refine SeqS.go cok ?_ | refine And.intro (by omega) ?_ | (refine ValS.keep ?_; first | (with_reducible refine ValS.kI64 ?_; first | (with_reducible refine ValS.quoI64_L ?_ ?_ ; omega)) | (with_reducible refine ValS.kU64 ?_; first | (with_reducible refine ValS.convU64 ?_ ?_ ; omega))))
  refine callN (hnum _ _) fun h J2 hs2 hh => ?_
  repeat (first | refine SeqS.go cok ?_)
  refine chReach.mono ?_
  rintro r _ - ⟨rfl, rfl⟩
  skip
  refine callN (yWords (NatI.zero _) (by decide)) fun y J4 hs4 hy => ?_
  repeat (first | refine SeqS.go cok ?_)
  refine (nCmpE hy (hh.up hs4) rfl).mono ?_
  rintro r _ - ⟨rfl, rfl⟩
  repeat (first | refine SeqS.go cok ?_ | refine CondS.t rfl ?_)
  exact Fin.same ⟨rfl, (hb.up hs2).up hs4⟩
/-- yp.State.refusal of the child -/
theorem chRefusal (hsz : 120 ≤ fsz) (h62 : c 62 = .bool false) (h68 : c 68 = .slice none 0 0) (h69 : c 69 = .slice none 0 0) (h64 : NatI I (c 64) g) :
    CallG Hvaf.prog 68 #[ptr sb 0, ptr fb 60, .int .u8 0] ⟨I, ⟨sb, ssz, Ts, cs⟩ :: ⟨fb, fsz, T, c⟩ :: G⟩ fun r S' => S'.G = ⟨sb, ssz, Ts, cs⟩ :: ⟨fb, fsz, T, c⟩ :: G ∧ ∃ v, r = .tuple #[.int .u8 0, v] ∧ NatI S'.I v 0 := by
  have har : ∀ S, CallG Hvaf.prog 147 #[.int .u8 0] S fun r S' => S = S' ∧ r = .tuple #[.int .i64 (0 : Nat), .int .i64 (0 : Nat), .bool true] := fun S => yArity (S := S) (o := 0) (by decide)
  refine CallG.start (C := mkC Hvaf.prog) cok (args := [ptr sb 0, ptr fb 60, .int .u8 0]) Hvaf.func68 rfl Hvaf.ntmps68 (by simp) (by kernel_rfl) ?_
  repeat (first | refine SeqS.go cok ?_)
  refine (har _).mono ?_
  rintro r _ - ⟨rfl, rfl⟩
  repeat (first | (refine QuG.keep ?_; first | refine QuG.l1E cok 1 rfl rfl rfl rfl rfl (by first | exact Nat.le_of_ble_eq_true rfl | omega | (dsimp only; omega) | (simp only [addS_eq, mulS_eq]; omega)) (by assumption) ?_) | refine SeqS.go cok ?_ | refine GuardS.yes rfl ?_ | refine GuardS.no rfl ?_ | refine CondS.f rfl ?_ | (refine ValS.keep ?_; first | (with_reducible refine ValS.kI64 ?_; first | (with_reducible refine ValS.addI64 ?_ ?_ ; omega) | (with_reducible refine ValS.subI64 ?_ ?_ ?_ ; omega; omega))) | refine W.drawI 12 cok [0, 1, 3, 7, 15, 7, 63, 127, 7, 263, 775, 1799, 3847, 7943, 16383, 32767, 65535, 131071, 262143] [0, 1, 2, 3, 5, 8, 9, 10, 11, 12, 13, 4, 6, 7, 14, 15, 16, 17, 18] [11] (by kernel_rfl) (by kernel_rfl) ?_)
  refine callN (chCost hsz h69) fun v J hs hv => ?_
  repeat (first | refine SeqS.go cok ?_ | (refine QuG.keep ?_; first | refine QuG.l1 cok 1 rfl rfl rfl rfl rfl (by first | exact Nat.le_of_ble_eq_true rfl | omega | (dsimp only; omega) | (simp only [addS_eq, mulS_eq]; omega)) ?_))
  refine (nCmpLe hv (h64.up hs) (Nat.zero_le _)).mono ?_
  rintro r _ - ⟨rfl, z, hz, hz', rfl⟩
  repeat (first | refine SeqS.go cok ?_ | refine GuardS.no rfl ?_ | refine CondS.f rfl ?_ | refine W.drawI 17 cok [0, 1, 3, 7, 15, 31, 63, 7, 255, 511, 1023, 2047] [0, 1, 2, 3, 4, 5, 6, 7, 8, 9, 10, 11] [6] (by kernel_rfl) (by kernel_rfl) ?_ | refine W.drawI 19 cok [0, 1, 3, 7, 15, 31, 63, 7, 135, 511, 1023, 2047, 4095] [0, 1, 2, 3, 4, 5, 6, 7, 8, 9, 10, 11, 12] [6] (by kernel_rfl) (by kernel_rfl) ?_ | refine W.drawI 21 cok [0, 1, 3, 7, 15, 31, 63, 127, 255, 511, 1023, 2047, 4095, 511, 8703, 32767, 65535, 131071, 262143] [0, 1, 2, 3, 4, 5, 6, 7, 8, 9, 10, 11, 12, 13, 14, 15, 16, 17, 18] [12] (by kernel_rfl) (by kernel_rfl) ?_ | (refine CondS.keep ?_; first | refine CondS.d0 rfl (by omega) ?_))
  exact Fin.same ⟨rfl, _, rfl, hv⟩
/-- yp.Frame.grow of the child: not at all -/
theorem chGrow (hsz : 120 ≤ fsz) (h69 : c 69 = .slice none 0 0) :
    CallG Hvaf.prog 70 #[ptr fb 60, .slice none 0 0] ⟨I, ⟨fb, fsz, T, c⟩ :: G⟩ fun r S' => S'.G = ⟨fb, fsz, T, c⟩ :: G := by
  have hsm := fun (J : Ent → Prop) (G : List Ent) (r : Value) (hr : NatI J r ((0 + 31) / 32)) => ySmall (G := G) hr
  simp only [if_pos (show (0 + 31) / 32 < 2 ^ 64 by decide)] at hsm
  refine CallG.start (C := mkC Hvaf.prog) cok (args := [ptr fb 60, .slice none 0 0]) Hvaf.func70 rfl Hvaf.ntmps70 (by simp) (by kernel_rfl) ?_
  skip
  refine callN (yWords (NatI.zero _) (by decide)) fun y J4 hs4 hy => ?_
  skip
  refine (hsm _ _ _ hy).mono ?_
  rintro r _ - ⟨rfl, rfl⟩
  repeat (first | (refine QuG.keep ?_; first | refine QuG.l1E cok 0 rfl rfl rfl rfl rfl (by first | exact Nat.le_of_ble_eq_true rfl | omega | (dsimp only; omega) | (simp only [addS_eq, mulS_eq]; omega)) (by assumption) ?_) | refine SeqS.go cok ?_ | refine CondS.f rfl ?_ | refine And.intro (by omega) ?_ | (refine ValS.keep ?_; first | (with_reducible refine ValS.kI64 ?_; first | (with_reducible refine ValS.quoI64_L ?_ ?_ ; omega)) | (with_reducible refine ValS.kU64 ?_; first | (with_reducible refine ValS.convU64 ?_ ?_ ; omega))))
  exact Fin.same rfl
/-- yp.State.leave of the child -/
theorem chLeave {g0 g1 pc cap : Nat} (hsz : 179 ≤ ssz) (hfz : 120 ≤ fsz) (hcap : 2 ≤ cap) (h9 : cs 9 = HL.sl fb 0 2 cap) (h60 : c 60 = .int .u8 5) (co : ∀ k, k < 60 → one (c (60 + k)) = true) (hg1 : NatI I (c 64) g1) (hg0 : NatI I (c 4) g0) (h7 : NatI I (c 7) 0) (hpc : NatI I (c 3) pc) (hpb : pc < 2 ^ 20) (hgb : g0 + g1 < 2 ^ 100) (hstk : StkI I (c 8) []) (hsf : Row c 72 (bvs crAd)) :
    CallG Hvaf.prog 69 #[ptr sb 0, .int .u8 0, .slice none 0 0] ⟨I, ⟨sb, ssz, Ts, cs⟩ :: ⟨fb, fsz, 156, c⟩ :: G⟩ fun r S' => ∃ J gv sv pv, S' = ⟨J, ⟨sb, ssz, Ts, upd (upd cs 10 (.slice none 0 0)) 9 (HL.sl fb 0 1 1)⟩ :: ⟨fb, fsz, 156, upd (upd (upd c 4 gv) 8 sv) 3 pv⟩ :: G⟩ ∧ NatI J gv (g0 + g1) ∧ StkI J sv [bev crAd] ∧ NatI J pv (pc + 1) ∧ one sv = true ∧ one pv = true := by
  have hdp := fun (G : List Ent) (b : Nat) => yDeposit0 (G := G) (fb := b) (fsz := 60) (T := 156) (cf := HL.updN z156 0 (cellsFrom c 60 60)) (gas := g1) (by decide) hg1
  have hsm := fun (J : Ent → Prop) (G : List Ent) (r : Value) (hr : NatI J r 0) => ySmall (G := G) hr
  simp only [if_pos (show 0 < 2 ^ 64 by decide)] at hsm
  refine CallG.start (C := mkC Hvaf.prog) cok (args := [ptr sb 0, .int .u8 0, .slice none 0 0]) Hvaf.func69 rfl Hvaf.ntmps69 (by simp) (by kernel_rfl) ?_
  repeat (first | (refine QuG.keep ?_; first | refine QuG.l1E cok 0 rfl rfl rfl rfl rfl (by first | exact Nat.le_of_ble_eq_true rfl | omega | (dsimp only; omega) | (simp only [addS_eq, mulS_eq]; omega)) (by assumption) ?_) | refine And.intro (by omega) ?_ | (refine NatS.keep ?_; first | with_reducible refine NatS.nat ?_) | (refine ValS.keep ?_; first | (with_reducible refine ValS.kI64 ?_; first | (with_reducible refine ValS.subI64_L ?_ ?_ ?_ ; omega; omega))) | (refine QuG.keep ?_; first | refine QuG.lN cok 1 rfl rfl rfl rfl rfl (by first | exact Nat.le_of_ble_eq_true rfl | omega | (dsimp only; omega) | (simp only [addS_eq, mulS_eq]; omega)) ?_) | refine W.drawI 0 cok [0, 1, 3, 7, 0, 16, 48, 112, 240, 496, 1023, 2047, 0, 8191] [0, 1, 2, 3, 4, 5, 6, 7, 8, 9, 10, 11, 12, 13] [3, 7, 11] (by kernel_rfl) (by kernel_rfl) ?_)
  intro b1
  refine OpG.keep ?_
  refine OpG.sL cok 0 rfl rfl rfl rfl rfl rfl (cells_one (n := 60) (o := 60) fun k h1 h2 => by have := co (k - 60) (by omega); rw [show 60 + (k - 60) = k by omega] at this; exact this) (by decide) ?_
  repeat (first | (refine QuG.keep ?_; first | refine QuG.l1E cok 0 rfl rfl rfl rfl rfl (by first | exact Nat.le_of_ble_eq_true rfl | omega | (dsimp only; omega) | (simp only [addS_eq, mulS_eq]; omega)) (by assumption) ?_) | refine SeqS.go cok ?_ | (refine QuG.keep ?_; first | refine QuG.l1 cok 0 rfl rfl rfl rfl rfl (by first | exact Nat.le_of_ble_eq_true rfl | omega | (dsimp only; omega) | (simp only [addS_eq, mulS_eq]; omega)) ?_) | (refine still_in ?_; first | refine still_drop (by decide) ?_))
  refine yCreates5.mono ?_
  rintro r _ - ⟨rfl, rfl⟩
  repeat (first | refine SeqS.go cok ?_ | refine GuardS.yes rfl ?_ | refine CondS.t rfl ?_)
  refine (hdp _ _).mono ?_
  rintro r ⟨J1, _⟩ hs1 ⟨rfl, v, rfl, hv⟩
  replace hs1 : HL.Sub I J1 := hs1
  repeat (first | (refine QuG.keep ?_; first | refine QuG.l1E cok 1 rfl rfl rfl rfl rfl (by first | exact Nat.le_of_ble_eq_true rfl | omega | (dsimp only; omega) | (simp only [addS_eq, mulS_eq]; omega)) (by assumption) ?_) | refine SeqS.go cok ?_ | refine CondS.t rfl ?_ | refine CondS.f rfl ?_ | refine And.intro (Eq.refl true) ?_ | refine And.intro (by omega) ?_ | (refine NatS.keep ?_; first | with_reducible refine NatS.nat ?_) | (refine ValS.keep ?_; first | (with_reducible refine ValS.kI64 ?_; first | (with_reducible refine ValS.subI64_L ?_ ?_ ?_ ; omega; omega)) | with_reducible refine ValS.sl0 ?_) | (refine QuG.keep ?_; first | refine QuG.l1 cok 1 rfl rfl rfl rfl rfl (by first | exact Nat.le_of_ble_eq_true rfl | omega | (dsimp only; omega) | (simp only [addS_eq, mulS_eq]; omega)) ?_ | refine QuG.l1 cok 2 rfl rfl rfl rfl rfl (by first | exact Nat.le_of_ble_eq_true rfl | omega | (dsimp only; omega) | (simp only [addS_eq, mulS_eq]; omega)) ?_) | (refine still_in ?_; first | refine still_drop (by decide) ?_) | (refine OpG.keep ?_; first | refine OpG.s1 cok 1 rfl rfl rfl rfl rfl (by first | exact Nat.le_of_ble_eq_true rfl | omega | (dsimp only; omega) | (simp only [addS_eq, mulS_eq]; omega)) rfl rfl ?_) | refine W.drawI 17 cok [0, 0, 2, 6, 14, 0, 32, 96, 224, 480, 992, 0, 2048, 6144, 14336, 30720, 63488, 131070, 262143, 524287, 1048575] [0, 1, 2, 3, 4, 5, 6, 7, 8, 9, 10, 11, 12, 13, 14, 15, 16, 17, 18, 19, 20] [4, 8, 14] (by kernel_rfl) (by kernel_rfl) ?_ | refine W.drawI 23 cok [0, 1, 3, 7, 0, 16, 48, 112, 240, 496, 1023, 2047] [0, 1, 2, 3, 4, 5, 6, 7, 8, 9, 10, 11] [3, 7] (by kernel_rfl) (by kernel_rfl) ?_)
  refine callN (nAdd (hg0.up hs1) hv (NB_p (Nat.lt_trans hgb (Nat.pow_lt_pow_right (by decide) (by decide))))) fun gv J2 hs2 hgv => ?_
  replace hs2 : HL.Sub J1 J2 := hs2
  have ogv := NatI.isl hgv
  repeat (first | (refine OpG.keep ?_; first | refine OpG.s1 cok 2 rfl rfl rfl rfl rfl (by first | exact Nat.le_of_ble_eq_true rfl | omega | (dsimp only; omega) | (simp only [addS_eq, mulS_eq]; omega)) rfl (by assumption) ?_) | refine SeqS.go cok ?_ | refine CondS.t rfl ?_)
  refine callN (yNum (n := 1) (by decide)) fun v1 J3 hs3 hv1 => ?_
  replace hs3 : HL.Sub J2 J3 := hs3
  repeat (first | refine SeqS.go cok ?_ | refine CondS.t rfl ?_ | refine And.intro (Eq.refl true) ?_ | (refine ValS.keep ?_; first | with_reducible refine ValS.sl0 ?_))
  refine callN (FromBE_byt (ch_byt List.mem_cons_self hsf) (by decide +kernel)) fun v2 J4 hs4 hv2 => ?_
  replace hs4 : HL.Sub J3 J4 := hs4
  have hsA := ((hs1.trans hs2).trans hs3).trans hs4
  rw [val_cr] at hv2
  repeat (first | refine SeqS.go cok ?_ | (refine QuG.keep ?_; first | refine QuG.l1 cok 2 rfl rfl rfl rfl rfl (by first | exact Nat.le_of_ble_eq_true rfl | omega | (dsimp only; omega) | (simp only [addS_eq, mulS_eq]; omega)) ?_))
  refine (hsm _ _ _ (h7.up hsA)).mono ?_
  rintro r _ - ⟨rfl, rfl⟩
  repeat (first | refine SeqS.go cok ?_ | refine CondS.f rfl ?_ | (refine ValS.keep ?_; first | (with_reducible refine ValS.kU64 ?_; first | (with_reducible refine ValS.convU64 ?_ ?_ ; omega) | with_reducible refine ValS.minN ?_)))
  refine CallG.focus 2 rfl ?_
  refine (yAnswer (t := 0) (s := []) (cf := upd c 4 gv) (by omega) (hpc.up hsA) (hstk.up hsA) (by decide) (by decide) (Nat.lt_trans hpb (by decide)) hv2).mono ?_
  rintro r _ hs5 ⟨J5, sv, pv, rfl, q1, q2, q3, q4⟩
  replace hs5 : HL.Sub J4 J5 := hs5
  skip
  exact Fin.rot3 ⟨J5, gv, sv, pv, rfl, (((hgv.up hs3).up hs4).up hs5), q1, q2, q3, q4⟩
theorem ych_end {J : Ent → Prop} {K : YK} {τ : NS} {M ML : List Ent} {pc g0 g1 : Nat} {gv gv2 sv pv : Value} (h : YI I fb (upd cs 9 (HL.sl fb 0 1 1)) c K ⟨pc, g0, [], τ.mem, τ.w⟩ M ML) (hs : HL.Sub I J) (e1 : τ.pc = pc + 1) (e2 : τ.gas = g0 + g1) (ts : τ.s = [bev crAd]) (hN : NOk K τ) (hg : NatI J gv2 (g0 + g1)) (hk : StkI J sv [bev crAd]) (hp : NatI J pv (pc + 1)) (o1 : one sv = true) (o2 : one pv = true) :
    YI J fb (upd (upd cs 10 (.slice none 0 0)) 9 (HL.sl fb 0 1 1)) (upd (upd (upd (upd c 64 gv) 4 gv2) 8 sv) 3 pv) K τ M ML ∧ ∀ k, 8 ≤ k → k ≠ 9 → upd (upd cs 10 (.slice none 0 0)) 9 (HL.sl fb 0 1 1) k = cs k := by
  have hret : cs 10 = .slice none 0 0 := h.e.ret
  have ec : upd cs 10 (.slice none 0 0) = cs := upd_id hret
  rw [ec]
  have h1 : YI J fb (upd cs 9 (HL.sl fb 0 1 1)) (upd (upd c 64 gv) 4 gv2) K ⟨pc, g0 + g1, [], τ.mem, τ.w⟩ M ML :=
    h.chg hs (h.c.W.up hs) (h.l.up hs) (fun _ _ _ => rfl) ⟨1, rfl⟩ (fun k a b c d e => by rw [upd_ne b, upd_ne (by omega)]) hg (h.c.F.fstk.up hs) (h.o1 6 (by decide)) (h.o1 7 (by decide)) h.c.B
  have h2 := h1.next (σ' := τ) (J := J) (fun _ hx => hx) ⟨h1.c.W, fun _ _ => rfl⟩ h1.l h1.m e2 (by rw [e1]; exact hp) o2 (by rw [ts]; exact hk) o1 hN
  exact ⟨h2, fun k h8 h9 => upd_ne h9⟩
/-- yp.Chain.Step of the child: the outer frame goes on behind CREATE -/
theorem chStep {K : YK} {τ : NS} {M ML : List Ent} (h : YCh I fb fsz cs c K τ M ML) (hsz : 179 ≤ ssz) (hN : NOk K τ) :
    CallG Hvaf.prog 30 #[ptr sb 0] ⟨I, ⟨sb, ssz, Ts, cs⟩ :: ⟨fb, fsz, 156, c⟩ :: (M ++ ML)⟩ fun r S' => r = .bool true ∧ ∃ J cs' cf', S' = ⟨J, ⟨sb, ssz, Ts, cs'⟩ :: ⟨fb, fsz, 156, cf'⟩ :: (M ++ ML)⟩ ∧ YI J fb cs' cf' K τ M ML ∧ ∀ k, 8 ≤ k → k ≠ 9 → cs' k = cs k := by
  obtain ⟨cap, h9, hfs, hcap⟩ := h.cp
  have hfz : 120 ≤ fsz := by rw [hfs, mulS_eq]; omega
  obtain ⟨pc, g0, g1, hY, hg1, e1, e2, hpb⟩ := h.st
  obtain ⟨n, hcd⟩ := h.ccd
  have hn47 := hcd.2.1
  rw [List.length_replicate] at hn47
  have hph : cs 11 = .int .u8 1 := hY.e.ph
  have hret : cs 10 = .slice none 0 0 := hY.e.ret
  have hgN := hY.c.F.fgas
  have hnt := h.cn
  have hgb : g0 + g1 < 2 ^ 100 := Nat.lt_of_le_of_lt (show g0 + g1 ≤ 1048576 by have := hN.gm; omega) (by decide)
  have hop := fun (G : List Ent) => chOpcode (I := I) (G := G) (fb := fb) (T := 156) hfz h.cpc hcd hn47
  have href := fun (G : List Ent) => chRefusal (I := I) (G := G) (sb := sb) (ssz := ssz) (Ts := Ts) (cs := cs) (fb := fb) (T := 156) hfz h.cst h.csk h.cme hg1
  have hlv := fun (J4 : Ent → Prop) (hsA : HL.Sub I J4) (gv : Value) (hgv1 : one gv = true) (hgv4 : NatI J4 gv g1) => chLeave (I := J4) (G := M ++ ML) (sb := sb) (ssz := ssz) (fb := fb) (fsz := fsz) (Ts := Ts) (cs := cs) (c := upd c 64 gv) hsz hfz hcap h9 h.ck (fun k hk => by unfold upd; split; exact hgv1; exact h.co k hk) hgv4 (hgN.up hsA) (h.ol.up hsA) (hY.c.F.fpc.up hsA) hpb hgb (hY.c.F.fstk.up hsA) ⟨fun i hi => (upd_ne (by omega)).trans (h.csf.get i hi)⟩
  refine CallG.start (C := mkC Hvaf.prog) cok (args := [ptr sb 0]) Hvaf.func30 rfl Hvaf.ntmps30 (by simp) (by kernel_rfl) ?_
  repeat (first | (refine QuG.keep ?_; first | refine QuG.l1E cok 0 rfl rfl rfl rfl rfl (by first | exact Nat.le_of_ble_eq_true rfl | omega | (dsimp only; omega) | (simp only [addS_eq, mulS_eq]; omega)) (by assumption) ?_ | refine QuG.l1E cok 1 rfl rfl rfl rfl rfl (by first | exact Nat.le_of_ble_eq_true rfl | omega | (dsimp only; omega) | (simp only [addS_eq, mulS_eq]; omega)) (by assumption) ?_) | refine SeqS.go cok ?_ | refine GuardS.yes rfl ?_ | refine CondS.f rfl ?_ | refine And.intro (by omega) ?_ | (refine NatS.keep ?_; first | with_reducible refine NatS.nat ?_) | (refine ValS.keep ?_; first | (with_reducible refine ValS.kI64 ?_; first | (with_reducible refine ValS.subI64_L ?_ ?_ ?_ ; omega; omega))) | refine W.drawI 4 cok [0, 1, 3, 7, 0, 16, 48, 112, 240, 496, 1023, 2047] [0, 1, 2, 3, 4, 5, 6, 7, 8, 9, 10, 11] [3, 7] (by kernel_rfl) (by kernel_rfl) ?_)
  refine CallG.behind [⟨sb, ssz, Ts, cs⟩] (hop _) ?_
  rintro r J G1 hs ⟨e, rfl⟩
  cases e
  repeat (first | refine SeqS.go cok ?_)
  refine (href _).mono ?_
  rintro r ⟨J2, _⟩ hs2 ⟨rfl, v, rfl, hcN⟩
  replace hs2 : HL.Sub I J2 := hs2
  replace hcN : NatI J2 v _ := hcN
  repeat (first | refine SeqS.go cok ?_ | refine CondS.f rfl ?_ | (refine QuG.keep ?_; first | refine QuG.l1 cok 1 rfl rfl rfl rfl rfl (by first | exact Nat.le_of_ble_eq_true rfl | omega | (dsimp only; omega) | (simp only [addS_eq, mulS_eq]; omega)) ?_))
  refine callN (yLess (hg1.up hs2) hcN) fun gv J3 hs3 hgv => ?_
  replace hs3 : HL.Sub J2 J3 := hs3
  have hgv1 := NatI.isl hgv
  repeat (first | (refine OpG.keep ?_; first | refine OpG.s1 cok 1 rfl rfl rfl rfl rfl (by first | exact Nat.le_of_ble_eq_true rfl | omega | (dsimp only; omega) | (simp only [addS_eq, mulS_eq]; omega)) rfl (by assumption) ?_) | refine SeqS.go cok ?_)
  refine chReach.mono ?_
  rintro r _ - ⟨rfl, rfl⟩
  skip
  refine CallG.behind [⟨sb, ssz, Ts, cs⟩] (chGrow (c := upd c 64 gv) hfz h.cme) ?_
  rintro r J4 _ hs4 e4
  cases e4
  replace hs4 : HL.Sub J3 J4 := hs4
  have hsA : HL.Sub I J4 := (hs2.trans hs3).trans hs4
  have hgv4 : NatI J4 gv g1 := hgv.up hs4
  repeat (first | refine SeqS.go cok ?_ | refine CondS.t rfl ?_)
  refine CallG.idB2 (c := upd c 64 gv) rfl ?_
  refine (hlv J4 hsA gv hgv1 hgv4).mono ?_
  rintro r _ hs5 ⟨J5, gv2, sv, pv, rfl, q1, q2, q3, q4, q5⟩
  replace hs5 : HL.Sub J4 J5 := hs5
  repeat (first | refine SeqS.go cok ?_)
  exact Fin.same ⟨rfl, J5, _, _, rfl, ych_end (gv := gv) hY (hsA.trans hs5) e1 e2 h.ts hN q1 q2 q3 q4 q5⟩
end
end Go.Proofs.YgvafwGreat
