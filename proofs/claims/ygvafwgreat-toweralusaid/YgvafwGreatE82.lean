import Derived.Test.YgvafwGreatV15
import Derived.Test.YgvafwGreatV5
import Derived.Test.YgvafwGreatV6a
import Derived.Test.YgvafwGreatE37
import Derived.Test.YgvafwGreatE33
import Derived.Test.YgvafwGreatK18
set_option exponentiation.threshold 1000
set_option maxRecDepth 100000
set_option maxHeartbeats 4000000
set_option linter.unusedVariables false
set_option linter.unusedSimpArgs false
-- v2
-- v4
-- v5
-- v6
-- v7
namespace Go.Proofs.YgvafwGreat
open Go.HL Go.Proofs

/-- vault.Vault.IsMade -/
theorem vIsMade {I : Ent → Prop} {R G : List Ent} {cb sz : Nat} {T : TypeId} {c : Nat → Value} {V : Vl} {a : List Nat} (hsz : 27019 ≤ sz) (hV : VI I c V G) (hO : VOk V) (ha : AdOk a) :
    CallG Hvaf.prog 322 #[ptr cb 2435, bytesV a] ⟨I, ⟨cb, sz, T, c⟩ :: (R ++ G)⟩ fun r S' => ⟨I, ⟨cb, sz, T, c⟩ :: (R ++ G)⟩ = S' ∧ r = .bool (V.acc a).made := by
  have hal := ha.len
  have hab := ha.bv
  have hln := hO.aln
  by_cases hi : V.ix a < V.ac.length
  · have hfn := vFindY (R := R) (cb := cb) (T := T) hsz hV hO ha hi
    have hm := Vl.accY hi
    have hi' : V.ix a < (V.ac.map VA.enc).length := by rw [List.length_map]; exact hi
    obtain ⟨x, cap', hxG, hf', hE⟩ := hV.acc.2 (by omega)
    have hrd : ∀ L, Rd ⟨I, L ++ (⟨cb, sz, T, c⟩ :: (R ++ G))⟩ x := fun L => .inr (by simp [hxG])
    have hen : ((V.ac.map VA.enc).getD (V.ix a) []).getD 27 undef = .bool (V.acc a).made := by
      rw [getD_map (d := dVA) hi]; exact VA.enc_get _ (hO.aok _ hm).len 7
    generalize V.ix a = i at *
    have hi2 : i < 2000 := by omega
    refine CallG.start (C := mkC Hvaf.prog) cok (args := [ptr cb 2435, bytesV a]) Hvaf.func322 rfl Hvaf.ntmps322 (by simp) (by kernel_rfl) ?_
    intro xb
    repeat (first | (refine QuG.keep ?_; first | refine QuG.boxL cok 0 rfl rfl rfl rfl rfl (by assumption) ?_) | refine SeqS.go cok ?_)
    refine CallG.sameL [_] hfn ?_
    repeat (first | (refine QuG.keep ?_; refine QuG.elF cok hE (hrd [⟨_, _, _, _⟩]) rfl rfl rfl rfl (by simp only [addS_eq, mulS_eq]) hi' (by decide) hen ?_) | (refine QuG.keep ?_; first | refine QuG.l1E cok 1 rfl rfl rfl rfl rfl (by first | exact Nat.le_of_ble_eq_true rfl | omega | (dsimp only; omega) | (simp only [addS_eq, mulS_eq]; omega)) (by assumption) ?_) | refine SeqS.go cok ?_ | refine GuardS.yes rfl ?_ | refine And.intro (by omega) ?_ | (refine NatS.keep ?_; first | with_reducible refine NatS.nat ?_))
    exact Fin.drop (⟨cb, sz, T, c⟩ :: (R ++ G)) [_] ⟨rfl, rfl⟩
  · obtain ⟨p, hp, hfn⟩ := vFindN (R := R) (cb := cb) (T := T) hsz hV hO ha hi
    have hplt := hp.lt
    rw [Vl.accN hi]
    refine CallG.start (C := mkC Hvaf.prog) cok (args := [ptr cb 2435, bytesV a]) Hvaf.func322 rfl Hvaf.ntmps322 (by simp) (by kernel_rfl) ?_
    intro xb
    repeat (first | (refine QuG.keep ?_; first | refine QuG.boxL cok 0 rfl rfl rfl rfl rfl (by assumption) ?_) | refine SeqS.go cok ?_)
    refine CallG.sameL [_] hfn ?_
    repeat (first | refine SeqS.go cok ?_ | refine GuardS.no rfl ?_)
    exact Fin.drop (⟨cb, sz, T, c⟩ :: (R ++ G)) [_] ⟨rfl, rfl⟩
theorem VI.marks {I : Ent → Prop} {c : Nat → Value} {V : Vl} {G : List Ent} {v : Value} {k : Nat} (h : VI I c V G) : VI I (upd (upd c (addS 10630 (mulS 1 1)) v) 27014 (.int .i32 (k : Nat))) { V with nm := k } G := by
  have e : ∀ q, q ≠ 10631 → q ≠ 27014 → upd (upd c (addS 10630 (mulS 1 1)) v) 27014 (.int .i32 (k : Nat)) q = c q := fun q h1 h2 => (updNe h2).trans (updNe (by rw [addS_eq, mulS_eq]; omega))
  obtain ⟨MA, MS, MJ, ML, MT, MH, hp, hb⟩ := h.own
  refine ⟨⟨MA, MS, MJ, ML, MT, MH, hp, ⟨?_, ?_, ?_, ?_, ?_, ?_⟩⟩, fun p hp => ?_, fun p hp => ?_, ?_, updEq, ?_, h.cd⟩
  · rw [e _ (by decide) (by decide)]; exact hb.oa
  · rw [e _ (by decide) (by decide)]; exact hb.os
  · rw [e _ (by decide) (by decide)]; exact hb.oj
  · rw [e _ (by decide) (by decide)]; exact hb.ol
  · rw [e _ (by decide) (by decide)]; exact hb.ot
  · rw [e _ (by decide) (by decide)]; exact hb.oh
  · rw [e _ (by omega) (by omega)]; exact h.ta p hp
  · rw [e _ (by omega) (by omega)]; exact h.ts p hp
  · rw [e _ (by decide) (by decide)]; exact h.mrk
  · rw [e _ (by decide) (by decide)]; exact h.rf
theorem out31 {c : Nat → Value} {v u : Value} : Out c (upd (upd c (addS 10630 (mulS 1 1)) v) 27014 u) := fun k hk => (updNe (by omega)).trans (updNe (by rw [addS_eq, mulS_eq]; omega))
/-- vault.Vault.Snap, the second -/
theorem vSnap1 {I : Ent → Prop} {R G : List Ent} {cb sz : Nat} {T : TypeId} {c : Nat → Value} {V : Vl} (hsz : 27019 ≤ sz) (hV : VI I c V G) (hO : VOk V) (h0 : V.nm = 1) :
    CallG Hvaf.prog 188 #[ptr cb 2435] ⟨I, ⟨cb, sz, T, c⟩ :: (R ++ G)⟩ fun r S' => r = .int .i32 ((1 : Nat) : Int) ∧ ∃ c', S' = ⟨I, ⟨cb, sz, T, c'⟩ :: (R ++ G)⟩ ∧ VI I c' { V with nm := 2 } G ∧ VOk { V with nm := 2 } ∧ Out c c' := by
  have hnm := hV.nm
  have hjl := hO.jln
  rw [h0] at hnm
  obtain ⟨ad, cap, hf⟩ : ∃ ad cap, c 10629 = .slice ad V.jr.length cap := by
    obtain ⟨MA, MS, MJ, ML, MT, MH, hpm, hb⟩ := hV.own
    obtain ⟨ad, cap, h⟩ := hb.oj.form
    rw [List.length_map] at h; exact ⟨ad, cap, h⟩
  have hnm2 : upd c (addS 10630 (mulS 1 1)) (.int .i32 (V.jr.length : Nat)) 27014 = .int .i32 ((1 : Nat) : Int) := (updNe (by decide)).trans hnm
  have hnm3 : upd (upd c (addS 10630 (mulS 1 1)) (.int .i32 (V.jr.length : Nat))) 27014 (.int .i32 ((2 : Nat) : Int)) 27014 = .int .i32 ((2 : Nat) : Int) := updEq
  refine CallG.start (C := mkC Hvaf.prog) cok (args := [ptr cb 2435]) Hvaf.func188 rfl Hvaf.ntmps188 (by simp) (by kernel_rfl) ?_
  repeat (first | (refine QuG.keep ?_; first | refine QuG.l1E cok 0 rfl rfl rfl rfl rfl (by first | exact Nat.le_of_ble_eq_true rfl | omega | (dsimp only; omega) | (simp only [addS_eq, mulS_eq]; omega)) (by assumption) ?_) | refine SeqS.go cok ?_ | refine GuardS.yes rfl ?_ | refine CondS.f rfl ?_ | refine And.intro (by dsimp only; omega) ?_ | (refine NatS.keep ?_; first | with_reducible refine NatS.nat ?_) | (refine ValS.keep ?_; first | (with_reducible refine ValS.kI32 ?_; first | (with_reducible refine ValS.convI32 ?_ ?_ ; omega) | (with_reducible refine ValS.addI32_L ?_ ?_ ; omega) | (with_reducible refine ValS.subI32_L ?_ ?_ ?_ ; omega; omega))) | (refine still_in ?_; first | refine still_drop (by decide) ?_) | (refine OpG.keep ?_; first | refine OpG.s1 cok 0 rfl rfl rfl rfl rfl (by first | exact Nat.le_of_ble_eq_true rfl | omega | (dsimp only; omega) | (simp only [addS_eq, mulS_eq]; omega)) rfl rfl ?_) | refine W.drawI 3 cok [0, 0, 2, 6, 14, 0, 32, 96, 224, 480, 992, 1, 2049, 8191, 16383] [0, 1, 2, 3, 4, 5, 6, 7, 8, 9, 10, 11, 12, 13, 14] [4, 8] (by kernel_rfl) (by kernel_rfl) ?_)
  exact Fin.same ⟨rfl, _, rfl, VI.marks hV, { hO with }, out31⟩
/-- mem.Arena.Enter, the second frame -/
theorem mArEnter1 {I : Ent → Prop} {G : List Ent} {cb sz m : Nat} {T : TypeId} {c : Nat → Value} (hsz : 2435 ≤ sz) (h10 : c 10 = .int .u8 ((1 : Nat) : Int)) (h3 : c 3 = .int .u32 (m : Nat)) :
    CallG Hvaf.prog 189 #[ptr cb 1] ⟨I, ⟨cb, sz, T, c⟩ :: G⟩ fun r S' => r = .bool true ∧ S' = ⟨I, ⟨cb, sz, T, upd (upd c 4 (.int .u32 (m : Nat))) 10 (.int .u8 ((2 : Nat) : Int))⟩ :: G⟩ := by
  refine CallG.start (C := mkC Hvaf.prog) cok (args := [ptr cb 1]) Hvaf.func189 rfl Hvaf.ntmps189 (by simp) (by kernel_rfl) ?_
  repeat (first | (refine QuG.keep ?_; first | refine QuG.l1E cok 0 rfl rfl rfl rfl rfl (by first | exact Nat.le_of_ble_eq_true rfl | omega | (dsimp only; omega) | (simp only [addS_eq, mulS_eq]; omega)) (by assumption) ?_) | refine SeqS.go cok ?_ | refine CondS.f rfl ?_ | refine And.intro (by dsimp only; omega) ?_ | (refine NatS.keep ?_; first | with_reducible refine NatS.nat ?_) | (refine ValS.keep ?_; first | (with_reducible refine ValS.kU8 ?_; first | (with_reducible refine ValS.addU8_L ?_ ?_ ; omega))) | (refine still_in ?_; first | refine still_drop (by decide) ?_) | (refine OpG.keep ?_; first | refine OpG.s1 cok 0 rfl rfl rfl rfl rfl (by first | exact Nat.le_of_ble_eq_true rfl | omega | (dsimp only; omega) | (simp only [addS_eq, mulS_eq]; omega)) rfl rfl ?_) | refine W.drawI 3 cok [0, 0, 2, 6, 14, 30, 0, 0, 128, 384, 896, 64, 2112, 8128, 16320, 1, 32769, 131071, 262143] [0, 1, 2, 3, 4, 5, 6, 7, 8, 9, 10, 11, 12, 13, 14, 15, 16, 17, 18] [4, 10, 14] (by kernel_rfl) (by kernel_rfl) ?_)
  exact Fin.same ⟨rfl, rfl⟩
/-- mem.Arena.Leave, the second frame -/
theorem mLeave2 {I : Ent → Prop} {G : List Ent} {cb sz : Nat} {T : TypeId} {c : Nat → Value} (hsz : 2435 ≤ sz) (h10 : c 10 = .int .u8 ((2 : Nat) : Int)) :
    CallG Hvaf.prog 266 #[ptr cb 1] ⟨I, ⟨cb, sz, T, c⟩ :: G⟩ fun r S' => S' = ⟨I, ⟨cb, sz, T, upd c 10 (.int .u8 ((1 : Nat) : Int))⟩ :: G⟩ ∧ r = .bool true := by
  refine CallG.start (C := mkC Hvaf.prog) cok (args := [ptr cb 1]) Hvaf.func266 rfl Hvaf.ntmps266 (by simp) (by kernel_rfl) ?_
  repeat (first | (refine QuG.keep ?_; first | refine QuG.l1E cok 0 rfl rfl rfl rfl rfl (by first | exact Nat.le_of_ble_eq_true rfl | omega | (dsimp only; omega) | (simp only [addS_eq, mulS_eq]; omega)) (by assumption) ?_) | refine SeqS.go cok ?_ | refine CondS.f rfl ?_ | (refine ValS.keep ?_; first | (with_reducible refine ValS.kU8 ?_; first | (with_reducible refine ValS.subU8_L ?_ ?_ ?_ ; omega; omega))) | (refine OpG.keep ?_; first | refine OpG.s1 cok 0 rfl rfl rfl rfl rfl (by first | exact Nat.le_of_ble_eq_true rfl | omega | (dsimp only; omega) | (simp only [addS_eq, mulS_eq]; omega)) rfl rfl ?_))
  exact Fin.same ⟨rfl, rfl⟩
/-- mach.Machine.running, the second frame -/
theorem mRunning1 {I : Ent → Prop} {G : List Ent} {cb sz : Nat} {T : TypeId} {c : Nat → Value} (hsz : 2435 ≤ sz) (h1 : c 2404 = .int .u8 1) (h2 : c 0 = ptr cb 2435) (h3 : c 2258 = .int .i8 1) :
    CallG Hvaf.prog 193 #[ptr cb 0] ⟨I, ⟨cb, sz, T, c⟩ :: G⟩ fun r S' => ⟨I, ⟨cb, sz, T, c⟩ :: G⟩ = S' ∧ r = ptr cb 1868 := by
  refine CallG.start (C := mkC Hvaf.prog) cok (args := [ptr cb 0]) Hvaf.func193 rfl Hvaf.ntmps193 (by simp) (by kernel_rfl) ?_
  repeat (first | (refine QuG.keep ?_; first | refine QuG.l1E cok 0 rfl rfl rfl rfl rfl (by first | exact Nat.le_of_ble_eq_true rfl | omega | (dsimp only; omega) | (simp only [addS_eq, mulS_eq]; omega)) (by assumption) ?_) | refine SeqS.go cok ?_ | refine GuardS.yes rfl ?_ | refine CondS.f rfl ?_ | refine And.intro (by dsimp only; omega) ?_ | (refine NatS.keep ?_; first | with_reducible refine NatS.lit ?_) | refine W.drawI 3 cok [0, 0, 2, 6, 14, 1, 33, 127, 255] [0, 1, 2, 3, 4, 5, 6, 7, 8] [4] (by kernel_rfl) (by kernel_rfl) ?_)
  exact Fin.same ⟨rfl, rfl⟩
/-- mach.Machine.Taken where the account is new -/
theorem mTaken {I : Ent → Prop} {R G : List Ent} {cb sz : Nat} {T : TypeId} {c : Nat → Value} {V : Vl} {a : List Nat} (hsz : 27019 ≤ sz) (hS : c 0 = ptr cb 2435) (hV : VI I c V G) (hO : VOk V) (ha : AdOk a) (hn : (V.acc a).nonce = 0) (hc : (V.acc a).code = []) :
    CallG Hvaf.prog 116 #[ptr cb 0, bytesV a] ⟨I, ⟨cb, sz, T, c⟩ :: (R ++ G)⟩ fun r S' => r = .bool false ∧ S'.G = ⟨cb, sz, T, c⟩ :: (R ++ G) := by
  have hno := vNonce (R := R) (cb := cb) (T := T) hsz hV hO ha
  rw [hn] at hno
  have hco := vCode (R := R) (cb := cb) (T := T) hsz hV hO ha
  rw [hc] at hco
  have hal := ha.len
  have hab := ha.bv
  refine CallG.start (C := mkC Hvaf.prog) cok (args := [ptr cb 0, bytesV a]) Hvaf.func116 rfl Hvaf.ntmps116 (by simp) (by kernel_rfl) ?_
  intro x1
  repeat (first | (refine QuG.keep ?_; first | refine QuG.l1E cok 1 rfl rfl rfl rfl rfl (by first | exact Nat.le_of_ble_eq_true rfl | omega | (dsimp only; omega) | (simp only [addS_eq, mulS_eq]; omega)) (by assumption) ?_ | refine QuG.boxL cok 0 rfl rfl rfl rfl rfl (by assumption) ?_) | refine SeqS.go cok ?_ | refine W.drawI 1 cok [0, 1, 3, 7, 0, 31, 63, 127, 255, 511, 1023, 2047, 255, 8191, 16383, 32767, 65535, 131071] [0, 1, 2, 3, 4, 5, 6, 7, 8, 9, 10, 11, 12, 13, 14, 15, 16, 17] [3, 4, 11, 12] (by kernel_rfl) (by kernel_rfl) ?_)
  refine CallG.sameL [_] hno ?_
  repeat (first | (refine QuG.keep ?_; first | refine QuG.l1E cok 1 rfl rfl rfl rfl rfl (by first | exact Nat.le_of_ble_eq_true rfl | omega | (dsimp only; omega) | (simp only [addS_eq, mulS_eq]; omega)) (by assumption) ?_ | refine QuG.boxL cok 0 rfl rfl rfl rfl rfl (by assumption) ?_) | refine GuardS.yes rfl ?_ | (refine still_in ?_; first | refine still_drop (by decide) ?_))
  refine CallG.behind [_] hco ?_
  rintro r J G1 hs ⟨hS', hB⟩
  replace hS' : G1 = _ := hS'
  subst hS'
  obtain ⟨ad, cap, rfl, -⟩ := hB.form
  repeat (first | refine SeqS.go cok ?_ | refine GuardS.yes rfl ?_ | (refine still_in ?_; first | refine still_drop (by decide) ?_))
  exact Fin.drop (⟨cb, sz, T, c⟩ :: (R ++ G)) [_] ⟨rfl, rfl⟩
theorem one0 {p : Nat} (h : p < 20) : one (vc (bytesV (adNo 1)) (0 + p)) = true := by
  rw [Nat.zero_add]; exact (by decide : ∀ p, p < 20 → one (vc (bytesV (adNo 1)) p) = true) p h
/-- mach.CreateAddr of account 1 at nonce 1 -/
theorem mCreateAddr {I : Ent → Prop} {G : List Ent} : CallG Hvaf.prog 103 #[bytesV (adNo 1), .int .u64 ((1 : Nat) : Int)] ⟨I, G⟩ fun r S' => ⟨I, G⟩ = S' ∧ r = bytesV crAd := by
  refine CallG.start (C := mkC Hvaf.prog) cok (args := [bytesV (adNo 1), .int .u64 ((1 : Nat) : Int)]) Hvaf.func103 rfl Hvaf.ntmps103 (by simp) (by kernel_rfl) ?_
  intro x1 x2
  repeat (first | refine SeqS.go cok ?_)
  intro x3
  repeat (first | refine SeqS.go cok ?_ | refine And.intro (Eq.refl true) ?_ | refine And.intro (by omega) ?_ | refine And.intro (by dsimp only; omega) ?_ | (refine NatS.keep ?_; first | with_reducible refine NatS.lit ?_) | (refine OpG.keep ?_; first | refine OpG.s1 cok 0 rfl rfl rfl rfl rfl (by first | exact Nat.le_of_ble_eq_true rfl | omega | (dsimp only; omega) | (simp only [addS_eq, mulS_eq]; omega)) rfl rfl ?_) | refine W.drawI 3 cok [0, 0, 3] [0, 1, 2] [] (by kernel_rfl) (by kernel_rfl) ?_)
  refine ValS.to (u := HL.sl x3 2 20 30) rfl ?_
  repeat (first | refine And.intro (Eq.refl true) ?_ | (refine ValS.keep ?_; first | with_reducible refine ValS.sl0 ?_))
  refine OpG.keep ?_
  refine OpG.copyQ cok 0 (q := 20) (by rfl) rfl (y := ⟨x1, (bytesV (adNo 1)).cells.size, 31, vc (bytesV (adNo 1))⟩) (.inr (List.mem_of_getElem? (i := 2) rfl)) rfl rfl rfl rfl rfl rfl rfl ?_ ?_ ?_ ?_
  · show 2 + 20 ≤ 32; decide
  · show 0 + mulS 20 1 ≤ 20; decide
  · exact fun p hp => one0 hp
  repeat (first | refine SeqS.go cok ?_ | refine CondS.t rfl ?_ | refine CondS.f rfl ?_ | refine And.intro (Eq.refl true) ?_ | refine And.intro (by dsimp only; omega) ?_ | (refine NatS.keep ?_; first | with_reducible refine NatS.lit ?_ | with_reducible refine NatS.nat ?_) | (refine ValS.keep ?_; first | (with_reducible refine ValS.kI64 ?_; first | (with_reducible refine ValS.addI64_LL ?_ ?_ ; omega)) | (with_reducible refine ValS.kU8 ?_; first | (with_reducible refine ValS.convU8 ?_ ?_ ; omega) | (with_reducible refine ValS.addU8_M ?_ ?_ ; omega)) | with_reducible refine ValS.sl0 ?_) | (refine OpG.keep ?_; first | refine OpG.s1 cok 0 rfl rfl rfl rfl rfl (by first | exact Nat.le_of_ble_eq_true rfl | omega | (dsimp only; omega) | (simp only [addS_eq, mulS_eq]; omega)) rfl rfl ?_))
  refine (kSumE (ds := crL) ⟨by decide, by decide, some ⟨x3, 0, none⟩, 32, rfl, by decide, by decide, .inr ⟨⟨x3, 32, 22, _⟩, 0, rfl, .inr (List.mem_of_getElem? (i := 0) rfl), (by show 0 + 23 ≤ 32; decide), fun i hi => ?_⟩⟩ (by decide)).mono ?_
  · have hi : i < 23 := hi
    rcases (by omega : i = 0 ∨ i = 1 ∨ i = 2 ∨ i = 3 ∨ i = 4 ∨ i = 5 ∨ i = 6 ∨ i = 7 ∨ i = 8 ∨ i = 9 ∨ i = 10 ∨ i = 11 ∨ i = 12 ∨ i = 13 ∨ i = 14 ∨ i = 15 ∨ i = 16 ∨ i = 17 ∨ i = 18 ∨ i = 19 ∨ i = 20 ∨ i = 21 ∨ i = 22) with rfl | rfl | rfl | rfl | rfl | rfl | rfl | rfl | rfl | rfl | rfl | rfl | rfl | rfl | rfl | rfl | rfl | rfl | rfl | rfl | rfl | rfl | rfl <;> rfl
  rw [kec_cr]
  rintro r _ - ⟨rfl, rfl⟩
  skip
  intro x4
  repeat (first | refine SeqS.go cok ?_ | refine And.intro (Eq.refl true) ?_ | refine And.intro (by omega) ?_ | refine And.intro (by dsimp only; omega) ?_ | (refine NatS.keep ?_; first | with_reducible refine NatS.lit ?_) | (refine OpG.keep ?_; first | refine OpG.sL cok 0 rfl rfl rfl rfl rfl rfl rfl (by first | exact Nat.le_of_ble_eq_true rfl | omega | (dsimp only; omega) | (simp only [addS_eq, mulS_eq]; omega)) ?_))
  refine ValS.to (u := HL.sl x4 12 20 20) rfl ?_
  repeat (first | refine SeqS.go cok ?_ | refine And.intro (by dsimp only; omega) ?_ | (refine QuG.keep ?_; first | refine QuG.lN cok 0 rfl rfl rfl rfl rfl (by first | exact Nat.le_of_ble_eq_true rfl | omega | (dsimp only; omega) | (simp only [addS_eq, mulS_eq]; omega)) ?_) | (refine LdG.keep ?_; first | refine LdG.lN cok 2 rfl rfl rfl rfl rfl (by first | exact Nat.le_of_ble_eq_true rfl | omega | (dsimp only; omega) | (simp only [addS_eq, mulS_eq]; omega)) ?_) | (refine OpG.keep ?_; first | refine OpG.sL cok 2 rfl rfl rfl rfl rfl rfl rfl (by first | exact Nat.le_of_ble_eq_true rfl | omega | (dsimp only; omega) | (simp only [addS_eq, mulS_eq]; omega)) ?_))
  exact Fin.drop G [_, _, _, _] ⟨rfl, rfl⟩
end Go.Proofs.YgvafwGreat
