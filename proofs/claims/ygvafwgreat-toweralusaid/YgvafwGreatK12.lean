import Derived.Test.YgvafwGreatK12d
set_option maxRecDepth 100000
set_option maxHeartbeats 4000000
set_option linter.unusedVariables false
set_option linter.unusedSimpArgs false
-- v2
-- v4
-- v5
-- v6
-- v7
namespace Go.Proofs.YgvafwGreat
open Go.HL Go.Proofs

theorem bb_snoc {c z : Nat → Value} {n : Nat} {A : Nat → Bool} {u : Value} (h : BB c n A) (hu : u = .bool (A n)) : BB (updN c (0 + mulS n 1) (cellsFrom (fillC z [(0 * 1, 1, u)]) 0 (mulS 1 1))) (n + 1) A := by
  refine ⟨fun i hi => ?_⟩
  have e : mulS n 1 = n := by rw [mulS_eq, Nat.mul_one]
  have e1 : mulS 1 1 = 1 := by rw [mulS_eq]
  rw [updN_cellsFrom, e, e1]
  dsimp only
  by_cases h1 : i < n
  · rw [if_neg (by omega)]; exact h.get i h1
  · obtain rfl : i = n := by omega
    rw [if_pos (by omega)]
    subst hu
    simp [fillC, updN, Value.cells]
theorem bits_one {ds : List Nat} : bitsN ds (8 * ds.length) = true := by unfold bitsN; rw [if_neg (by omega)]; simp
theorem bits_zero {ds : List Nat} {j : Nat} (h1 : 8 * ds.length < j) (h2 : j + 1 ≠ padT ds.length) : bitsN ds j = false := by
  unfold bitsN; rw [if_neg (by omega), decide_eq_false (by omega), decide_eq_false h2]; rfl
theorem bits_last {ds : List Nat} {j : Nat} (h2 : j + 1 = padT ds.length) (h1 : 8 * ds.length < j) : bitsN ds j = true := by
  unfold bitsN; rw [if_neg (by omega), decide_eq_true h2, Bool.or_true]
/-- Byte j once i bits are laid. -/
def kecP (s : Nat → Bool) (i : Nat) : List Nat := (List.range 32).map fun j => bytB s j (min 8 (i - 8 * j))
theorem kecP_len (s : Nat → Bool) (i : Nat) : (kecP s i).length = 32 := by simp [kecP]
theorem kecP_get {s : Nat → Bool} {i p : Nat} (hp : p < 32) : (ivs .u8 (kecP s i)).getD p undef = .int .u8 ((bytB s p (min 8 (i - 8 * p)) : Nat) : Int) := by
  simp only [ivs, kecP, List.getD_eq_getElem?_getD, List.getElem?_map, List.getElem?_range hp]; rfl
theorem kecP_at {s : Nat → Bool} {i : Nat} (hi : i < 256) {z : Nat → Value} : updN z 0 (ivs .u8 (kecP s i)) (addS 0 (mulS (i / 8) 1)) = .int .u8 ((bytB s (i / 8) (i % 8) : Nat) : Int) := by
  have l1 : (ivs .u8 (kecP s i)).length = 32 := by rw [ivs, List.length_map, kecP_len]
  rw [addS_mulS _ _ _ rfl, Nat.zero_add]
  unfold updN
  rw [l1, if_pos (by omega), Nat.sub_zero, kecP_get (by omega), show min 8 (i - 8 * (i / 8)) = i % 8 by omega]
theorem kecP_T {s : Nat → Bool} {i : Nat} (hi : i < 256) {z : Nat → Value} (hs : s i = true) : upd (updN z 0 (ivs .u8 (kecP s i))) (addS 0 (mulS (i / 8) 1)) (.int .u8 ((bytB s (i / 8) (i % 8) ||| 2 ^ (i % 8) : Nat) : Int)) = updN z 0 (ivs .u8 (kecP s (i + 1))) := by
  have l1 : (ivs .u8 (kecP s i)).length = 32 := by rw [ivs, List.length_map, kecP_len]
  have l2 : (ivs .u8 (kecP s (i + 1))).length = 32 := by rw [ivs, List.length_map, kecP_len]
  have hor : bytB s (i / 8) (i % 8) ||| 2 ^ (i % 8) = bytB s (i / 8) (i % 8 + 1) := by
    rw [bytB, show 8 * (i / 8) + i % 8 = i by omega, hs, if_pos rfl]
    have := Nat.two_pow_add_eq_or_of_lt (bytB_lt s (i / 8) (i % 8)) 1
    rw [Nat.mul_one] at this
    rw [Nat.add_comm, this, Nat.or_comm]
  rw [hor, addS_mulS _ _ _ rfl, Nat.zero_add]
  funext p
  unfold upd updN
  rw [l1, l2]
  by_cases hp : p < 32
  · rw [if_pos (by omega : 0 ≤ p ∧ p < 0 + 32), if_pos (by omega : 0 ≤ p ∧ p < 0 + 32), Nat.sub_zero, kecP_get hp, kecP_get hp]
    by_cases h1 : p = i / 8
    · subst h1
      rw [if_pos rfl, show min 8 (i + 1 - 8 * (i / 8)) = i % 8 + 1 by omega]
    · rw [if_neg h1, show min 8 (i + 1 - 8 * p) = min 8 (i - 8 * p) by omega]
  · rw [if_neg (by omega), if_neg (by omega), if_neg (by omega)]
theorem kecP_F {s : Nat → Bool} {i : Nat} (hi : i < 256) (hs : s i = false) : kecP s (i + 1) = kecP s i := by
  unfold kecP
  refine List.map_congr_left fun p hp => ?_
  have hp := List.mem_range.1 hp
  by_cases h1 : p = i / 8
  · subst h1
    rw [show min 8 (i + 1 - 8 * (i / 8)) = i % 8 + 1 by omega, show min 8 (i - 8 * (i / 8)) = i % 8 by omega, bytB, show 8 * (i / 8) + i % 8 = i by omega, hs]
    rfl
  · rw [show min 8 (i + 1 - 8 * p) = min 8 (i - 8 * p) by omega]
theorem kecP_end (ds : List Nat) : kecP (spB (bitsN ds) (padT ds.length)) 256 = kecN ds := by
  unfold kecP kecN
  refine List.map_congr_left fun p hp => ?_
  have hp := List.mem_range.1 hp
  rw [show min 8 (256 - 8 * p) = 8 by omega]
theorem spB_store {A : Nat → Bool} {i : Nat} {c : Nat → Value} (h : BB c 1600 (spB A i)) (v : Bool) (hv : v = (spB A i (i % 1088) != A i)) : BB (HL.upd c (addS 0 (mulS (i % 1088) 1)) (.bool v)) 1600 (fun j => if j = i % 1088 then spB A i j != A i else spB A i j) := by
  rw [addS_mulS _ _ _ rfl, Nat.zero_add]
  refine h.upd fun j hj => ?_
  by_cases hji : j = i % 1088
  · subst hji; rw [if_pos rfl, if_pos rfl, hv]
  · rw [if_neg hji, if_neg hji]
/-- kmodel.Sum -/
theorem kSum {I : Ent → Prop} {G : List Ent} {v : Value} {ds : List Nat} (hB : Byt ⟨I, G⟩ v ds) (hl : ds.length < 2 ^ 30) :
    CallG Hvaf.prog 225 #[v] ⟨I, G⟩ fun r S' => S'.G = G ∧ r = bytesV (kecN ds) := by
  obtain ⟨ad, vcap, rfl⟩ : ∃ ad cap, v = .slice ad ds.length cap := by
    rcases hB.cases with ⟨h1, h2⟩ | ⟨x, o, cap, h1, _⟩
    · exact ⟨none, 0, by rw [h1, h2]; rfl⟩
    · exact ⟨_, cap, h1⟩
  obtain ⟨CAP, hCAP⟩ : ∃ CAP, CAP = 8 * ds.length + 2176 := ⟨_, rfl⟩
  refine CallG.start (C := mkC Hvaf.prog) cok (args := [.slice ad ds.length vcap]) Hvaf.func225 rfl Hvaf.ntmps225 (by simp) (by kernel_rfl) ?_
  skip
  intro ob
  repeat (first | refine SeqS.go cok ?_ | refine And.intro (by dsimp only; omega) ?_ | (refine NatS.keep ?_; first | with_reducible refine NatS.lit ?_ | with_reducible refine NatS.nat ?_) | (refine ValS.keep ?_; first | (with_reducible refine ValS.kI64 ?_; first | (with_reducible refine ValS.addI64_L ?_ ?_ ; omega) | (with_reducible refine ValS.mulI64_M ?_ ?_ ; omega))))
  intro bb
  repeat (first | refine SeqS.go cok ?_)
  refine W.loopF cok (by kernel_rfl) 0 (fun (i : Nat) e' S' => ∃ c, S' = ⟨I, ⟨bb, mulS (8 * ds.length + 2176) 1, 4, c⟩ :: ⟨ob, 32, 22, z_int__u8_0⟩ :: G⟩ ∧ i ≤ ds.length ∧ BB c (8 * i) (bitsN ds) ∧ slots [(2, ptr ob 0), (3, sl bb 0 (8 * i) (8 * ds.length + 2176)), (17, .slice ad ds.length vcap), (18, .int .i64 (ds.length : Nat)), (19, .int .i64 (i : Nat))] e') (fun i => ds.length - i) 0
    (.same ⟨_, rfl, Nat.zero_le _, ⟨fun i hi => by omega⟩, rfl, rfl, rfl, rfl, rfl, trivial⟩)
    (fun e' S' => ∃ c, S' = ⟨I, ⟨bb, mulS (8 * ds.length + 2176) 1, 4, c⟩ :: ⟨ob, 32, 22, z_int__u8_0⟩ :: G⟩ ∧ BB c (8 * ds.length) (bitsN ds) ∧ slots [(2, ptr ob 0), (3, sl bb 0 (8 * ds.length) (8 * ds.length + 2176))] e') ?_ ?_
  · rintro e' S2 - ⟨c, rfl, hC, hsl⟩
    refine SeqS.slots cok _ hsl fun e => ?_
    repeat (first | refine And.intro (fillOk_of (Eq.refl true)) ?_ | refine And.intro (by dsimp only; omega) ?_)
    intro nb
    skip
    refine OpG.keep ?_
    refine OpG.appendRoom cok 1 rfl rfl rfl rfl rfl rfl rfl rfl rfl (.inr List.mem_cons_self) rfl ?_ ?_ ?_ ?_ ?_
    · show 0 + mulS 1 1 ≤ mulS 1 1; omega
    · omega
    · show 0 + mulS (8 * ds.length + 1) 1 ≤ mulS (8 * ds.length + 2176) 1; rw [mulS_eq, mulS_eq]; omega
    · intro p hp
      have hp : p < mulS 1 1 := hp
      rw [mulS_eq] at hp
      obtain rfl : p = 0 := by omega
      rfl
    have hfin := fun z u hu => bb_snoc (z := z) (u := u) hC hu
    rw [bits_one] at hfin
    have hpT : 8 * ds.length + 1 < padT ds.length ∧ padT ds.length ≤ 8 * ds.length + 1089 := by unfold padT; omega
    repeat (first | refine SeqS.go cok ?_)
    refine W.loopF cok (by kernel_rfl) 4 (fun (j : Nat) e' S' => ∃ c, S' = ⟨I, ⟨bb, mulS (8 * ds.length + 2176) 1, 4, c⟩ :: ⟨ob, 32, 22, z_int__u8_0⟩ :: G⟩ ∧ 8 * ds.length + 1 ≤ j ∧ j < padT ds.length ∧ BB c j (bitsN ds) ∧ slots [(2, ptr ob 0), (3, sl bb 0 j (8 * ds.length + 2176))] e') (fun j => padT ds.length - j) (8 * ds.length + 1)
      (.drop _ [_] ⟨_, rfl, Nat.le_refl _, by omega, hfin _ _ rfl, rfl, rfl, trivial⟩)
      (fun e' S' => ∃ c, S' = ⟨I, ⟨bb, mulS (8 * ds.length + 2176) 1, 4, c⟩ :: ⟨ob, 32, 22, z_int__u8_0⟩ :: G⟩ ∧ BB c (padT ds.length - 1) (bitsN ds) ∧ slots [(2, ptr ob 0), (3, sl bb 0 (padT ds.length - 1) (8 * ds.length + 2176))] e') ?_ ?_
    · rintro e' S2 - ⟨c, rfl, hC, hsl⟩
      refine SeqS.slots cok _ hsl fun e => ?_
      repeat (first | refine And.intro (fillOk_of (Eq.refl true)) ?_ | refine And.intro (by dsimp only; omega) ?_)
      intro nb
      skip
      refine OpG.keep ?_
      refine OpG.appendRoom cok 1 rfl rfl rfl rfl rfl rfl rfl rfl rfl (.inr List.mem_cons_self) rfl ?_ ?_ ?_ ?_ ?_
      · show 0 + mulS 1 1 ≤ mulS 1 1; omega
      · omega
      · show 0 + mulS (padT ds.length - 1 + 1) 1 ≤ mulS (8 * ds.length + 2176) 1; rw [mulS_eq, mulS_eq]; omega
      · intro p hp
        have hp : p < mulS 1 1 := hp
        rw [mulS_eq] at hp
        obtain rfl : p = 0 := by omega
        rfl
      have hfin := fun z u hu => bb_snoc (z := z) (u := u) hC hu
      rw [bits_last (by omega) (by omega)] at hfin
      generalize hP : padT ds.length - 1 + 1 = P at *
      have hPP : padT ds.length = P := by omega
      repeat (first | refine SeqS.go cok ?_)
      intro sb
      repeat (first | refine SeqS.go cok ?_)
      refine W.loopE cok (by kernel_rfl) 6 (fun (i : Nat) e' S' => ∃ y c cs, S' = ⟨I, ⟨sb, 1600, 393, cs⟩ :: y :: ⟨bb, mulS (8 * ds.length + 2176) 1, 4, c⟩ :: ⟨ob, 32, 22, z_int__u8_0⟩ :: G⟩ ∧ i ≤ P ∧ BB c P (bitsN ds) ∧ BB cs 1600 (spB (bitsN ds) i) ∧ slots [(2, ptr ob 0), (7, ptr sb 0), (49, sl bb 0 P (8 * ds.length + 2176)), (50, .int .i64 (P : Nat)), (51, .int .i64 (i : Nat))] e') (fun i => P - i) 0
        ⟨_, _, _, rfl, Nat.zero_le _, hfin _ _ rfl, ⟨fun i hi => rfl⟩, rfl, rfl, rfl, rfl, rfl, trivial⟩
        (fun e' S' => ∃ y c cs, S' = ⟨I, ⟨sb, 1600, 393, cs⟩ :: y :: ⟨bb, mulS (8 * ds.length + 2176) 1, 4, c⟩ :: ⟨ob, 32, 22, z_int__u8_0⟩ :: G⟩ ∧ BB cs 1600 (spB (bitsN ds) P) ∧ slots [(2, ptr ob 0), (7, ptr sb 0)] e') ?_ ?_
      · rintro e' S2 - ⟨y, c, cs, rfl, hS, hsl⟩
        refine SeqS.slots cok _ hsl fun e => ?_
        have hke := kecP_end ds
        rw [hPP] at hke
        generalize spB (bitsN ds) P = st at *
        have hkl := kecP_len st
        skip
        intro fb
        repeat (first | refine SeqS.go cok ?_)
        refine W.loopE cok (by kernel_rfl) 8 (fun (i : Nat) e' S' => S' = ⟨I, ⟨fb, 32, 22, updN z_int__u8_0 0 (ivs .u8 (kecP st i))⟩ :: ⟨sb, 1600, 393, cs⟩ :: y :: ⟨bb, mulS (8 * ds.length + 2176) 1, 4, c⟩ :: ⟨ob, 32, 22, z_int__u8_0⟩ :: G⟩ ∧ i ≤ 256 ∧ slots [(2, ptr ob 0), (7, ptr sb 0), (10, ptr fb 0), (11, .int .i64 (i : Nat))] e') (fun i => 256 - i) 0
          ⟨?_, Nat.zero_le _, rfl, rfl, rfl, rfl, trivial⟩
          (fun e' S' => S' = ⟨I, ⟨fb, 32, 22, updN z_int__u8_0 0 (ivs .u8 (kecN ds))⟩ :: ⟨sb, 1600, 393, cs⟩ :: y :: ⟨bb, mulS (8 * ds.length + 2176) 1, 4, c⟩ :: ⟨ob, 32, 22, z_int__u8_0⟩ :: G⟩ ∧ slots [(2, ptr ob 0), (10, ptr fb 0)] e') ?_ ?_
        · refine congrArg (fun c' => (⟨I, ⟨fb, 32, 22, c'⟩ :: ⟨sb, 1600, 393, cs⟩ :: y :: ⟨bb, mulS (8 * ds.length + 2176) 1, 4, c⟩ :: ⟨ob, 32, 22, z_int__u8_0⟩ :: G⟩ : St)) (updN_self ⟨fun p hp => ?_⟩).symm
          have hp2 : p < 32 := by simpa [ivs, hkl] using hp
          rw [kecP_get hp2, show min 8 (0 - 8 * p) = 0 by omega]; rfl
        · rintro e' S2 - ⟨rfl, hsl⟩
          have hl : (ivs .u8 (kecN ds)).length = 32 := by rw [ivs, List.length_map, kecN_len]
          have ho : ∀ u ∈ ivs .u8 (kecN ds), one u = true := by intro u hu; obtain ⟨d, _, rfl⟩ := List.mem_map.1 hu; rfl
          have h32 : 0 + 32 ≤ 32 := by decide
          have hce : cellsFrom (updN z_int__u8_0 0 (ivs .u8 (kecN ds))) 0 32 = ivs .u8 (kecN ds) := (Row.updN2 _ _ _).cells hl
          generalize kecN ds = kk at *
          refine SeqS.slots cok _ hsl fun e => ?_
          repeat (first | (refine OpG.keep ?_; refine OpG.upS cok 4 (o := 0) rfl rfl rfl rfl rfl hl ho h32 ?_) | (refine QuG.keep ?_; first | refine QuG.upL cok 0 rfl rfl rfl rfl rfl rfl (by assumption) (by first | exact Nat.le_of_ble_eq_true rfl | omega) ?_) | refine SeqS.go cok ?_ | (refine LdG.keep ?_; first | refine LdG.lN cok 4 rfl rfl rfl rfl rfl (by first | exact Nat.le_of_ble_eq_true rfl | omega | (dsimp only; omega) | (simp only [addS_eq, mulS_eq]; omega)) ?_))
          exact Fin.drop G [_, _, _, _, _] ⟨rfl, congrArg (fun l : List Value => Value.agg l.toArray) hce⟩
        · rintro i e' S2 - ⟨rfl, hi, hsl⟩
          refine W.slots _ hsl fun e => ?_
          by_cases hlt : i < 256
          · have hsi : cs (addS 0 (mulS i 1)) = .bool (st i) := by rw [addS_mulS _ _ _ rfl, Nat.zero_add]; exact hS.get i (by omega)
            have hat := kecP_at (s := st) hlt (z := z_int__u8_0)
            have hk8 : bytB st (i / 8) (i % 8) < 256 := Nat.lt_of_lt_of_le (bytB_lt _ _ _) (Nat.le_trans (Nat.pow_le_pow_right (by decide) (show i % 8 ≤ 8 by omega)) (by decide))
            have h2p : 2 ^ (i % 8) < 256 := Nat.lt_of_lt_of_le (Nat.pow_lt_pow_right (by decide) (show i % 8 < 8 by omega)) (by decide)
            cases hb : st i with
            | false =>
              rw [hb] at hsi
              have hF := kecP_F hlt hb
              repeat (first | (refine QuG.keep ?_; first | refine QuG.l1E cok 1 rfl rfl rfl rfl rfl (by first | exact Nat.le_of_ble_eq_true rfl | omega | (dsimp only; omega) | (simp only [addS_eq, mulS_eq]; omega)) (by assumption) ?_) | refine SeqS.go cok ?_ | refine CondS.f rfl ?_ | refine And.intro (by dsimp only; omega) ?_ | (refine NatS.keep ?_; first | with_reducible refine NatS.nat ?_) | (refine ValS.keep ?_; first | (with_reducible refine ValS.kI64 ?_; first | (with_reducible refine ValS.addI64_L ?_ ?_ ; omega))) | (refine CondS.keep ?_; first | refine CondS.d1 rfl (by omega) ?_))
              exact ⟨i + 1, ⟨by rw [hF], hlt, rfl, rfl, rfl, rfl, trivial⟩, by show 256 - (i + 1) < 256 - i; omega⟩
            | true =>
              rw [hb] at hsi
              have hT : ∀ x, x = 2 ^ (i % 8) → upd (updN z_int__u8_0 0 (ivs .u8 (kecP st i))) (addS 0 (mulS (i / 8) 1)) (.int .u8 ((bytB st (i / 8) (i % 8) ||| x : Nat) : Int)) = updN z_int__u8_0 0 (ivs .u8 (kecP st (i + 1))) := by
                rintro x rfl; exact kecP_T hlt hb
              repeat (first | (refine QuG.keep ?_; first | refine QuG.l1E cok 0 rfl rfl rfl rfl rfl (by first | exact Nat.le_of_ble_eq_true rfl | omega | (dsimp only; omega) | (simp only [addS_eq, mulS_eq]; omega)) (by assumption) ?_ | refine QuG.l1E cok 1 rfl rfl rfl rfl rfl (by first | exact Nat.le_of_ble_eq_true rfl | omega | (dsimp only; omega) | (simp only [addS_eq, mulS_eq]; omega)) (by assumption) ?_) | refine SeqS.go cok ?_ | refine CondS.t rfl ?_ | refine And.intro (by omega) ?_ | refine And.intro (by dsimp only; omega) ?_ | (refine NatS.keep ?_; first | with_reducible refine NatS.nat ?_) | (refine ValS.keep ?_; first | (with_reducible refine ValS.kI64 ?_; first | (with_reducible refine ValS.addI64_L ?_ ?_ ; omega) | (with_reducible refine ValS.quoI64_L ?_ ?_ ; omega) | with_reducible refine ValS.remN_L ?_) | (with_reducible refine ValS.kU8 ?_; first | (with_reducible refine ValS.orU8 ?_ ?_ ?_ ; omega; omega) | (with_reducible refine ValS.shlU8_M ?_ ?_ ?_ ; omega; omega))) | (refine still_in ?_; first | refine still_drop (by decide) ?_) | (refine OpG.keep ?_; first | refine OpG.s1 cok 0 rfl rfl rfl rfl rfl (by first | exact Nat.le_of_ble_eq_true rfl | omega | (dsimp only; omega) | (simp only [addS_eq, mulS_eq]; omega)) rfl rfl ?_) | refine W.drawI 27 cok [0, 1, 3, 7, 0, 16, 48, 127, 255, 511] [0, 1, 2, 3, 4, 5, 6, 7, 8, 9] [3] (by kernel_rfl) (by kernel_rfl) ?_ | (refine CondS.keep ?_; first | refine CondS.d1 rfl (by omega) ?_))
              refine ⟨i + 1, ⟨congrArg (fun c' => (⟨I, ⟨fb, 32, 22, c'⟩ :: ⟨sb, 1600, 393, cs⟩ :: y :: ⟨bb, mulS (8 * ds.length + 2176) 1, 4, c⟩ :: ⟨ob, 32, 22, z_int__u8_0⟩ :: G⟩ : St)) (hT _ ?_), hlt, rfl, rfl, rfl, rfl, trivial⟩, by show 256 - (i + 1) < 256 - i; omega⟩
              exact Nat.one_mul _
          · obtain rfl : i = 256 := by omega
            rw [hke]
            repeat (first | refine SeqS.go cok ?_ | refine CondS.f rfl ?_)
            exact ⟨rfl, rfl, rfl, trivial⟩
      · rintro i e' S2 - ⟨y, c, cs, rfl, hi, hCb, hS, hsl⟩
        refine W.slots _ hsl fun e => ?_
        by_cases hlt : i < P
        · have hbi : c (addS 0 (mulS i 1)) = .bool (bitsN ds i) := by rw [addS_mulS _ _ _ rfl, Nat.zero_add]; exact hCb.get i hlt
          have hsi : cs (addS 0 (mulS (i % 1088) 1)) = .bool (spB (bitsN ds) i (i % 1088)) := by rw [addS_mulS _ _ _ rfl, Nat.zero_add]; exact hS.get _ (by omega)
          have hstp := fun v hv => spB_store hS v hv
          by_cases hb : i % 1088 = 1087
          · have hnx : spB (bitsN ds) (i + 1) = kFB (fun j => if j = i % 1088 then spB (bitsN ds) i j != bitsN ds i else spB (bitsN ds) i j) := by rw [spB, if_pos hb]
            generalize bitsN ds i = bi at *
            generalize spB (bitsN ds) i (i % 1088) = si at *
            repeat (first | (refine QuG.keep ?_; first | refine QuG.l1E cok 0 rfl rfl rfl rfl rfl (by first | exact Nat.le_of_ble_eq_true rfl | omega | (dsimp only; omega) | (simp only [addS_eq, mulS_eq]; omega)) (by assumption) ?_ | refine QuG.l1E cok 2 rfl rfl rfl rfl rfl (by first | exact Nat.le_of_ble_eq_true rfl | omega | (dsimp only; omega) | (simp only [addS_eq, mulS_eq]; omega)) (by assumption) ?_) | refine SeqS.go cok ?_ | refine And.intro (by omega) ?_ | refine And.intro (by dsimp only; omega) ?_ | (refine NatS.keep ?_; first | with_reducible refine NatS.nat ?_) | (refine ValS.keep ?_; first | (with_reducible refine ValS.kI64 ?_; first | with_reducible refine ValS.remN_L ?_)) | (refine OpG.keep ?_; first | refine OpG.s1 cok 0 rfl rfl rfl rfl rfl (by first | exact Nat.le_of_ble_eq_true rfl | omega | (dsimp only; omega) | (simp only [addS_eq, mulS_eq]; omega)) rfl rfl ?_) | (refine QuG.keep ?_; first | refine QuG.neB cok rfl rfl rfl rfl ?_) | (refine CondS.keep ?_; first | refine CondS.d1 rfl (by omega) ?_))
            refine (kF (Nat.le_refl _) (hstp _ ?_)).mono ?_
            · rfl
            rintro r _ - ⟨c4, rfl, h4⟩
            rw [← hnx] at h4
            repeat (first | refine SeqS.go cok ?_ | (refine ValS.keep ?_; first | (with_reducible refine ValS.kI64 ?_; first | (with_reducible refine ValS.addI64_L ?_ ?_ ; omega))))
            exact ⟨i + 1, ⟨y, c, c4, rfl, hlt, hCb, h4, rfl, rfl, rfl, rfl, rfl, trivial⟩, by show P - (i + 1) < P - i; omega⟩
          · have hnx : spB (bitsN ds) (i + 1) = fun j => if j = i % 1088 then spB (bitsN ds) i j != bitsN ds i else spB (bitsN ds) i j := by rw [spB, if_neg hb]
            generalize bitsN ds i = bi at *
            generalize spB (bitsN ds) i (i % 1088) = si at *
            repeat (first | (refine QuG.keep ?_; first | refine QuG.l1E cok 0 rfl rfl rfl rfl rfl (by first | exact Nat.le_of_ble_eq_true rfl | omega | (dsimp only; omega) | (simp only [addS_eq, mulS_eq]; omega)) (by assumption) ?_ | refine QuG.l1E cok 2 rfl rfl rfl rfl rfl (by first | exact Nat.le_of_ble_eq_true rfl | omega | (dsimp only; omega) | (simp only [addS_eq, mulS_eq]; omega)) (by assumption) ?_) | refine SeqS.go cok ?_ | refine And.intro (by omega) ?_ | refine And.intro (by dsimp only; omega) ?_ | (refine NatS.keep ?_; first | with_reducible refine NatS.nat ?_) | (refine ValS.keep ?_; first | (with_reducible refine ValS.kI64 ?_; first | (with_reducible refine ValS.addI64_L ?_ ?_ ; omega) | with_reducible refine ValS.remN_L ?_)) | (refine OpG.keep ?_; first | refine OpG.s1 cok 0 rfl rfl rfl rfl rfl (by first | exact Nat.le_of_ble_eq_true rfl | omega | (dsimp only; omega) | (simp only [addS_eq, mulS_eq]; omega)) rfl rfl ?_) | (refine QuG.keep ?_; first | refine QuG.neB cok rfl rfl rfl rfl ?_) | (refine CondS.keep ?_; first | refine CondS.d1 rfl (by omega) ?_ | refine CondS.d0 rfl (by omega) ?_))
            refine ⟨i + 1, ⟨y, c, _, rfl, hlt, hCb, ?_, rfl, rfl, rfl, rfl, rfl, trivial⟩, by show P - (i + 1) < P - i; omega⟩
            rw [hnx]
            exact hstp _ rfl
        · obtain rfl : i = P := by omega
          repeat (first | refine SeqS.go cok ?_ | (refine CondS.keep ?_; first | refine CondS.d0 rfl (by omega) ?_))
          exact ⟨y, c, cs, rfl, hS, rfl, rfl, trivial⟩
    · rintro j e' S2 - ⟨c, rfl, hj1, hj2, hC, hsl⟩
      refine W.slots _ hsl fun e => ?_
      by_cases hlt : j % 1088 = 1087
      · have hje : j = padT ds.length - 1 := by unfold padT at hj2 ⊢; omega
        repeat (first | refine SeqS.go cok ?_ | refine And.intro (by omega) ?_ | (refine ValS.keep ?_; first | (with_reducible refine ValS.kI64 ?_; first | with_reducible refine ValS.remN_L ?_)) | (refine CondS.keep ?_; first | refine CondS.nd0 rfl (by omega) ?_))
        subst hje
        exact ⟨c, rfl, hC, rfl, rfl, trivial⟩
      · have hje : j + 1 < padT ds.length := by unfold padT at hj2 ⊢; omega
        repeat (first | refine SeqS.go cok ?_ | refine And.intro (fillOk_of (Eq.refl true)) ?_ | refine And.intro (by omega) ?_ | refine And.intro (by dsimp only; omega) ?_ | (refine ValS.keep ?_; first | (with_reducible refine ValS.kI64 ?_; first | with_reducible refine ValS.remN_L ?_)) | (refine CondS.keep ?_; first | refine CondS.nd1 rfl (by omega) ?_))
        intro nb
        skip
        refine OpG.keep ?_
        refine OpG.appendRoom cok 1 rfl rfl rfl rfl rfl rfl rfl rfl rfl (.inr List.mem_cons_self) rfl ?_ ?_ ?_ ?_ ?_
        · show 0 + mulS 1 1 ≤ mulS 1 1; omega
        · omega
        · show 0 + mulS (j + 1) 1 ≤ mulS (8 * ds.length + 2176) 1; rw [mulS_eq, mulS_eq]; omega
        · intro p hp
          have hp : p < mulS 1 1 := hp
          rw [mulS_eq] at hp
          obtain rfl : p = 0 := by omega
          rfl
        have hfin := fun z u hu => bb_snoc (z := z) (u := u) hC hu
        rw [bits_zero (by omega) (by omega)] at hfin
        skip
        exact ⟨j + 1, Rel.drop _ [_] ⟨_, rfl, by omega, hje, hfin _ _ rfl, rfl, rfl, trivial⟩, by show padT ds.length - (j + 1) < padT ds.length - j; omega⟩
  · rintro i e' S2 - ⟨c, rfl, hi, hC, hsl⟩
    refine W.slots _ hsl fun e => ?_
    by_cases hlt : i < ds.length
    · obtain ⟨x, o, had, hx, hbs⟩ := hB.some (by omega)
      have hd8 : ds.getD i 0 < 256 := by
        rw [List.getD_eq_getElem?_getD, List.getElem?_eq_getElem hlt]; exact hB.1 _ (List.getElem_mem hlt)
      subst had
      have hrd : Rd ⟨I, ⟨bb, mulS (8 * ds.length + 2176) 1, 4, c⟩ :: ⟨ob, 32, 22, z_int__u8_0⟩ :: G⟩ x := hx.mono (fun _ h => h) (fun y h => by simp [h])
      repeat (first | refine SeqS.go cok ?_ | refine And.intro (by omega) ?_ | (refine NatS.keep ?_; first | with_reducible refine NatS.nat ?_) | (refine QuG.keep ?_; first | refine QuG.bs cok (by assumption) (by assumption) rfl rfl rfl rfl (by omega) ?_) | (refine CondS.keep ?_; first | refine CondS.d1 rfl (by omega) ?_))
      refine W.loopF cok (by kernel_rfl) 2 (fun (k : Nat) e' S' => ∃ c, S' = ⟨I, ⟨bb, mulS (8 * ds.length + 2176) 1, 4, c⟩ :: ⟨ob, 32, 22, z_int__u8_0⟩ :: G⟩ ∧ k ≤ 8 ∧ BB c (8 * i + k) (bitsN ds) ∧ slots [(2, ptr ob 0), (3, sl bb 0 (8 * i + k) (8 * ds.length + 2176)), (5, .int .u8 (ds.getD i 0 : Nat)), (6, .int .i64 (k : Nat)), (17, .slice (some ⟨x.b, o, none⟩) ds.length vcap), (18, .int .i64 (ds.length : Nat)), (19, .int .i64 (i : Nat))] e') (fun k => 8 - k) 0
        (.same ⟨_, rfl, Nat.zero_le _, hC, rfl, rfl, rfl, rfl, rfl, rfl, rfl, trivial⟩)
        (fun e' S' => ∃ c, S' = ⟨I, ⟨bb, mulS (8 * ds.length + 2176) 1, 4, c⟩ :: ⟨ob, 32, 22, z_int__u8_0⟩ :: G⟩ ∧ BB c (8 * (i + 1)) (bitsN ds) ∧ slots [(2, ptr ob 0), (3, sl bb 0 (8 * (i + 1)) (8 * ds.length + 2176)), (17, .slice (some ⟨x.b, o, none⟩) ds.length vcap), (18, .int .i64 (ds.length : Nat)), (19, .int .i64 (i : Nat))] e') ?_ ?_
      · rintro e' S2 - ⟨c, rfl, hC, hsl⟩
        refine SeqS.slots cok _ hsl fun e => ?_
        repeat (first | (refine ValS.keep ?_; first | (with_reducible refine ValS.kI64 ?_; first | (with_reducible refine ValS.addI64_L ?_ ?_ ; omega))))
        exact ⟨i + 1, Rel.same ⟨c, rfl, hlt, hC, rfl, rfl, rfl, rfl, rfl, trivial⟩, by show ds.length - (i + 1) < ds.length - i; omega⟩
      · rintro k e' S2 - ⟨c, rfl, hk, hC, hsl⟩
        refine W.slots _ hsl fun e => ?_
        by_cases hk8 : k < 8
        · have hbit : bitsN ds (8 * i + k) = decide (ds.getD i 0 / 2 ^ k % 2 = 1) := by
            unfold bitsN
            rw [if_pos (by omega), show (8 * i + k) / 8 = i by omega, show (8 * i + k) % 8 = k by omega]
          generalize ds.getD i 0 = d at *
          have hbv : Value.bool (((d / 2 ^ k &&& 1 : Nat) : Int) == 1) = Value.bool (decide (d / 2 ^ k % 2 = 1)) := by
            rw [Nat.and_one_is_mod]; congr 1; rw [Bool.eq_iff_iff]; simp only [decide_eq_true_eq, beq_iff_eq]; omega
          have hdk : d / 2 ^ k < 256 := Nat.lt_of_le_of_lt (Nat.div_le_self _ _) hd8
          repeat (first | refine SeqS.go cok ?_ | refine And.intro (fillOk_of (Eq.refl true)) ?_ | refine And.intro (by omega) ?_ | refine And.intro (by dsimp only; omega) ?_ | (refine ValS.keep ?_; first | (with_reducible refine ValS.kU8 ?_; first | (with_reducible refine ValS.andU8_L ?_ ?_ ?_ ; omega; omega) | (with_reducible refine ValS.shrU8 ?_ ?_ ; omega))) | (refine CondS.keep ?_; first | refine CondS.d1 rfl (by omega) ?_))
          intro nb
          skip
          refine OpG.keep ?_
          refine OpG.appendRoom cok 1 rfl rfl rfl rfl rfl rfl rfl rfl rfl (.inr List.mem_cons_self) rfl ?_ ?_ ?_ ?_ ?_
          · show 0 + mulS 1 1 ≤ mulS 1 1; omega
          · omega
          · show 0 + mulS (8 * i + k + 1) 1 ≤ mulS (8 * ds.length + 2176) 1; rw [mulS_eq, mulS_eq]; omega
          · intro p hp
            have hp : p < mulS 1 1 := hp
            rw [mulS_eq] at hp
            obtain rfl : p = 0 := by omega
            rfl
          have hfin := fun z u hu => bb_snoc (z := z) (u := u) hC hu
          rw [hbit] at hfin
          repeat (first | refine SeqS.go cok ?_ | (refine ValS.keep ?_; first | (with_reducible refine ValS.kI64 ?_; first | (with_reducible refine ValS.addI64_L ?_ ?_ ; omega))))
          refine ⟨k + 1, Rel.drop _ [_] ⟨_, rfl, hk8, hfin _ _ hbv, rfl, rfl, rfl, rfl, rfl, rfl, rfl, trivial⟩, by show 8 - (k + 1) < 8 - k; omega⟩
        · obtain rfl : k = 8 := by omega
          repeat (first | refine SeqS.go cok ?_ | refine CondS.f rfl ?_)
          exact ⟨c, rfl, hC, rfl, rfl, rfl, rfl, rfl, trivial⟩
    · obtain rfl : i = ds.length := by omega
      repeat (first | refine SeqS.go cok ?_ | (refine CondS.keep ?_; first | refine CondS.d0 rfl (by omega) ?_))
      exact ⟨c, rfl, hC, rfl, rfl, trivial⟩
end Go.Proofs.YgvafwGreat
