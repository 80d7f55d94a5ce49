import Derived.Test.YgvafwGreatK13
set_option maxRecDepth 100000
set_option maxHeartbeats 4000000
set_option linter.unusedVariables false
set_option linter.unusedSimpArgs false
-- v2
-- v4
-- v5
-- v6
-- v7
namespace Go.Proofs.YgvafwGreat
open Go.HL Go.Proofs
theorem updNeK {c : Nat → Value} {i k : Nat} {v : Value} (h : k ≠ i) : upd c i v k = c k := by simp [upd, h]
theorem updEqK {c : Nat → Value} {i : Nat} {v : Value} : upd c i v i = v := by simp [upd]
/-- Lanes in cells. -/
structure LC (c : Nat → Value) (a : Nat → Nat) : Prop where
  get : ∀ i, i < 25 → c i = .int .u64 (a i : Nat)
theorem LC.at {c : Nat → Value} {a : Nat → Nat} (h : LC c a) {o i : Nat} (ho : o = i) (hi : i < 25) : c o = .int .u64 (a i : Nat) := by rw [ho]; exact h.get i hi
/-- keccak.F -/
theorem kLF {I : Ent → Prop} {G : List Ent} {ab sz : Nat} {T : TypeId} {c : Nat → Value} {a : Nat → Nat} (hsz : 25 ≤ sz) (hc : LC c a) (ha : Lim25 a) :
    CallG Hvaf.prog 363 #[ptr ab 0] ⟨I, ⟨ab, sz, T, c⟩ :: G⟩ fun r S' => ∃ c', S' = ⟨I, ⟨ab, sz, T, c'⟩ :: G⟩ ∧ LC c' (perL a 24) := by
  refine CallG.start (C := mkC Hvaf.prog) cok (args := [ptr ab 0]) Hvaf.func363 rfl Hvaf.ntmps363 (by simp) (by kernel_rfl) ?_
  repeat (first | refine SeqS.go cok ?_ | refine CondS.f rfl ?_)
  refine W.loopE cok (by kernel_rfl) 0 (fun (i : Nat) e' S' => ∃ ca, S' = ⟨I, ⟨ab, sz, T, ca⟩ :: G⟩ ∧ i ≤ 24 ∧ LC ca (perL a i) ∧ slots [(0, ptr ab 0), (2, .int .u8 (i : Nat))] e') (fun i => 24 - i) 0
    ⟨c, rfl, by omega, hc, rfl, rfl, trivial⟩ (fun e' S' => ∃ ca, S' = ⟨I, ⟨ab, sz, T, ca⟩ :: G⟩ ∧ LC ca (perL a 24)) ?_ ?_
  · rintro e' S2 - ⟨ca, rfl, hC⟩
    skip
    exact Fin.same ⟨ca, rfl, hC⟩
  · rintro i e' S2 - ⟨ca, rfl, hi, hC, hsl⟩
    refine W.slots _ hsl fun e => ?_
    by_cases hlt : i < 24
    · have hl := lim_per ha i hi
      have hl2 := lim_round hl
      have hrc := rc_lt i hlt
      have hr := kRoundS (I := I) (G := G) (ab := ab) (T := T) hsz hC.get hl
      have h00 : (kRound (perL a i)).getD 0 0 < 18446744073709551616 := hl2 0
      have hrc' : rcL.getD i 0 < 18446744073709551616 := hrc
      repeat (first | refine SeqS.go cok ?_ | (refine CondS.keep ?_; first | refine CondS.d1 rfl (by omega) ?_))
      refine hr.mono ?_
      rintro r _ - ⟨c1, rfl, h1, -⟩
      have h10 := h1 0 (by decide)
      have hfin : LC (upd c1 (addS 0 (mulS 0 1)) (.int .u64 (((kRound (perL a i)).getD 0 0 ^^^ rcL.getD i 0 : Nat) : Int))) (rndL (perL a i) i) := by
        refine ⟨fun j hj => ?_⟩
        have hz : addS 0 (mulS 0 1) = 0 := by rw [addS_eq, mulS_eq]
        rw [hz]
        unfold rndL
        by_cases h0 : j = 0
        · subst h0; rw [updEqK, if_pos rfl]
        · rw [updNeK h0, if_neg h0]; exact h1 j hj
      generalize hk : (kRound (perL a i)).getD 0 0 = k0 at *
      repeat (first | (refine QuG.keep ?_; first | refine QuG.l1E cok 0 rfl rfl rfl rfl rfl (by first | exact Nat.le_of_ble_eq_true rfl | omega | (dsimp only; omega) | (simp only [addS_eq, mulS_eq]; omega)) (by assumption) ?_) | refine SeqS.go cok ?_ | refine And.intro (by dsimp only; omega) ?_ | (refine NatS.keep ?_; first | with_reducible refine NatS.lit ?_) | refine W.drawI 5 cok [0, 1, 3, 7, 0, 16, 63, 1, 255, 511] [0, 1, 2, 3, 4, 7, 5, 6, 8, 9] [3] (by kernel_rfl) (by kernel_rfl) ?_)
      refine (kRC hlt).mono ?_
      rintro r _ - ⟨rfl, rfl⟩
      repeat (first | refine SeqS.go cok ?_ | refine And.intro (by dsimp only; omega) ?_ | (refine NatS.keep ?_; first | with_reducible refine NatS.lit ?_) | (refine ValS.keep ?_; first | (with_reducible refine ValS.kU64 ?_; first | (with_reducible refine ValS.xorFU64 ?_ ?_ (fun _ => ?_); omega; omega)) | (with_reducible refine ValS.kU8 ?_; first | (with_reducible refine ValS.addU8_L ?_ ?_ ; omega))) | (refine still_in ?_; first | refine still_drop (by decide) ?_ | (refine still_keep (by decide) rfl ?_ ?_; first | exact QuV.l1 cok 0 rfl rfl rfl rfl rfl (by first | exact Nat.le_of_ble_eq_true rfl | omega | (dsimp only; omega) | (simp only [addS_eq, mulS_eq]; omega)) (by assumption))) | (refine OpG.keep ?_; first | refine OpG.s1 cok 0 rfl rfl rfl rfl rfl (by first | exact Nat.le_of_ble_eq_true rfl | omega | (dsimp only; omega) | (simp only [addS_eq, mulS_eq]; omega)) rfl rfl ?_))
      refine ⟨i + 1, ⟨_, rfl, hlt, hfin, rfl, rfl, trivial⟩, by show 24 - (i + 1) < 24 - i; omega⟩
    · obtain rfl : i = 24 := by omega
      repeat (first | refine SeqS.go cok ?_ | refine CondS.f rfl ?_)
      exact ⟨ca, rfl, hC⟩
theorem take8 {ps : List Nat} {i : Nat} (h : 8 * i + 8 ≤ ps.length) : (ps.drop (8 * i)).take 8 = (List.range 8).map fun k => ps.getD (8 * i + k) 0 := by
  apply List.ext_getElem
  · simp; omega
  · intro j h1 h2
    have h3 : j < 8 := by simpa using h2
    simp only [List.getElem_take, List.getElem_drop, List.getElem_map, List.getElem_range, List.getD_eq_getElem?_getD]
    rw [List.getElem?_eq_getElem (by omega)]; rfl
theorem LC.lane {c : Nat → Value} {a : Nat → Nat} {i : Nat} {p : Nat → Nat} (h : LC c fun j => if j < i then a j ^^^ laneP p j else a j) (hi : i < 17) : LC (upd c (addS 0 (mulS i 1)) (.int .u64 ((a i ^^^ laneP p i : Nat) : Int))) fun j => if j < i + 1 then a j ^^^ laneP p j else a j := by
  refine ⟨fun j hj => ?_⟩
  rw [addS_mulS _ _ _ rfl, Nat.zero_add]
  by_cases h0 : j = i
  · subst h0; rw [updEqK, if_pos (by omega)]
  · rw [updNeK h0, h.get j hj]
    by_cases h1 : j < i
    · rw [if_pos h1, if_pos (by omega)]
    · rw [if_neg h1, if_neg (by omega)]
/-- keccak.absorb -/
theorem kAbsorb {I : Ent → Prop} {G : List Ent} {ab sz b o : Nat} {T : TypeId} {c : Nat → Value} {a : Nat → Nat} {ps : List Nat} (hsz : 25 ≤ sz) (hc : LC c a) (ha : Lim25 a) (hB : Byt ⟨I, G⟩ (sl b o 136 136) ps) (hl : ps.length = 136) :
    CallG Hvaf.prog 252 #[ptr ab 0, ptr b o] ⟨I, ⟨ab, sz, T, c⟩ :: G⟩ fun r S' => ∃ c', S' = ⟨I, ⟨ab, sz, T, c'⟩ :: G⟩ ∧ LC c' (absL a fun i => ps.getD i 0) := by
  have hp : ∀ i, ps.getD i 0 < 256 := fun i => by
    by_cases h : i < ps.length
    · rw [List.getD_eq_getElem?_getD, List.getElem?_eq_getElem h]; exact hB.1 _ (List.getElem_mem h)
    · rw [List.getD_eq_getElem?_getD, List.getElem?_eq_none (by omega)]; decide
  refine CallG.start (C := mkC Hvaf.prog) cok (args := [ptr ab 0, ptr b o]) Hvaf.func252 rfl Hvaf.ntmps252 (by simp) (by kernel_rfl) ?_
  repeat (first | refine SeqS.go cok ?_)
  refine W.loopE cok (by kernel_rfl) 0 (fun (i : Nat) e' S' => ∃ ca, S' = ⟨I, ⟨ab, sz, T, ca⟩ :: G⟩ ∧ i ≤ 17 ∧ LC ca (fun j => if j < i then a j ^^^ laneP (fun i => ps.getD i 0) j else a j) ∧ slots [(0, ptr ab 0), (1, ptr b o), (4, .int .i64 (i : Nat))] e') (fun i => 17 - i) 0
    ⟨c, rfl, by omega, ⟨fun i hi => by rw [if_neg (by omega)]; exact hc.get i hi⟩, rfl, rfl, rfl, trivial⟩ (fun e' S' => ∃ ca, S' = ⟨I, ⟨ab, sz, T, ca⟩ :: G⟩ ∧ LC ca (fun j => if j < 17 then a j ^^^ laneP (fun i => ps.getD i 0) j else a j) ∧ slots [(0, ptr ab 0)] e') ?_ ?_
  · rintro e' S2 - ⟨ca, rfl, hC, hsl⟩
    refine SeqS.slots cok _ hsl fun e => ?_
    have hf := kLF (I := I) (G := G) (ab := ab) (T := T) hsz hC (lim_abs ha hp)
    skip
    refine hf.mono ?_
    rintro r _ - ⟨c1, rfl, h1⟩
    skip
    exact Fin.same ⟨c1, rfl, h1⟩
  · rintro i e' S2 - ⟨ca, rfl, hi, hC, hsl⟩
    refine W.slots _ hsl fun e => ?_
    by_cases hlt : i < 17
    · have hbe := BE64_spec (S := ⟨I, ⟨ab, sz, T, ca⟩ :: G⟩) (off := 8 * i) (hB.mono (fun _ h => h) (fun x h => List.mem_cons_of_mem _ h)) (by omega)
      have hlv := hC.at (o := addS 0 (mulS i 1)) (by rw [addS_mulS _ _ _ rfl, Nat.zero_add]) (show i < 25 by omega)
      rw [if_neg (by omega)] at hlv
      have hai : a i < 18446744073709551616 := ha i
      have h8 : ∀ d ∈ (ps.drop (8 * i)).take 8, d < 256 := fun d h => hB.1 d (List.mem_of_mem_drop (List.mem_of_mem_take h))
      have h88 : ((ps.drop (8 * i)).take 8).length = 8 := by simp; omega
      have hbl : bev ((ps.drop (8 * i)).take 8) < 18446744073709551616 := by
        have := bev_lt _ h8
        rw [h88] at this; exact this
      have htr : trnN (bev ((ps.drop (8 * i)).take 8)) = laneP (fun i => ps.getD i 0) i := by
        rw [trn_bev h8 h88, take8 (by omega)]; rfl
      have htu := fun S => kTurned (S := S) hbl
      rw [htr] at htu
      have hla : laneP (fun i => ps.getD i 0) i < 18446744073709551616 := laneP_lt hp i
      have hfin := hC.lane hlt
      generalize bev ((ps.drop (8 * i)).take 8) = be at *
      generalize laneP (fun i => ps.getD i 0) i = la at *
      generalize a i = ai at *
      repeat (first | refine SeqS.go cok ?_ | refine And.intro (Eq.refl true) ?_ | (refine ValS.keep ?_; first | (with_reducible refine ValS.kI64 ?_; first | (with_reducible refine ValS.mulI64_M ?_ ?_ ; omega)) | with_reducible refine ValS.sl0 ?_) | (refine CondS.keep ?_; first | refine CondS.d1 rfl (by omega) ?_))
      refine hbe.mono ?_
      rintro r _ - ⟨rfl, rfl⟩
      repeat (first | (refine QuG.keep ?_; first | refine QuG.l1E cok 0 rfl rfl rfl rfl rfl (by first | exact Nat.le_of_ble_eq_true rfl | omega | (dsimp only; omega) | (simp only [addS_eq, mulS_eq]; omega)) (by assumption) ?_) | refine SeqS.go cok ?_ | refine And.intro (by dsimp only; omega) ?_ | (refine NatS.keep ?_; first | with_reducible refine NatS.nat ?_) | refine W.drawI 4 cok [0, 0, 1, 7, 15, 0, 32, 127, 1, 511, 1023] [0, 1, 2, 3, 4, 5, 8, 6, 7, 9, 10] [4] (by kernel_rfl) (by kernel_rfl) ?_)
      refine (htu _).mono ?_
      rintro r _ - ⟨rfl, rfl⟩
      repeat (first | refine SeqS.go cok ?_ | refine And.intro (by dsimp only; omega) ?_ | (refine NatS.keep ?_; first | with_reducible refine NatS.nat ?_) | (refine ValS.keep ?_; first | (with_reducible refine ValS.kI64 ?_; first | (with_reducible refine ValS.addI64_L ?_ ?_ ; omega)) | (with_reducible refine ValS.kU64 ?_; first | (with_reducible refine ValS.xorFU64 ?_ ?_ (fun _ => ?_); omega; omega))) | (refine still_in ?_; first | refine still_drop (by decide) ?_ | (refine still_keep (by decide) rfl ?_ ?_; first | exact QuV.l1 cok 0 rfl rfl rfl rfl rfl (by first | exact Nat.le_of_ble_eq_true rfl | omega | (dsimp only; omega) | (simp only [addS_eq, mulS_eq]; omega)) (by assumption))) | (refine OpG.keep ?_; first | refine OpG.s1 cok 0 rfl rfl rfl rfl rfl (by first | exact Nat.le_of_ble_eq_true rfl | omega | (dsimp only; omega) | (simp only [addS_eq, mulS_eq]; omega)) rfl rfl ?_))
      refine ⟨i + 1, ⟨_, rfl, hlt, hfin, rfl, rfl, rfl, trivial⟩, by show 17 - (i + 1) < 17 - i; omega⟩
    · obtain rfl : i = 17 := by omega
      repeat (first | refine SeqS.go cok ?_ | refine CondS.f rfl ?_)
      exact ⟨ca, rfl, hC, rfl, trivial⟩
end Go.Proofs.YgvafwGreat
