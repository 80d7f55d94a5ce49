import Derived.Test.YgvafwGreatV3
set_option exponentiation.threshold 1000
set_option maxRecDepth 100000
set_option maxHeartbeats 4000000
set_option linter.unusedVariables false
set_option linter.unusedSimpArgs false
-- v2
-- v4
-- v5
-- v6
-- v7
-- still: exact QuV.of (QuG.elS cok (by assumption) (by assumption) rfl rfl rfl rfl (by simp only [addS_eq, mulS_eq]) (by assumption) (by decide) (by assumption) rfl)
-- still: exact QuV.of (QuG.elF cok (by assumption) (by assumption) rfl rfl rfl rfl (by simp only [addS_eq, mulS_eq]) (by assumption) (by decide) (by assumption) rfl)
-- still: exact QuV.of (QuG.boxL cok 0 rfl rfl rfl rfl rfl (by assumption) rfl)
namespace Go.Proofs.YgvafwGreat
open Go.HL Go.Proofs

theorem VI.tpc {I : Ent → Prop} {c : Nat → Value} {V : Vl} {G : List Ent} (h : VI I c V G) : (∃ ad cap, c 27017 = .slice ad V.tp.length cap) ∧ (0 < V.tp.length → ∃ x cap, x ∈ G ∧ c 27017 = sl x.b 0 V.tp.length cap ∧ Els x 0 9 (V.tp.map VTp.enc)) := by
  obtain ⟨MA, MS, MJ, ML, MT, MH, hp, hb⟩ := h.own
  obtain ⟨ad, cap, hf⟩ := hb.ot.form
  rw [List.length_map] at hf
  refine ⟨⟨ad, cap, hf⟩, fun hl => ?_⟩
  obtain ⟨b, cap', c', h1, h2, h3, h4⟩ := hb.ot.some (by rw [List.length_map]; exact hl)
  rw [List.length_map] at h1
  exact ⟨_, cap', hp.symm.subset (by rw [h3]; simp), h1, h4⟩
theorem VI.ttc {I : Ent → Prop} {c : Nat → Value} {V : Vl} {G : List Ent} (h : VI I c V G) : (c 27018 = .slice none 0 0 ∧ V.tp = []) ∨ ∃ b ct, c 27018 = sl b 0 16384 16384 ∧ (⟨b, 16384, 21, ct⟩ : Ent) ∈ G ∧ ∀ p, p < 16384 → ct p = .int .i32 (V.tt p) := by
  obtain ⟨MA, MS, MJ, ML, MT, MH, hp, hb⟩ := h.own
  rcases hb.oh with ⟨h1, h2, _⟩ | ⟨b, ct, h1, h2, h3⟩
  · exact .inl ⟨h1, h2⟩
  · exact .inr ⟨b, ct, h1, hp.symm.subset (by rw [h2]; simp), h3⟩
def Vl.okT (V : Vl) (key i : Nat) : Bool := (V.tp.getD i dVT).key == key
/-- vault.Vault.findTemp, where there is no table -/
theorem vFindTn {I : Ent → Prop} {G : List Ent} {cb sz : Nat} {T : TypeId} {c : Nat → Value} {key : Nat} (hsz : 27019 ≤ sz) (hc : c 27018 = .slice none 0 0) :
    CallG Hvaf.prog 392 #[ptr cb 2435, .int .i32 ((0 : Nat) : Int), wordV key] ⟨I, ⟨cb, sz, T, c⟩ :: G⟩ fun r S' => ⟨I, ⟨cb, sz, T, c⟩ :: G⟩ = S' ∧ r = .tuple #[.int .i32 (-1), .int .i32 (-1)] := by
  refine CallG.start (C := mkC Hvaf.prog) cok (args := [ptr cb 2435, .int .i32 ((0 : Nat) : Int), wordV key]) Hvaf.func392 rfl Hvaf.ntmps392 (by simp) (by kernel_rfl) ?_
  intro xb
  repeat (first | (refine QuG.keep ?_; first | refine QuG.l1E cok 1 rfl rfl rfl rfl rfl (by first | exact Nat.le_of_ble_eq_true rfl | omega | (dsimp only; omega) | (simp only [addS_eq, mulS_eq]; omega)) (by assumption) ?_) | refine SeqS.go cok ?_ | refine CondS.t rfl ?_)
  exact Fin.drop (⟨cb, sz, T, c⟩ :: G) [_] ⟨rfl, rfl⟩
/-- vault.Vault.findTemp -/
theorem vFindT0 {I : Ent → Prop} {R G : List Ent} {cb sz tb : Nat} {T : TypeId} {c ct : Nat → Value} {V : Vl} {key : Nat} (hsz : 27019 ≤ sz) (hV : VI I c V G) (hO : VOk V) (hk0 : key < 115792089237316195423570985008687907853269984665640564039457584007913129639936) (hct0 : c 27018 = sl tb 0 16384 16384) (htm : (⟨tb, 16384, 21, ct⟩ : Ent) ∈ G) (hct : ∀ p, p < 16384 → ct p = .int .i32 (V.tt p)) :
    CallG Hvaf.prog 392 #[ptr cb 2435, .int .i32 ((0 : Nat) : Int), wordV key] ⟨I, ⟨cb, sz, T, c⟩ :: (R ++ G)⟩ fun r S' => ⟨I, ⟨cb, sz, T, c⟩ :: (R ++ G)⟩ = S' ∧ r = .tuple #[.int .i32 (look V.tt (V.okT key) 16384 (mixN 0 key % 16384) 16384).1, .int .i32 (look V.tt (V.okT key) 16384 (mixN 0 key % 16384) 16384).2] := by
  have hmx := mixN_lt (acct := 0) (key := key) (by decide)
  have hll := limb_len key
  have hbl : (ivs .u64 (limb key)).length = 4 := rfl
  obtain ⟨⟨ad, cap, hf⟩, hsome⟩ := hV.tpc
  have hln := hO.tln
  have hh : ∀ (S : St), CallG Hvaf.prog 361 #[.int .i32 ((0 : Nat) : Int), .agg (ivs .u64 (limb key)).toArray] S fun r S' => S = S' ∧ r = .int .u64 (mixN 0 key : Nat) := fun (S : St) => vMixSlot (S := S) (acct := 0) (key := key) (by decide)
  rw [wordV_limb]
  generalize hlm : limb key = lk at *
  generalize hmk : mixN 0 key = mk at *
  refine CallG.start (C := mkC Hvaf.prog) cok (args := [ptr cb 2435, .int .i32 ((0 : Nat) : Int), .agg (ivs .u64 lk).toArray]) Hvaf.func392 rfl Hvaf.ntmps392 (by simp) (by kernel_rfl) ?_
  intro xb
  repeat (first | (refine QuG.keep ?_; first | refine QuG.l1E cok 1 rfl rfl rfl rfl rfl (by first | exact Nat.le_of_ble_eq_true rfl | omega | (dsimp only; omega) | (simp only [addS_eq, mulS_eq]; omega)) (by assumption) ?_ | refine QuG.boxL cok 0 rfl rfl rfl rfl rfl (by assumption) ?_) | refine SeqS.go cok ?_ | refine CondS.f rfl ?_)
  refine (hh _).mono ?_
  rintro r _ - ⟨rfl, rfl⟩
  repeat (first | refine SeqS.go cok ?_ | refine And.intro (by omega) ?_ | (refine ValS.keep ?_; first | (with_reducible refine ValS.kU64 ?_; first | with_reducible refine ValS.remN_L ?_)))
  generalize hok : V.okT key = ok
  generalize hlk : look V.tt ok 16384 (mk % 16384) 16384 = L
  refine W.loopG cok (by kernel_rfl) 0 (fun (s : Nat × Nat) e' => s.1 < 16384 ∧ s.2 ≤ 16384 ∧ look V.tt ok 16384 s.1 (16384 - s.2) = L ∧ slots [(0, ptr cb 2435), (1, .int .i32 ((0 : Nat) : Int)), (5, ptr xb 0), (8, .int .u64 (s.1 : Nat)), (9, .int .i64 (s.2 : Nat))] e') (fun s => 16384 - s.2) (mk % 16384, 0)
    ⟨Nat.mod_lt _ (by decide), by omega, hlk, rfl, rfl, rfl, rfl, rfl, trivial⟩ (fun e' => L = (-1, -1)) ?_ ?_
  · rintro e' rfl
    repeat (first | refine SeqS.go cok ?_)
    exact Fin.drop (⟨cb, sz, T, c⟩ :: (R ++ G)) [_] ⟨rfl, rfl⟩
  · rintro ⟨p, k⟩ e' ⟨hp, hk, hl, hsl⟩
    refine W.slots _ hsl fun e => ?_
    dsimp only at hp hk hl
    by_cases hlt : k < 16384
    · rw [show 16384 - k = (16384 - (k + 1)) + 1 by omega] at hl
      have hta : ct (addS 0 (mulS p 1)) = .int .i32 (V.tt p) := by rw [addS_mulS _ _ _ rfl, Nat.zero_add]; exact hct p hp
      have hctr : Rd ⟨I, ⟨xb, (ivs .u64 lk).length, 79, vc (.agg (ivs .u64 lk).toArray)⟩ :: ⟨cb, sz, T, c⟩ :: (R ++ G)⟩ (⟨tb, 16384, 21, ct⟩ : Ent) := .inr (by simp [htm])
      have hp2 : addS 0 (mulS p 1) < 16384 := by rw [addS_mulS _ _ _ rfl]; omega
      rcases hO.ttt.rng p hp with hx | ⟨i, hi, hx⟩
      · rw [hx] at hta
        have hL : L = (-1, (p : Int)) := by rw [← hl, look, if_pos (by rw [hx]; decide)]
        subst hL
        repeat (first | (refine QuG.keep ?_; refine QuG.ld cok hctr rfl rfl rfl rfl hp2 hta ?_) | (refine QuG.keep ?_; first | refine QuG.l1E cok 1 rfl rfl rfl rfl rfl (by first | exact Nat.le_of_ble_eq_true rfl | omega | (dsimp only; omega) | (simp only [addS_eq, mulS_eq]; omega)) (by assumption) ?_) | refine SeqS.go cok ?_ | refine CondS.t rfl ?_ | refine And.intro (by omega) ?_ | (refine NatS.keep ?_; first | with_reducible refine NatS.nat ?_) | (refine ValS.keep ?_; first | (with_reducible refine ValS.kI32 ?_; first | (with_reducible refine ValS.convI32 ?_ ?_ ; omega))) | (refine CondS.keep ?_; first | refine CondS.d1 rfl (by omega) ?_))
        exact Fin.drop (⟨cb, sz, T, c⟩ :: (R ++ G)) [_] ⟨rfl, rfl⟩
      · rw [hx] at hta
        rw [look, if_neg (by omega), hx, Int.toNat_natCast] at hl
        obtain ⟨x, cap', hxG, hf', hE⟩ := hsome (by omega)
        have hi' : i < (V.tp.map VTp.enc).length := by rw [List.length_map]; exact hi
        have hm := getD_mem (d := dVT) hi
        have hen : (((V.tp.map VTp.enc).getD i []).drop 1).take 4 = ivs .u64 (limb (V.tp.getD i dVT).key) := by
          rw [getD_map (d := dVT) hi]; rfl
        have hac : ((V.tp.map VTp.enc).getD i []).getD 0 undef = .int .i32 ((0 : Nat) : Int) := by
          rw [getD_map (d := dVT) hi]; rfl
        have hrd : Rd ⟨I, ⟨xb, (ivs .u64 lk).length, 79, vc (.agg (ivs .u64 lk).toArray)⟩ :: ⟨cb, sz, T, c⟩ :: (R ++ G)⟩ x := .inr (by simp [hxG])
        have hl4 := limb_len (V.tp.getD i dVT).key
        have hbd := hO.tky _ hm
        have hoki : ok i = decide (limb (V.tp.getD i dVT).key = lk) := by
          rw [← hok, ← hlm]
          show ((V.tp.getD i dVT).key == key) = _
          by_cases he : (V.tp.getD i dVT).key = key
          · rw [he, decide_eq_true rfl, beq_self_eq_true]
          · rw [beq_eq_false_iff_ne.2 he, decide_eq_false fun h => he (limb_inj hbd hk0 h)]
        rw [hoki] at hl
        generalize limb (V.tp.getD i dVT).key = lx at *
        rw [hf'] at hf
        obtain ⟨rfl, -, rfl⟩ := Value.slice.inj hf
        clear hf
        repeat (first | (refine QuG.keep ?_; first | refine QuG.ld cok hctr rfl rfl rfl rfl hp2 hta ?_ | refine QuG.elS cok hE hrd rfl rfl rfl rfl (by simp only [addS_eq, mulS_eq]) hi' (by decide) hen ?_ | refine QuG.elF cok hE hrd rfl rfl rfl rfl (by simp only [addS_eq, mulS_eq]) hi' (by decide) hac ?_ | refine QuG.eqA cok .u64 rfl rfl rfl rfl rfl (by kernel_rfl) rfl rfl hl4 hll ?_) | (refine QuG.keep ?_; first | refine QuG.l1E cok 1 rfl rfl rfl rfl rfl (by first | exact Nat.le_of_ble_eq_true rfl | omega | (dsimp only; omega) | (simp only [addS_eq, mulS_eq]; omega)) (by assumption) ?_ | refine QuG.boxL cok 0 rfl rfl rfl rfl rfl (by assumption) ?_) | refine SeqS.go cok ?_ | refine GuardS.yes rfl ?_ | refine CondS.f rfl ?_ | refine And.intro (by omega) ?_ | (refine NatS.keep ?_; first | with_reducible refine NatS.nat ?_) | (refine ValS.keep ?_; first | (with_reducible refine ValS.kI64 ?_; first | (with_reducible refine ValS.convI64 ?_ ?_ ; omega))) | refine W.drawI 10 cok [0, 1, 0, 4, 12, 28, 60, 127, 255, 511, 1023, 2047, 4095, 511, 16383, 32767, 65535, 511, 262143, 524287, 1048575, 2097151, 4194303, 8388607, 16777215, 2097151, 67108863, 134217727, 268435455, 2097151, 1073741823, 2147483647] [0, 1, 2, 3, 4, 5, 6, 7, 8, 9, 10, 11, 12, 13, 14, 15, 16, 17, 18, 19, 20, 21, 22, 23, 24, 25, 26, 27, 28, 29, 30, 31] [5, 12, 16, 24, 28, 29] (by kernel_rfl) (by kernel_rfl) ?_ | (refine GuardS.keep ?_; first | refine GuardS.T1 rfl (by omega) ?_) | (refine CondS.keep ?_; first | refine CondS.d1 rfl (by omega) ?_))
        (first | refine CondS.dec rfl (fun heq => ?_) (fun heq => ?_))
        · repeat (first | refine SeqS.go cok ?_)
          refine Fin.drop (⟨cb, sz, T, c⟩ :: (R ++ G)) [_] ⟨rfl, ?_⟩
          rw [if_pos (decide_eq_true heq)] at hl
          rw [← hl]; rfl
        · repeat (first | refine SeqS.go cok ?_ | refine And.intro (by omega) ?_ | (refine ValS.keep ?_; first | (with_reducible refine ValS.kI64 ?_; first | (with_reducible refine ValS.addI64_L ?_ ?_ ; omega)) | (with_reducible refine ValS.kU64 ?_; first | (with_reducible refine ValS.addU64_L ?_ ?_ ; omega) | with_reducible refine ValS.remN_L ?_)))
          refine ⟨((p + 1) % 16384, k + 1), Rel.same ⟨rfl, Nat.mod_lt _ (by decide), hlt, ?_, rfl, rfl, rfl, rfl, rfl, trivial⟩, by show 16384 - (k + 1) < 16384 - k; omega⟩
          rw [decide_eq_false heq, if_neg (by decide)] at hl
          exact hl
    · obtain rfl : k = 16384 := by omega
      repeat (first | refine SeqS.go cok ?_ | refine CondS.f rfl ?_)
      exact ⟨rfl, by rw [← hl]; rfl⟩
end Go.Proofs.YgvafwGreat
