import Derived.Test.YgvafwGreatV2
set_option exponentiation.threshold 1000
set_option maxRecDepth 100000
set_option maxHeartbeats 4000000
set_option linter.unusedVariables false
set_option linter.unusedSimpArgs false
-- v2
-- v4
-- v5
-- v6
-- v7
-- still: exact QuV.of (QuG.elS cok (by assumption) (by assumption) rfl rfl rfl rfl (by simp only [addS_eq, mulS_eq]) (by assumption) (by decide) (by assumption) rfl)
-- still: exact QuV.of (QuG.elF cok (by assumption) (by assumption) rfl rfl rfl rfl (by simp only [addS_eq, mulS_eq]) (by assumption) (by decide) (by assumption) rfl)
-- still: exact QuV.of (QuG.boxL cok 0 rfl rfl rfl rfl rfl (by assumption) rfl)
namespace Go.Proofs.YgvafwGreat
open Go.HL Go.Proofs

/-- The limbs of a word. -/
def limb (n : Nat) : List Nat := [n % 18446744073709551616, n / 18446744073709551616 % 18446744073709551616, n / 340282366920938463463374607431768211456 % 18446744073709551616, n / 6277101735386680763835789423207666416102355444464034512896 % 18446744073709551616]
theorem wcs_limb (n : Nat) : wcs n = ivs .u64 (limb n) := rfl
theorem wordV_limb (n : Nat) : wordV n = .agg (ivs .u64 (limb n)).toArray := rfl
theorem limb_len (n : Nat) : (limb n).length = 4 := rfl
theorem limb_inj {a b : Nat} (ha : a < 115792089237316195423570985008687907853269984665640564039457584007913129639936) (hb : b < 115792089237316195423570985008687907853269984665640564039457584007913129639936) (h : limb a = limb b) : a = b := by
  simp only [limb, List.cons.injEq, and_true] at h
  omega
theorem VSl.enc_key (x : VSl) : (x.enc.drop 1).take 4 = ivs .u64 (limb x.key) := rfl
theorem VI.slc {I : Ent → Prop} {c : Nat → Value} {V : Vl} {G : List Ent} (h : VI I c V G) : (∃ ad cap, c 2436 = .slice ad V.sl.length cap) ∧ (0 < V.sl.length → ∃ x cap, x ∈ G ∧ c 2436 = sl x.b 0 V.sl.length cap ∧ Els x 0 14 (V.sl.map VSl.enc)) := by
  obtain ⟨MA, MS, MJ, ML, MT, MH, hp, hb⟩ := h.own
  obtain ⟨ad, cap, hf⟩ := hb.os.form
  rw [List.length_map] at hf
  refine ⟨⟨ad, cap, hf⟩, fun hl => ?_⟩
  obtain ⟨b, cap', c', h1, h2, h3, h4⟩ := hb.os.some (by rw [List.length_map]; exact hl)
  rw [List.length_map] at h1
  exact ⟨_, cap', hp.symm.subset (by rw [h3]; simp), h1, h4⟩
def Vl.okS (V : Vl) (key i : Nat) : Bool := (V.sl.getD i dVS).key == key
/-- vault.Vault.findSlot -/
theorem vFindS0 {I : Ent → Prop} {R G : List Ent} {cb sz : Nat} {T : TypeId} {c : Nat → Value} {V : Vl} {key : Nat} (hsz : 27019 ≤ sz) (hV : VI I c V G) (hO : VOk V) (hk0 : key < 115792089237316195423570985008687907853269984665640564039457584007913129639936) :
    CallG Hvaf.prog 170 #[ptr cb 2435, .int .i32 ((0 : Nat) : Int), wordV key] ⟨I, ⟨cb, sz, T, c⟩ :: (R ++ G)⟩ fun r S' => ⟨I, ⟨cb, sz, T, c⟩ :: (R ++ G)⟩ = S' ∧ r = .tuple #[.int .i32 (look V.ts (V.okS key) 4096 (mixN 0 key % 4096) 4096).1, .int .i32 (look V.ts (V.okS key) 4096 (mixN 0 key % 4096) 4096).2] := by
  have hh := fun (S : St) => vSlotHome (S := S) (acct := 0) (key := key) (by decide)
  have hll := limb_len key
  have hbl : (ivs .u64 (limb key)).length = 4 := rfl
  obtain ⟨⟨ad, cap, hf⟩, hsome⟩ := hV.slc
  have hln := hO.sln
  rw [wordV_limb] at *
  have hh : ∀ (S : St), CallG Hvaf.prog 250 #[.int .i32 ((0 : Nat) : Int), .agg (ivs .u64 (limb key)).toArray] S fun r S' => S = S' ∧ r = .int .u32 (mixN 0 key % 4096 : Nat) := hh
  generalize hlm : limb key = lk at *
  refine CallG.start (C := mkC Hvaf.prog) cok (args := [ptr cb 2435, .int .i32 ((0 : Nat) : Int), .agg (ivs .u64 lk).toArray]) Hvaf.func170 rfl Hvaf.ntmps170 (by simp) (by kernel_rfl) ?_
  intro xb
  repeat (first | (refine QuG.keep ?_; first | refine QuG.boxL cok 0 rfl rfl rfl rfl rfl (by assumption) ?_) | refine SeqS.go cok ?_)
  refine (hh _).mono ?_
  rintro r _ - ⟨rfl, rfl⟩
  repeat (first | refine SeqS.go cok ?_)
  generalize hok : V.okS key = ok
  generalize hlk : look V.ts ok 4096 (mixN 0 key % 4096) 4096 = L
  refine W.loopG cok (by kernel_rfl) 0 (fun (s : Nat × Nat) e' => s.1 < 4096 ∧ s.2 ≤ 4096 ∧ look V.ts ok 4096 s.1 (4096 - s.2) = L ∧ slots [(0, ptr cb 2435), (1, .int .i32 ((0 : Nat) : Int)), (5, ptr xb 0), (8, .int .u32 (s.1 : Nat)), (9, .int .i64 (s.2 : Nat))] e') (fun s => 4096 - s.2) (mixN 0 key % 4096, 0)
    ⟨Nat.mod_lt _ (by decide), by omega, hlk, rfl, rfl, rfl, rfl, rfl, trivial⟩ (fun e' => L = (-1, -1)) ?_ ?_
  · rintro e' rfl
    repeat (first | refine SeqS.go cok ?_)
    exact Fin.drop (⟨cb, sz, T, c⟩ :: (R ++ G)) [_] ⟨rfl, rfl⟩
  · rintro ⟨p, k⟩ e' ⟨hp, hk, hl, hsl⟩
    refine W.slots _ hsl fun e => ?_
    dsimp only at hp hk hl
    by_cases hlt : k < 4096
    · rw [show 4096 - k = (4096 - (k + 1)) + 1 by omega] at hl
      have hta : c (addS 6533 (mulS p 1)) = .int .i32 (V.ts p) := by rw [addS_mulS _ _ _ rfl]; exact hV.ts p hp
      rcases hO.sts.rng p hp with hx | ⟨i, hi, hx⟩
      · rw [hx] at hta
        have hL : L = (-1, (p : Int)) := by rw [← hl, look, if_pos (by rw [hx]; decide)]
        subst hL
        repeat (first | (refine QuG.keep ?_; first | refine QuG.l1E cok 1 rfl rfl rfl rfl rfl (by first | exact Nat.le_of_ble_eq_true rfl | omega | (dsimp only; omega) | (simp only [addS_eq, mulS_eq]; omega)) (by assumption) ?_) | refine SeqS.go cok ?_ | refine CondS.t rfl ?_ | refine And.intro (by omega) ?_ | (refine NatS.keep ?_; first | with_reducible refine NatS.nat ?_) | (refine ValS.keep ?_; first | (with_reducible refine ValS.kI32 ?_; first | (with_reducible refine ValS.convI32 ?_ ?_ ; omega))) | (refine CondS.keep ?_; first | refine CondS.d1 rfl (by omega) ?_))
        exact Fin.drop (⟨cb, sz, T, c⟩ :: (R ++ G)) [_] ⟨rfl, rfl⟩
      · rw [hx] at hta
        rw [look, if_neg (by omega), hx, Int.toNat_natCast] at hl
        obtain ⟨x, cap', hxG, hf', hE⟩ := hsome (by omega)
        have hi' : i < (V.sl.map VSl.enc).length := by rw [List.length_map]; exact hi
        have hm := getD_mem (d := dVS) hi
        have hen : (((V.sl.map VSl.enc).getD i []).drop 1).take 4 = ivs .u64 (limb (V.sl.getD i dVS).key) := by
          rw [getD_map (d := dVS) hi]; rfl
        have hac : ((V.sl.map VSl.enc).getD i []).getD 0 undef = .int .i32 ((0 : Nat) : Int) := by
          rw [getD_map (d := dVS) hi]; rfl
        have hrd : Rd ⟨I, ⟨xb, (ivs .u64 lk).length, 79, vc (.agg (ivs .u64 lk).toArray)⟩ :: ⟨cb, sz, T, c⟩ :: (R ++ G)⟩ x := .inr (by simp [hxG])
        have hl4 := limb_len (V.sl.getD i dVS).key
        have hbd := hO.sky _ hm
        have hoki : ok i = decide (limb (V.sl.getD i dVS).key = lk) := by
          rw [← hok, ← hlm]
          show ((V.sl.getD i dVS).key == key) = _
          by_cases he : (V.sl.getD i dVS).key = key
          · rw [he, decide_eq_true rfl, beq_self_eq_true]
          · rw [beq_eq_false_iff_ne.2 he, decide_eq_false fun h => he (limb_inj hbd hk0 h)]
        rw [hoki] at hl
        generalize limb (V.sl.getD i dVS).key = lx at *
        rw [hf'] at hf
        obtain ⟨rfl, -, rfl⟩ := Value.slice.inj hf
        clear hf
        repeat (first | (refine QuG.keep ?_; first | refine QuG.elS cok hE hrd rfl rfl rfl rfl (by simp only [addS_eq, mulS_eq]) hi' (by decide) hen ?_ | refine QuG.elF cok hE hrd rfl rfl rfl rfl (by simp only [addS_eq, mulS_eq]) hi' (by decide) hac ?_ | refine QuG.eqA cok .u64 rfl rfl rfl rfl rfl (by kernel_rfl) rfl rfl hl4 hll ?_) | (refine QuG.keep ?_; first | refine QuG.l1E cok 1 rfl rfl rfl rfl rfl (by first | exact Nat.le_of_ble_eq_true rfl | omega | (dsimp only; omega) | (simp only [addS_eq, mulS_eq]; omega)) (by assumption) ?_ | refine QuG.boxL cok 0 rfl rfl rfl rfl rfl (by assumption) ?_) | refine SeqS.go cok ?_ | refine GuardS.yes rfl ?_ | refine CondS.f rfl ?_ | refine And.intro (by omega) ?_ | (refine NatS.keep ?_; first | with_reducible refine NatS.nat ?_) | (refine ValS.keep ?_; first | (with_reducible refine ValS.kI64 ?_; first | (with_reducible refine ValS.convI64 ?_ ?_ ; omega))) | refine W.drawI 8 cok [0, 1, 0, 4, 12, 28, 60, 127, 255, 511, 1023, 2047, 4095, 511, 16383, 32767, 65535, 511, 262143, 524287, 1048575, 2097151, 4194303, 8388607, 16777215, 2097151, 67108863, 134217727, 268435455, 2097151, 1073741823, 2147483647] [0, 1, 2, 3, 4, 5, 6, 7, 8, 9, 10, 11, 12, 13, 14, 15, 16, 17, 18, 19, 20, 21, 22, 23, 24, 25, 26, 27, 28, 29, 30, 31] [5, 12, 16, 24, 28, 29] (by kernel_rfl) (by kernel_rfl) ?_ | (refine GuardS.keep ?_; first | refine GuardS.T1 rfl (by omega) ?_) | (refine CondS.keep ?_; first | refine CondS.d1 rfl (by omega) ?_))
        (first | refine CondS.dec rfl (fun heq => ?_) (fun heq => ?_))
        · repeat (first | refine SeqS.go cok ?_)
          refine Fin.drop (⟨cb, sz, T, c⟩ :: (R ++ G)) [_] ⟨rfl, ?_⟩
          rw [if_pos (decide_eq_true heq)] at hl
          rw [← hl]; rfl
        · repeat (first | refine SeqS.go cok ?_ | refine And.intro (by omega) ?_ | (refine ValS.keep ?_; first | (with_reducible refine ValS.kI64 ?_; first | (with_reducible refine ValS.addI64_L ?_ ?_ ; omega)) | (with_reducible refine ValS.kU32 ?_; first | (with_reducible refine ValS.addU32_L ?_ ?_ ; omega) | with_reducible refine ValS.remN_L ?_)))
          refine ⟨((p + 1) % 4096, k + 1), Rel.same ⟨rfl, Nat.mod_lt _ (by decide), hlt, ?_, rfl, rfl, rfl, rfl, rfl, trivial⟩, by show 4096 - (k + 1) < 4096 - k; omega⟩
          rw [decide_eq_false heq, if_neg (by decide)] at hl
          exact hl
    · obtain rfl : k = 4096 := by omega
      repeat (first | refine SeqS.go cok ?_ | refine CondS.f rfl ?_)
      exact ⟨rfl, by rw [← hl]; rfl⟩
end Go.Proofs.YgvafwGreat
