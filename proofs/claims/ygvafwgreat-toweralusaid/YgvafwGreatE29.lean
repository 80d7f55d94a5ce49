import Derived.Test.YgvafwGreatE25
import Derived.Test.YgvafwGreatV10
import Derived.Test.YgvafwGreatV21
import Derived.Test.YgvafwGreatY59
import Derived.Test.YgvafwGreatY21
set_option exponentiation.threshold 1000
set_option maxRecDepth 100000
set_option maxHeartbeats 4000000
set_option linter.unusedVariables false
set_option linter.unusedSimpArgs false
-- v2
-- v4
-- v5
-- v6
-- v7
namespace Go.Proofs.YgvafwGreat
open Go.HL Go.Proofs
theorem VI.congr {I : Ent → Prop} {c c' : Nat → Value} {V : Vl} {G : List Ent} (h : VI I c V G) (hc : ∀ k, 2435 ≤ k → k ≤ 27018 → c' k = c k) : VI I c' V G := by
  obtain ⟨MA, MS, MJ, ML, MT, MH, hp, hb⟩ := h.own
  have e := fun k (h1 : 2435 ≤ k) (h2 : k ≤ 27018) => (hc k h1 h2).symm
  refine ⟨⟨MA, MS, MJ, ML, MT, MH, hp, ?_⟩, fun p hp => ?_, fun p hp => ?_, ?_, ?_, ?_, h.cd⟩
  · exact ⟨by rw [← e 2435 (by decide) (by decide)]; exact hb.oa, by rw [← e 2436 (by decide) (by decide)]; exact hb.os, by rw [← e 10629 (by decide) (by decide)]; exact hb.oj, by rw [← e 27016 (by decide) (by decide)]; exact hb.ol, by rw [← e 27017 (by decide) (by decide)]; exact hb.ot, by rw [← e 27018 (by decide) (by decide)]; exact hb.oh⟩
  · rw [← e _ (by omega) (by omega)]; exact h.ta p hp
  · rw [← e _ (by omega) (by omega)]; exact h.ts p hp
  · rw [← e 10630 (by decide) (by decide)]; exact h.mrk
  · rw [← e 27014 (by decide) (by decide)]; exact h.nm
  · rw [← e 27015 (by decide) (by decide)]; exact h.rf
theorem MV.out {c c' : Nat → Value} {pc gas : Nat} {s : List Nat} (h : MV c pc gas s) (hc : Out c c') : MV c' pc gas s := h.congr fun k h1 h2 => hc k (by omega)
theorem MK.out {I : Ent → Prop} {cb : Nat} {c c' : Nat → Value} {K : YK} (h : MK I cb c K) (hc : Out c c') : MK I cb c' K := h.congr (fun _ h => h) fun k h1 _ _ _ _ => hc k (by omega)
theorem ArI.out {c c' : Nat → Value} {mem : List Nat} {M : List Ent} (h : ArI c mem M) (hc : Out c c') : ArI c' mem M := by
  have e := fun k (h1 : k < 2435) => hc k (.inl h1)
  exact ⟨by rw [e 10 (by decide)]; exact h.tp, by rw [e 2 (by decide)]; exact h.b0, by rw [e 3 (by decide)]; exact h.b1, by rw [e 1 (by decide)]; exact h.bf⟩
/-- Cells of the machine that an instruction keeps. -/
def StkV (c c' : Nat → Value) : Prop := ∀ k, (k < 11 ∨ 1802 < k) → (k < 2435 ∨ 27018 < k) → k ≠ 1807 → k ≠ 1809 → c' k = c k
theorem StkV.mk {c c1 c' : Nat → Value} (h1 : Out c c1) (h2 : Stk c1 c') : StkV c c' := fun k a b d e => (h2 k a d e).trans (h1 k b)
theorem VI.stk {I : Ent → Prop} {c c' : Nat → Value} {V : Vl} {G : List Ent} (h : VI I c V G) (hc : Stk c c') : VI I c' V G := h.congr fun k h1 h2 => hc k (by omega) (by omega) (by omega)
/-- What an instruction that changes the vault leaves. -/
def SetV (I : Ent → Prop) (R : List Ent) (cb sz : Nat) (T : TypeId) (c : Nat → Value) (pc gas : Nat) (s : List Nat) (P : Vl → Prop) : Post := fun r S' => ∃ c' G' V', S' = ⟨I, ⟨cb, sz, T, c'⟩ :: (R ++ G')⟩ ∧ MV c' pc gas s ∧ StkV c c' ∧ VI I c' V' G' ∧ VOk V' ∧ P V'
theorem out_refl (c : Nat → Value) : Out c c := fun _ _ => rfl
theorem dig_get' : ∀ (k n i : Nat) (h : i < (dig k n).length), (dig k n)[i] = n / 256 ^ i % 256
  | 0, n, i, h => by simp [dig] at h
  | k + 1, n, 0, h => by simp [dig]
  | k + 1, n, i + 1, h => by
    have h' : i < (dig k (n / 256)).length := by simpa [dig] using h
    have := dig_get' k (n / 256) i h'
    simp only [dig, List.getElem_cons_succ, this, Nat.div_div_eq_div_mul, Nat.pow_succ]
    rw [Nat.mul_comm]
theorem be32_ad (n : Nat) : (be32 n).drop 12 = adN n := by
  apply List.ext_getElem
  · simp [be32, adN, dig_len]
  · intro i h1 h2
    have h3 : i < 20 := by simpa [adN] using h2
    simp only [be32, adN, List.getElem_drop, List.getElem_reverse, List.getElem_map, List.getElem_range, dig_get', dig_len]
    rw [show 32 - 1 - (12 + i) = 19 - i by omega]
theorem be_row (n : Nat) : Row (HL.updN z_int__u8_0 0 (bvs (be32 n))) 12 (bvs (adN n)) := by
  have hl := be32_len n
  refine ⟨fun i hi => ?_⟩
  rw [bvs_len, (adN_ok n).len] at hi
  have h1 := (Row.updN2 z_int__u8_0 0 (bvs (be32 n))).get (12 + i) (by rw [bvs_len, hl]; omega)
  rw [Nat.zero_add] at h1
  rw [h1, bvs_getD' (by rw [hl]; omega), bvs_getD' (by rw [(adN_ok n).len]; exact hi), ← be32_ad]
  congr 2
  rw [List.getD_eq_getElem?_getD, List.getD_eq_getElem?_getD, List.getElem?_drop]
/-- mach.addrOf -/
theorem mAddrOf {S : St} {n : Nat} (hn : n < 115792089237316195423570985008687907853269984665640564039457584007913129639936) : CallG Hvaf.prog 303 #[wordV n] S fun r S' => S = S' ∧ r = bytesV (adN n) := by
  have hu := fun S => UBE32_spec (S := S) hn
  have hrow : Row (HL.updN z_int__u8_0 0 (bvs (be32 n))) 12 (bvs (adN n)) := be_row n
  have hl20 : (bvs (adN n)).length = 20 := by rw [bvs_len]; exact (adN_ok n).len
  have hone : ∀ u ∈ bvs (adN n), one u = true := bvs_one _
  have h32 : 12 + 20 ≤ 32 := by decide
  have h20 : 0 + 20 ≤ 20 := by decide
  refine CallG.start (C := mkC Hvaf.prog) cok (args := [wordV n]) Hvaf.func303 rfl Hvaf.ntmps303 (by simp) (by kernel_rfl) ?_
  intro x1 x2
  repeat (first | refine SeqS.go cok ?_ | (refine QuG.keep ?_; first | refine QuG.lN cok 1 rfl rfl rfl rfl rfl (by first | exact Nat.le_of_ble_eq_true rfl | omega | (dsimp only; omega) | (simp only [addS_eq, mulS_eq]; omega)) ?_))
  refine (hu _).mono ?_
  rintro r _ - ⟨rfl, rfl⟩
  skip
  intro x3
  repeat (first | refine SeqS.go cok ?_ | refine And.intro (Eq.refl true) ?_ | refine And.intro (by omega) ?_ | (refine NatS.keep ?_; first | with_reducible refine NatS.lit ?_) | (refine OpG.keep ?_; first | refine OpG.sL cok 0 rfl rfl rfl rfl rfl rfl rfl (by first | exact Nat.le_of_ble_eq_true rfl | omega | (dsimp only; omega) | (simp only [addS_eq, mulS_eq]; omega)) ?_))
  refine ValS.any ?_
  repeat (first | (refine QuG.keep ?_; refine QuG.rowE cok (x := ⟨x3, 32, 22, _⟩) hrow (.inr List.mem_cons_self) rfl rfl rfl rfl rfl hl20 h32 ?_) | (refine OpG.keep ?_; first | refine OpG.upS cok 1 rfl rfl rfl rfl rfl (by assumption) (by first | assumption | exact one_bvs _) (by first | exact Nat.le_of_ble_eq_true rfl | omega) ?_) | (refine LdG.keep ?_; first | refine LdG.upL cok 1 rfl rfl rfl rfl rfl rfl (by assumption) (by first | exact Nat.le_of_ble_eq_true rfl | omega) ?_) | refine SeqS.go cok ?_ | refine And.intro (by omega) ?_)
  exact Fin.drop S.G [_, _, _] ⟨rfl, rfl⟩
/-- mach.Machine.warmAcct -/
theorem mWarmY {I : Ent → Prop} {R G : List Ent} {cb sz : Nat} {T : TypeId} {c : Nat → Value} {V : Vl} {a : List Nat} (hsz : 27019 ≤ sz) (hmS : c 0 = ptr cb 2435) (hV : VI I c V G) (hO : VOk V) (ha : AdOk a) (hw : (V.acc a).warm = true) :
    CallG Hvaf.prog 304 #[ptr cb 0, bytesV a] ⟨I, ⟨cb, sz, T, c⟩ :: (R ++ G)⟩ fun r S' => ⟨I, ⟨cb, sz, T, c⟩ :: (R ++ G)⟩ = S' ∧ r = .bool true := by
  have hwa := vIsWarmAcct (R := R) (cb := cb) (T := T) hsz hV hO ha
  rw [hw] at hwa
  have hal := ha.len
  have hab := ha.bv
  refine CallG.start (C := mkC Hvaf.prog) cok (args := [ptr cb 0, bytesV a]) Hvaf.func304 rfl Hvaf.ntmps304 (by simp) (by kernel_rfl) ?_
  intro x1
  repeat (first | (refine QuG.keep ?_; first | refine QuG.l1E cok 1 rfl rfl rfl rfl rfl (by first | exact Nat.le_of_ble_eq_true rfl | omega | (dsimp only; omega) | (simp only [addS_eq, mulS_eq]; omega)) (by assumption) ?_ | refine QuG.boxL cok 0 rfl rfl rfl rfl rfl (by assumption) ?_) | refine SeqS.go cok ?_ | refine W.drawI 1 cok [0, 1, 3, 7, 0, 31, 63, 127, 255, 511, 1023, 127, 4095, 8191, 16383] [0, 1, 2, 3, 4, 5, 6, 7, 8, 9, 10, 11, 12, 13, 14] [3, 4, 10, 11] (by kernel_rfl) (by kernel_rfl) ?_)
  refine CallG.sameL [_] hwa ?_
  repeat (first | refine SeqS.go cok ?_ | refine GuardS.no rfl ?_ | (refine still_in ?_; first | refine still_drop (by decide) ?_))
  exact Fin.drop (⟨cb, sz, T, c⟩ :: (R ++ G)) [_] ⟨rfl, rfl⟩
theorem mWarmN {I : Ent → Prop} {R G : List Ent} {cb sz : Nat} {T : TypeId} {c : Nat → Value} {V : Vl} {a : List Nat} (hsz : 27019 ≤ sz) (hmS : c 0 = ptr cb 2435) (hV : VI I c V G) (hO : VOk V) (ha : AdOk a) (hw : (V.acc a).warm = false) (hroom : V.ac.length < 1990) (hj : V.jr.length < 59990) :
    CallG Hvaf.prog 304 #[ptr cb 0, bytesV a] ⟨I, ⟨cb, sz, T, c⟩ :: (R ++ G)⟩ (SetAP I R cb sz T c V a { V.acc' a with warm := true } ⟨4, V.ix a, 0, 0, (V.acc' a).warm⟩) := by
  have hwa := vIsWarmAcct (R := R) (cb := cb) (T := T) hsz hV hO ha
  rw [hw] at hwa
  have hwm := vWarmAcct (R := R) (cb := cb) (T := T) hsz hV hO ha hroom hj
  have hal := ha.len
  have hab := ha.bv
  refine CallG.start (C := mkC Hvaf.prog) cok (args := [ptr cb 0, bytesV a]) Hvaf.func304 rfl Hvaf.ntmps304 (by simp) (by kernel_rfl) ?_
  intro x1
  repeat (first | (refine QuG.keep ?_; first | refine QuG.l1E cok 1 rfl rfl rfl rfl rfl (by first | exact Nat.le_of_ble_eq_true rfl | omega | (dsimp only; omega) | (simp only [addS_eq, mulS_eq]; omega)) (by assumption) ?_ | refine QuG.boxL cok 0 rfl rfl rfl rfl rfl (by assumption) ?_) | refine SeqS.go cok ?_ | refine W.drawI 1 cok [0, 1, 3, 7, 0, 31, 63, 127, 255, 511, 1023, 127, 4095, 8191, 16383] [0, 1, 2, 3, 4, 5, 6, 7, 8, 9, 10, 11, 12, 13, 14] [3, 4, 10, 11] (by kernel_rfl) (by kernel_rfl) ?_)
  refine CallG.sameL [_] hwa ?_
  repeat (first | (refine QuG.keep ?_; first | refine QuG.l1E cok 1 rfl rfl rfl rfl rfl (by first | exact Nat.le_of_ble_eq_true rfl | omega | (dsimp only; omega) | (simp only [addS_eq, mulS_eq]; omega)) (by assumption) ?_ | refine QuG.boxL cok 0 rfl rfl rfl rfl rfl (by assumption) ?_) | refine GuardS.yes rfl ?_ | (refine still_in ?_; first | refine still_drop (by decide) ?_))
  refine CallG.behind [_] hwm ?_
  rintro r J G1 hs ⟨rfl, c', G', t, hS, h1, h2, h3⟩
  cases hS
  repeat (first | refine SeqS.go cok ?_ | (refine still_in ?_; first | refine still_drop (by decide) ?_))
  exact Fin.drop (⟨cb, sz, T, c'⟩ :: (R ++ G')) [_] ⟨rfl, c', G', t, rfl, h1, h2, h3⟩
end Go.Proofs.YgvafwGreat
