import Derived.Test.YgvafwGreatY34
import Derived.Test.YgvafwGreatM1
import Derived.Test.YgvafwGreatHV
set_option exponentiation.threshold 1000
set_option maxRecDepth 100000
set_option maxHeartbeats 4000000
set_option linter.unusedVariables false
set_option linter.unusedSimpArgs false
-- v2
-- v4
-- v5
-- v6
-- v7
namespace Go.Proofs.YgvafwGreat
open Go.HL Go.Proofs

/-- The four cells of a word. -/
def wcs (n : Nat) : List Value := [.int .u64 (n % 18446744073709551616 : Nat), .int .u64 (n / 18446744073709551616 % 18446744073709551616 : Nat), .int .u64 (n / 340282366920938463463374607431768211456 % 18446744073709551616 : Nat), .int .u64 (n / 6277101735386680763835789423207666416102355444464034512896 % 18446744073709551616 : Nat)]
theorem wcs_word (n : Nat) : Value.agg (wcs n).toArray = wordV n := rfl
theorem wcs_one (n : Nat) : ∀ u ∈ wcs n, one u = true := by
  intro u hu
  simp only [wcs, List.mem_cons, List.mem_nil_iff, or_false] at hu
  rcases hu with rfl | rfl | rfl | rfl <;> rfl
/-- What no step of a running frame changes in the machine's cells. -/
structure MK (I : Ent → Prop) (cb : Nat) (c : Nat → Value) (K : YK) : Prop where
  mS : c 0 = ptr cb 2435
  mTop : c 2258 = .int .i8 0
  mPh : c 2404 = .int .u8 1
  mRet : c 2259 = .slice none 0 0
  mOr : Row c 2380 (bvs (adNo 240))
  mPr : Row c 2400 (wcs 0)
  eCb : Row c 2260 (bvs (adNo 192))
  eNo : c 2280 = .int .u64 0
  eTi : c 2281 = .int .u64 0
  eGl : c 2282 = .int .u64 1048576
  eRa : Row c 2283 (bvs (List.replicate 32 0))
  eCh : Row c 2315 (bvs (List.replicate 32 0))
  eBf : Row c 2347 (bvs (List.replicate 32 0))
  eHa : c 2379 = .slice none 0 0
  fk : c 1803 = .int .u8 0
  fn : c 1805 = .int .u8 0
  fst : c 1806 = .bool false
  fsb : c 1808 = .int .u16 0
  fsn : c 1811 = .int .i32 0
  fself : Row c 1812 (bvs K.self)
  fcall : Row c 1832 (bvs K.caller)
  fval : Row c 1852 (wcs 0)
  fcode : Byt ⟨I, []⟩ (c 1856) K.code
  finp : Byt ⟨I, []⟩ (c 1857) K.data
  fdst : ∃ ds : List Nat, Row c 1858 (ivs .u64 ds) ∧ ds.length = 8 ∧ (∀ d ∈ ds, d < 18446744073709551616) ∧ ∀ i, i < 512 → (ds.getD (i / 64) 0).testBit (i % 64) = destN K.code i
  kb : KB K
/-- What a step changes: the place in the code, the gas, the stack. -/
structure MV (c : Nat → Value) (pc gas : Nat) (s : List Nat) : Prop where
  fpc : c 1807 = .int .u16 (pc : Nat)
  fsp : c 1809 = .int .u16 (s.length : Nat)
  fgas : c 1810 = .int .u64 (gas : Nat)
  stk : ∀ i, i < s.length → Row c (11 + 4 * i) (wcs (s.getD i 0))
  sl : s.length ≤ 64
  sb : ∀ x ∈ s, x < 115792089237316195423570985008687907853269984665640564039457584007913129639936
  pb : pc < 60000
  gb : gas < 2 ^ 40
theorem Row.congr {c c' : Nat → Value} {o : Nat} {vs : List Value} (h : Row c o vs) (hc : ∀ k, o ≤ k → k < o + vs.length → c' k = c k) : Row c' o vs := ⟨fun i hi => by rw [hc _ (by omega) (by omega)]; exact h.get i hi⟩
theorem bvs_len' (ds : List Nat) : (bvs ds).length = ds.length := by simp [bvs]
theorem adNo_len (n : Nat) : (adNo n).length = 20 := rfl
theorem MK.congr {I J : Ent → Prop} {cb : Nat} {c c' : Nat → Value} {K : YK} (h : MK I cb c K) (hs : Sub I J) (hc : ∀ k, k < 2435 → (k = 0 ∨ 1803 ≤ k ∧ k < 1866 ∨ 2258 ≤ k) → k ≠ 1807 → k ≠ 1809 → k ≠ 1810 → c' k = c k) : MK J cb c' K := by
  have e := fun (k : Nat) (h1 : k < 2435) (h2 : k = 0 ∨ 1803 ≤ k ∧ k < 1866 ∨ 2258 ≤ k) (h3 : k ≠ 1807 ∧ k ≠ 1809 ∧ k ≠ 1810) => hc k h1 h2 h3.1 h3.2.1 h3.2.2
  have r := fun (o : Nat) (vs : List Value) (hr : Row c o vs) (h1 : 1811 ≤ o) (h2 : o + vs.length ≤ 1866 ∨ 2258 ≤ o ∧ o + vs.length ≤ 2435) => Row.congr hr (c' := c') fun k hk1 hk2 => e k (by omega) (by omega) (by omega)
  have l1 : K.self.length = 20 := h.kb.kself.len
  have l2 : K.caller.length = 20 := h.kb.kcaller.len
  obtain ⟨ds, d1, d2, d3, d4⟩ := h.fdst
  exact { mS := by rw [e 0 (by omega) (by omega) (by omega)]; exact h.mS
          mTop := by rw [e 2258 (by omega) (by omega) (by omega)]; exact h.mTop
          mPh := by rw [e 2404 (by omega) (by omega) (by omega)]; exact h.mPh
          mRet := by rw [e 2259 (by omega) (by omega) (by omega)]; exact h.mRet
          mOr := r _ _ h.mOr (by omega) (by rw [bvs_len', adNo_len]; omega)
          mPr := r _ _ h.mPr (by omega) (by show 2400 + 4 ≤ 1866 ∨ 2258 ≤ 2400 ∧ 2400 + 4 ≤ 2435; omega)
          eCb := r _ _ h.eCb (by omega) (by rw [bvs_len', adNo_len]; omega)
          eNo := by rw [e 2280 (by omega) (by omega) (by omega)]; exact h.eNo
          eTi := by rw [e 2281 (by omega) (by omega) (by omega)]; exact h.eTi
          eGl := by rw [e 2282 (by omega) (by omega) (by omega)]; exact h.eGl
          eRa := r _ _ h.eRa (by omega) (by rw [bvs_len', List.length_replicate]; omega)
          eCh := r _ _ h.eCh (by omega) (by rw [bvs_len', List.length_replicate]; omega)
          eBf := r _ _ h.eBf (by omega) (by rw [bvs_len', List.length_replicate]; omega)
          eHa := by rw [e 2379 (by omega) (by omega) (by omega)]; exact h.eHa
          fk := by rw [e 1803 (by omega) (by omega) (by omega)]; exact h.fk
          fn := by rw [e 1805 (by omega) (by omega) (by omega)]; exact h.fn
          fst := by rw [e 1806 (by omega) (by omega) (by omega)]; exact h.fst
          fsb := by rw [e 1808 (by omega) (by omega) (by omega)]; exact h.fsb
          fsn := by rw [e 1811 (by omega) (by omega) (by omega)]; exact h.fsn
          fself := r _ _ h.fself (by omega) (by rw [bvs_len', l1]; omega)
          fcall := r _ _ h.fcall (by omega) (by rw [bvs_len', l2]; omega)
          fval := r _ _ h.fval (by omega) (by show 1852 + 4 ≤ 1866 ∨ 2258 ≤ 1852 ∧ 1852 + 4 ≤ 2435; omega)
          fcode := by rw [e 1856 (by omega) (by omega) (by omega)]; exact h.fcode.mono hs (by simp)
          finp := by rw [e 1857 (by omega) (by omega) (by omega)]; exact h.finp.mono hs (by simp)
          fdst := ⟨ds, r _ _ d1 (by omega) (.inl (by simp [ivs, d2])), d2, d3, d4⟩
          kb := h.kb }
theorem MV.congr {c c' : Nat → Value} {pc gas : Nat} {s : List Nat} (h : MV c pc gas s) (hc : ∀ k, 11 ≤ k → k < 1811 → c' k = c k) : MV c' pc gas s := by
  have := h.sl
  refine ⟨by rw [hc _ (by omega) (by omega)]; exact h.fpc, by rw [hc _ (by omega) (by omega)]; exact h.fsp, by rw [hc _ (by omega) (by omega)]; exact h.fgas, fun i hi => Row.congr (h.stk i hi) fun k h1 h2 => hc k (by omega) ?_, h.sl, h.sb, h.pb, h.gb⟩
  simp [wcs] at h2; omega
/-- mach.Machine.running -/
theorem mRunning {I : Ent → Prop} {G : List Ent} {cb sz : Nat} {T : TypeId} {c : Nat → Value} {K : YK} (hsz : 2435 ≤ sz) (hK : MK I cb c K) :
    CallG Hvaf.prog 193 #[ptr cb 0] ⟨I, ⟨cb, sz, T, c⟩ :: G⟩ fun r S' => ⟨I, ⟨cb, sz, T, c⟩ :: G⟩ = S' ∧ r = ptr cb 1803 := by
  have h1 := hK.mPh
  have h2 := hK.mS
  have h3 := hK.mTop
  refine CallG.start (C := mkC Hvaf.prog) cok (args := [ptr cb 0]) Hvaf.func193 rfl Hvaf.ntmps193 (by simp) (by kernel_rfl) ?_
  repeat (first | (refine QuG.keep ?_; first | refine QuG.l1E cok 0 rfl rfl rfl rfl rfl (by first | exact Nat.le_of_ble_eq_true rfl | omega | (dsimp only; omega) | (simp only [addS_eq, mulS_eq]; omega)) (by assumption) ?_) | refine SeqS.go cok ?_ | refine GuardS.yes rfl ?_ | refine CondS.f rfl ?_ | refine And.intro (by dsimp only; omega) ?_ | (refine NatS.keep ?_; first | with_reducible refine NatS.lit ?_) | refine W.drawI 3 cok [0, 0, 2, 6, 14, 1, 33, 127, 255] [0, 1, 2, 3, 4, 5, 6, 7, 8] [4] (by kernel_rfl) (by kernel_rfl) ?_)
  exact Fin.same ⟨rfl, rfl⟩
end Go.Proofs.YgvafwGreat
