import Derived.Test.YgvafwGreatE63b
import Derived.Test.YgvafwGreatR3
import Derived.Test.YgvafwGreatE58
import Derived.Test.YgvafwGreatV22
import Derived.Test.YgvafwGreatV23
import Derived.Test.YgvafwGreatL5
import Derived.Test.YgvafwGreatY88u
set_option exponentiation.threshold 1000
set_option maxRecDepth 100000
set_option maxHeartbeats 40000000
set_option linter.unusedVariables false
set_option linter.unusedSimpArgs false
-- v2
-- v4
-- v5
-- v6
-- v7
namespace Go.Proofs.YgvafwGreat
open Go.HL Go.Proofs

/-- vault.Vault.Refund -/
theorem vRefund {I : Ent → Prop} {R G : List Ent} {cb sz : Nat} {T : TypeId} {c : Nat → Value} {V : Vl} (hsz : 27019 ≤ sz) (hV : VI I c V G) :
    CallG Hvaf.prog 123 #[ptr cb 2435] ⟨I, ⟨cb, sz, T, c⟩ :: (R ++ G)⟩ fun r S' => ⟨I, ⟨cb, sz, T, c⟩ :: (R ++ G)⟩ = S' ∧ r = .int .u64 (V.rf : Nat) := by
  have h := hV.rf
  refine CallG.start (C := mkC Hvaf.prog) cok (args := [ptr cb 2435]) Hvaf.func123 rfl Hvaf.ntmps123 (by simp) (by kernel_rfl) ?_
  repeat (first | (refine QuG.keep ?_; first | refine QuG.l1E cok 0 rfl rfl rfl rfl rfl (by first | exact Nat.le_of_ble_eq_true rfl | omega | (dsimp only; omega) | (simp only [addS_eq, mulS_eq]; omega)) (by assumption) ?_) | refine SeqS.go cok ?_)
  exact Fin.same ⟨rfl, rfl⟩
/-- The machine's cells where a transaction has ended. -/
structure PayF (cb : Nat) (c : Nat → Value) (gas g st : Nat) (ra : Option Addr) (rn rc : Nat) : Prop where
  mS : c 0 = ptr cb 2435
  ph : c 2404 = .int .u8 2
  st : c 2405 = .int .u8 (st : Nat)
  gs : c 1810 = .int .u64 (g : Nat)
  lim : c 2407 = .int .u64 (gas : Nat)
  pr : Row c 2400 (wcs 0)
  env : Row c 2260 envL
  og : Row c 2380 (bvs (adNo 240))
  made : Row c 2415 (bvs (List.replicate 20 0))
  rt : c 2259 = .slice ra rn rc
theorem PayF.out {cb gas g st rn rc : Nat} {ra : Option Addr} {c c' : Nat → Value} (h : PayF cb c gas g st ra rn rc) (ho : Out c c') : PayF cb c' gas g st ra rn rc := by
  have e := fun k (hk : k < 2435) => ho k (.inl hk)
  have r := fun (o : Nat) (vs : List Value) (hr : Row c o vs) (h2 : o + vs.length ≤ 2435) => Row.congr hr (c' := c') fun k _ hk2 => e k (by omega)
  exact { mS := (e _ (by decide)).trans h.mS
          ph := (e _ (by decide)).trans h.ph
          st := (e _ (by decide)).trans h.st
          gs := (e _ (by decide)).trans h.gs
          lim := (e _ (by decide)).trans h.lim
          pr := r _ _ h.pr (by decide)
          env := r _ _ h.env (by decide)
          og := r _ _ h.og (by decide)
          made := r _ _ h.made (by decide)
          rt := (e _ (by decide)).trans h.rt }
theorem mSubZ {S : St} : CallG Hvaf.prog 108 #[wordV 0, wordV 0] S fun r S' => S = S' ∧ r = wordV 0 := by
  have h := USub_spec (S := S) (a := 0) (b := 0) (by decide) (by decide)
  rw [show (0 + 115792089237316195423570985008687907853269984665640564039457584007913129639936 - 0) % 115792089237316195423570985008687907853269984665640564039457584007913129639936 = 0 by decide +kernel] at h
  exact h
theorem mAdd0 {S : St} {n : Nat} (hn : n < 115792089237316195423570985008687907853269984665640564039457584007913129639936) : CallG Hvaf.prog 124 #[wordV n, wordV 0] S fun r S' => S = S' ∧ r = wordV n := by
  have h := UAdd_spec (S := S) (a := n) (b := 0) hn (by decide)
  rw [Nat.add_zero, Nat.mod_eq_of_lt hn] at h
  exact h
theorem vPutBalR {I : Ent → Prop} {M G : List Ent} {cb sz n : Nat} {T : TypeId} {c : Nat → Value} {K : YK} {V : Vl} {w : YW} {a : List Nat} (hsz : 27019 ≤ sz) (hV : VI I c V G) (hO : VOk V) (hR : RW K V w) (ha : AdOk a) (h1 : V.ac.length < 1000) (h2 : V.jr.length < 50000) (hn : n < 115792089237316195423570985008687907853269984665640564039457584007913129639936) (hA : (getA w.al a).addr = a) :
    CallG Hvaf.prog 107 #[ptr cb 2435, bytesV a, wordV n] ⟨I, ⟨cb, sz, T, c⟩ :: (M ++ G)⟩ fun r S' => r = .bool true ∧ ∃ c' G' V', S' = ⟨I, ⟨cb, sz, T, c'⟩ :: (M ++ G')⟩ ∧ VI I c' V' G' ∧ VOk V' ∧ RW K V' { w with al := putA { getA w.al a with bal := n } w.al } ∧ V'.ac.length ≤ V.ac.length + 1 ∧ V'.jr.length = V.jr.length + 1 ∧ Out c c' := by
  refine (vPutBalance (R := M) hsz hV hO ha (by omega) (by omega) hn).mono ?_
  rintro r S' - ⟨h3, c', G', t, h4, h5, h6, h7⟩
  refine ⟨h3, c', G', _, h4, h5, h6, hR.putB a n t _ hA, ?_, ?_, h7⟩
  · show ((V.ent a t).ac.set _ _).length ≤ _
    rw [List.length_set]
    unfold Vl.ent
    split
    · omega
    · show (V.ac ++ [newA a]).length ≤ _
      rw [List.length_append, List.length_singleton]; omega
  · show (V.jr ++ [_]).length = _
    rw [List.length_append]; rfl
theorem vLoggedS {I : Ent → Prop} {M G : List Ent} {cb sz : Nat} {T : TypeId} {c : Nat → Value} {V : Vl} (hsz : 27019 ≤ sz) (hV : VI I c V G) (hO : VOk V) (h5 : ∀ t ∈ V.lg, t.2.1.length < 5) :
    CallG Hvaf.prog 125 #[ptr cb 2435] ⟨I, ⟨cb, sz, T, c⟩ :: (M ++ G)⟩ fun r S' => ∃ J la ln lc, S' = ⟨J, ⟨cb, sz, T, c⟩ :: (M ++ G)⟩ ∧ r = .slice la ln lc ∧ LogsI J (.slice la ln lc) V.lg := by
  refine callLS (vLogged (R := M) hsz hV hO h5) fun la ln lc J hs h => ?_
  exact ⟨J, la, ln, lc, rfl, rfl, h⟩
/-- What pay leaves. -/
def PayP (cb sz : Nat) (T : TypeId) (M : List Ent) (c : Nat → Value) (K : YK) (w : YW) (gas g st : Nat) (out : List Nat) : Post := fun r S' =>
  ∃ J c' G' V' ov lv, r = rptV 0 st (usedN gas g w.rf) ov lv (List.replicate 20 0) ∧ S' = ⟨J, ⟨cb, sz, T, c'⟩ :: (M ++ G')⟩ ∧ VI J c' V' G' ∧ VOk V' ∧ RW K V' { w with al := putA { getA (putA { getA w.al (adNo 240) with bal := 2 ^ 128 } w.al) (adNo 192) with bal := 0 } (putA { getA w.al (adNo 240) with bal := 2 ^ 128 } w.al) } ∧ 0 < V'.jr.length ∧ Byt ⟨J, []⟩ ov out ∧ LogsI J lv w.lg ∧ Out c c'
end Go.Proofs.YgvafwGreat
