import Derived.Test.YgvafwGreatE66
import Derived.Test.YgvafwGreatE63b
import Derived.Test.YgvafwGreatV21
import Derived.Test.YgvafwGreatY76
set_option exponentiation.threshold 1000
set_option maxRecDepth 100000
set_option maxHeartbeats 40000000
set_option linter.unusedVariables false
set_option linter.unusedSimpArgs false
-- v2
-- v4
-- v5
-- v6
-- v7
namespace Go.Proofs.YgvafwGreat
open Go.HL Go.Proofs

theorem eWarmList0 {S : St} {v : Value} : CallG Hvaf.prog 111 #[v, .slice none 0 0] S fun r S' => S = S' := by
  refine CallG.start (C := mkC Hvaf.prog) cok (args := [v, .slice none 0 0]) Hvaf.func111 rfl Hvaf.ntmps111 (by simp) (by kernel_rfl) ?_
  repeat (first | refine SeqS.go cok ?_)
  refine W.rounds cok (by kernel_rfl) 1 ?_
  repeat (first | refine SeqS.go cok ?_ | refine CondS.f rfl ?_)
  exact Fin.same rfl
/-- The idle machine. -/
structure MIdl (cb : Nat) (c : Nat → Value) : Prop where
  vd : VdI cb c
  a1 : c 1 = .slice none 0 0
  a2 : c 2 = .int .u32 ((0 : Nat) : Int)
  a10 : c 10 = .int .u8 ((0 : Nat) : Int)
  top : c 2258 = .int .i8 (-1)
  env : Row c 2260 envL
/-- The cells where the vault is first touched. -/
def opC (c : Nat → Value) (gas tg na ns : Nat) : Nat → Value :=
  upd (HL.updN (HL.updN (HL.updN (upd (upd (upd (upd (upd (HL.updN c 2415 (bvs (List.replicate 20 0))) 2413 (.int .i32 (na : Nat))) 2414 (.int .i32 (ns : Nat))) 2406 (.int .u8 ((1 : Nat) : Int))) 2407 (.int .u64 (gas : Nat))) 2408 (.int .u64 (tg : Nat))) 2409 (wcs 0)) 2400 (wcs 0)) 2380 (bvs (adNo 240))) 2259 (.slice none 0 0)
def w00 (code : List Nat) : YW := ⟨[⟨adNo 1, 1, 0, code, []⟩, ⟨adNo 240, 0, 2 ^ 128, [], []⟩], [], [], 0, [], [], []⟩
theorem opF0 {cb gas tg na ns : Nat} {c : Nat → Value} (h : MIdl cb c) : OpF cb (opC c gas tg na ns) gas tg := by
  refine ⟨h.vd.mS, h.a1, h.a2, h.a10, h.top, ?_, ?_, ?_, rfl, rfl, rfl, ?_, ?_⟩
  · refine Row.congr h.env fun k hk hk2 => ?_
    have hk2 : k < 2260 + 120 := hk2
    unfold opC
    rw [upd_ne (by omega), updN_o (.inl (by omega)), updN_o (.inl (by omega)), updN_o (.inl (by omega)), upd_ne (by omega), upd_ne (by omega), upd_ne (by omega), upd_ne (by omega), upd_ne (by omega), updN_o (.inl (by omega))]
  · exact Row.ofCellsO (n := 20) rfl
  · exact Row.ofCellsO (n := 4) rfl
  · exact Row.ofCellsO (n := 4) rfl
  · exact Row.ofCellsO (n := 20) rfl
theorem opC_V {c : Nat → Value} {gas tg na ns k : Nat} (h : 2435 ≤ k) : opC c gas tg na ns k = c k := by
  unfold opC
  rw [upd_ne (by omega), updN_o (.inr (by show 2380 + 20 ≤ k; omega)), updN_o (.inr (by show 2400 + 4 ≤ k; omega)), updN_o (.inr (by show 2409 + 4 ≤ k; omega)), upd_ne (by omega), upd_ne (by omega), upd_ne (by omega), upd_ne (by omega), upd_ne (by omega), updN_o (.inr (by show 2415 + 20 ≤ k; omega))]
theorem mSub0 {S : St} : CallG Hvaf.prog 108 #[wordV (2 ^ 128), wordV 0] S fun r S' => S = S' ∧ r = wordV (2 ^ 128) := by
  have h := USub_spec (S := S) (a := 2 ^ 128) (b := 0) (by decide) (by decide)
  rw [show (2 ^ 128 + 115792089237316195423570985008687907853269984665640564039457584007913129639936 - 0) % 115792089237316195423570985008687907853269984665640564039457584007913129639936 = 2 ^ 128 by decide +kernel] at h
  exact h
end Go.Proofs.YgvafwGreat
