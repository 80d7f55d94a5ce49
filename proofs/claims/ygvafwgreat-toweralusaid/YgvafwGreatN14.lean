import Derived.Test.YgvafwGreatN13
import Derived.Test.YgvafwGreatE93
set_option exponentiation.threshold 1000
set_option maxRecDepth 100000
set_option maxHeartbeats 4000000
set_option linter.unusedVariables false
set_option linter.unusedSimpArgs false
-- v2
namespace Go.Proofs.YgvafwGreat
open Go.HL Go.Proofs

theorem getA_three {A B C : YA} (a : List Nat) : getA [A, B, C] a = A ∨ getA [A, B, C] a = B ∨ getA [A, B, C] a = C ∨ getA [A, B, C] a = ⟨a, 0, 0, [], []⟩ := by
  unfold getA
  rw [List.find?_cons]
  split
  · exact .inl rfl
  · rw [List.find?_cons]
    split
    · exact .inr (.inl rfl)
    · rw [List.find?_cons]
      split
      · exact .inr (.inr (.inl rfl))
      · exact .inr (.inr (.inr rfl))
section
variable {q : AQ} {σ τ : NS} {e : NE}
theorem AQ.e240 (hq : q.Ok) (ho : q.o = 240) : stepA q.K q.s3 = if 512 < argN q.s3.s 2 then .inr ⟨9, 0, [], q.K.w0⟩ else if 178991 < crcN q.s3.s 0 then .inr ⟨2, 0, [], q.K.w0⟩ else .inl (crS q.K q.s3) := by
  have hk : q.K.code.getD q.s3.pc 0 = 240 := (q.at3 hq 0).trans ho
  unfold stepA
  rw [hk, if_neg (by show ¬ (famN 240 ≠ 16 ∨ 3 < (arN 240).1); decide), if_neg (by decide)]
  rfl
theorem AQ.wkC (hq : q.Ok) : WOk q.K (crW q.K (W0 q.code waN)) := by
  have hl := q.len hq
  have hb := q.bytes hq
  have h3 := fun a => getA_three (A := ⟨adNo 1, 2, 0, q.code, []⟩) (B := ⟨adNo 240, 1, 2 ^ 128, [], []⟩) (C := ⟨crAd, 1, 0, [], []⟩) a
  have e : ∀ a, getA (crW q.K (W0 q.code waN)).al a = getA [⟨adNo 1, 2, 0, q.code, []⟩, ⟨adNo 240, 1, 2 ^ 128, [], []⟩, ⟨crAd, 1, 0, [], []⟩] a := fun a => by rw [show (crW q.K (W0 q.code waN)).al = alC q.code from crW_al q.code []]; rfl
  refine ⟨fun a => ?_, fun a => ?_, fun k => ?_, fun a k => ?_, fun a => ?_⟩
  · rw [e a]
    rcases h3 a with h | h | h | h <;> rw [h]
    · exact (by decide : 0 < 2 ^ 256)
    · exact (by decide : 2 ^ 128 < 2 ^ 256)
    · exact (by decide : 0 < 2 ^ 256)
    · exact (by decide : 0 < 2 ^ 256)
  · rw [e a]
    rcases h3 a with h | h | h | h <;> rw [h]
    · show q.code.length < 2 ^ 20; omega
    · exact (by decide : 0 < 2 ^ 20)
    · exact (by decide : 0 < 2 ^ 20)
    · exact (by decide : 0 < 2 ^ 20)
  · show loadS [] k < 2 ^ 256
    exact (by decide : 0 < 2 ^ 256)
  · exact (by decide : 0 < 2 ^ 256)
  · rw [e a]
    rcases h3 a with h | h | h | h <;> rw [h]
    · exact hb
    all_goals (intro d hd; cases hd)
/-- the state behind CREATE -/
theorem RA.cr (hq : q.Ok) (h : RA q q.s3) (hle : crcN q.s3.s 0 ≤ 178991) : RA q (crS q.K q.s3) ∧ (crS q.K q.s3).gas < q.s3.gas := by
  have hge : 32000 ≤ crcN q.s3.s 0 := by unfold crcN; split <;> omega
  have hcm := crc_mem q.s3.s 0
  have hgl := growL_len (mem := []) (k := (endN (argN q.s3.s 1) (argN q.s3.s 2) + 31) / 32)
  have hm0 : memC (0 / 32) = 0 := by decide
  have hw5 : (withA crAd waN).length ≤ 6 := withA_len crAd waN
  have hgas : (crS q.K q.s3).gas = 178991 - crcN q.s3.s 0 := rfl
  have hmem : (crS q.K q.s3).mem = growL [] ((endN (argN q.s3.s 1) (argN q.s3.s 2) + 31) / 32) := rfl
  refine ⟨⟨⟨⟨?_, ?_, ?_, ?_, ?_, ?_, ?_, ?_⟩, ?_⟩, ?_, ?_, ?_⟩, ?_⟩
  · intro x hx
    have hx : x ∈ [if argN q.s3.s 0 = 0 then bev crAd else 0] := hx
    rw [List.mem_singleton.1 hx]
    split
    · exact (by decide : bev crAd < 2 ^ 256)
    · exact (by decide : 0 < 2 ^ 256)
  · show 1 ≤ 64; decide
  · rw [hmem]; exact growL_lt (by simp) _
  · rw [hmem, grow_nil, List.length_replicate]; omega
  · rw [hgas, hmem, hgl.1]
    show 178991 - crcN q.s3.s 0 + memC (max (0 / 32) _) ≤ _
    omega
  · rw [hgas]
    have : szW q.K (crS q.K q.s3).w ≤ 20 := by
      show szW q.K (if argN q.s3.s 0 = 0 then crW q.K (W0 q.code waN) else W0 q.code waN) ≤ 20
      split
      · show 3 + 0 + (withA crAd waN).length + 0 + 0 + 0 ≤ 20; omega
      · show 2 + 0 + waN.length + 0 + 0 + 0 ≤ 20; decide
    omega
  · rw [hgas]
    have : (crS q.K q.s3).w.rf = 0 := by
      show (if argN q.s3.s 0 = 0 then crW q.K (W0 q.code waN) else W0 q.code waN).rf = 0
      split <;> rfl
    rw [this]; omega
  · show WOk q.K (if argN q.s3.s 0 = 0 then crW q.K (W0 q.code waN) else W0 q.code waN)
    split
    · exact q.wkC hq
    · exact h.ok.n.wk
  · show 100 ≤ q.code.length + 33; rw [q.len hq]; decide
  · show LgB (if argN q.s3.s 0 = 0 then crW q.K (W0 q.code waN) else W0 q.code waN)
    split
    · exact h.lg
    · exact h.lg
  · exact .inr (.inr (.inr (.inr ⟨by show 99 ≤ 100; decide, fun hc => absurd hc (by show (100 : Nat) ≠ 99; decide)⟩)))
  · show AlOk q.code (if argN q.s3.s 0 = 0 then crW q.K (W0 q.code waN) else W0 q.code waN) ∨ (100 ≤ 100 ∧ (if argN q.s3.s 0 = 0 then crW q.K (W0 q.code waN) else W0 q.code waN).al = alC q.code)
    split
    · exact .inr ⟨by decide, rfl⟩
    · exact .inl ⟨[], rfl, SsOk.nil⟩
  · rw [hgas]; show _ < 178991; omega
end
end Go.Proofs.YgvafwGreat
