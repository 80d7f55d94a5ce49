import Derived.Test.YgvafwGreatY36
set_option maxRecDepth 100000
set_option maxHeartbeats 4000000
set_option linter.unusedVariables false
set_option linter.unusedSimpArgs false
-- v2
-- v4
-- v5
-- v6
-- v7
namespace Go.Proofs.YgvafwGreat
open Go.HL Go.Proofs

/-- An instruction that neither calls nor creates nor destroys. -/
def opOk (o : Nat) : Bool := decide (famN o ≠ 0) && decide (famN o ≠ 16) && decide (o < 256)
set_option synthInstance.maxSize 100000 in
set_option synthInstance.maxHeartbeats 2000000 in
theorem opOk_cases : ∀ o, o < 256 → opOk o = true → (o = 1 ∨ o = 3 ∨ o = 53 ∨ o = 81 ∨ o = 82 ∨ o = 83) ∨ (o = 2 ∨ o = 4 ∨ o = 5 ∨ o = 6 ∨ o = 7 ∨ o = 11 ∨ o = 71) ∨ (o = 8 ∨ o = 9 ∨ o = 86) ∨ (o = 87) ∨ (o = 91) ∨ (o = 64) ∨ (o = 0 ∨ o = 243 ∨ o = 253) ∨ (o = 92 ∨ o = 93) ∨ (o = 48 ∨ o = 50 ∨ o = 51 ∨ o = 52 ∨ o = 54 ∨ o = 56 ∨ o = 58 ∨ o = 61 ∨ o = 65 ∨ o = 66) ∨ (o = 67 ∨ o = 68 ∨ o = 69 ∨ o = 70 ∨ o = 72 ∨ o = 80 ∨ o = 88 ∨ o = 89 ∨ o = 90 ∨ o = 95) ∨ (o = 10) ∨ (o = 32) ∨ (o = 55 ∨ o = 57 ∨ o = 62 ∨ o = 94) ∨ (o = 49 ∨ o = 59 ∨ o = 63) ∨ (o = 60) ∨ (16 ≤ o ∧ o ≤ 29) ∨ (96 ≤ o ∧ o ≤ 159) ∨ (160 ≤ o ∧ o ≤ 164) ∨ o = 84 ∨ o = 85 := by decide +kernel
/-- yp.State.bareCost -/
theorem yBare {I : Ent → Prop} {G : List Ent} {sb ssz fb fsz pc gas o : Nat} {Ts Tf : TypeId} {cs cf : Nat → Value} {K : YK} {w : YW} {s : List Nat} (hsz : 9 ≤ ssz) (hfz : 60 ≤ fsz) (hC : CsI I cs cf K w pc gas s) (ho : o < 256) (hk : opOk o = true) :
    CallG Hvaf.prog 233 #[ptr sb 0, ptr fb 0, .int .u8 (o : Nat)] ⟨I, ⟨sb, ssz, Ts, cs⟩ :: ⟨fb, fsz, Tf, cf⟩ :: G⟩ fun r S' => S'.G = ⟨sb, ssz, Ts, cs⟩ :: ⟨fb, fsz, Tf, cf⟩ :: G ∧ NatI S'.I r (bareN K w s o) := by
  rcases opOk_cases o ho hk with h | h | h | h | h | h | h | h | h | h | h | h | h | h | h | ⟨h1, h2⟩ | ⟨h1, h2⟩ | ⟨h1, h2⟩ | rfl | rfl
  · exact yBare3 hsz hfz hC h
  · exact yBare5 hsz hfz hC h
  · exact yBare8 hsz hfz hC h
  · exact yBare10 hsz hfz hC h
  · exact yBare1 hsz hfz hC h
  · exact yBare20 hsz hfz hC h
  · exact yBare0 hsz hfz hC h
  · exact yBare100 hsz hfz hC h
  · exact yBare2a hsz hfz hC h
  · exact yBare2b hsz hfz hC h
  · exact yBareExp hsz hfz hC h
  · exact yBareKec hsz hfz hC h
  · exact yBareCpy hsz hfz hC h
  · exact yBareAcc hsz hfz hC h
  · exact yBareExt hsz hfz hC h
  · exact yBareR1 hsz hfz hC h1 h2
  · exact yBareR2 hsz hfz hC h1 h2
  · exact yBareLog hsz hfz hC h1 h2
  · cases hw0 : (findT K.self (argN s 0) w.ms).isSome
    · exact yBareSl2 (o := 84) hsz hfz hC hw0
    · exact yBareSl1 (o := 84) hsz hfz hC hw0
  · exact yBareSst (o := 85) hsz hfz hC
end Go.Proofs.YgvafwGreat
