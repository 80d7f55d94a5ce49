import Derived.Test.YgvafwGreatE43
set_option exponentiation.threshold 1000
set_option maxRecDepth 100000
set_option maxHeartbeats 4000000
set_option linter.unusedVariables false
set_option linter.unusedSimpArgs false
-- v2
-- v4
-- v5
-- v6
-- v7
namespace Go.Proofs.YgvafwGreat
open Go.HL Go.Proofs
/-- mach.Info -/
theorem mInfo {S : St} {o : Nat} (ho : o < 256) : CallG Hvaf.prog 119 #[.int .u8 (o : Nat)] S fun r S' => S = S' ∧ r = .tuple #[.int .u8 ((arN o).1 : Nat), .int .u8 ((arN o).2.1 : Nat), .int .u16 (sgN o : Nat), .bool (arN o).2.2] := by
  have hc : o ∈ [0, 243, 253, 49, 59, 63, 84, 85, 60, 241, 242, 244, 250, 91, 48, 50, 51, 52, 54, 56, 58, 61, 65, 66, 67, 68, 69, 70, 72, 88, 89, 90, 95, 80, 71, 2, 4, 5, 6, 7, 11, 1, 3, 16, 17, 18, 19, 20, 22, 23, 24, 26, 27, 28, 29, 21, 25, 53, 81, 82, 83, 55, 57, 62, 94, 10, 87, 32, 8, 9, 86, 92, 93, 64, 240, 245, 255] ∨ (96 ≤ o ∧ o ≤ 127) ∨ (128 ≤ o ∧ o ≤ 143) ∨ (144 ≤ o ∧ o ≤ 159) ∨ (160 ≤ o ∧ o ≤ 164) ∨ (12 ≤ o ∧ o ≤ 15) ∨ (30 ≤ o ∧ o ≤ 31) ∨ (33 ≤ o ∧ o ≤ 47) ∨ (73 ≤ o ∧ o ≤ 79) ∨ (165 ≤ o ∧ o ≤ 239) ∨ (246 ≤ o ∧ o ≤ 249) ∨ (251 ≤ o ∧ o ≤ 252) ∨ (254 ≤ o ∧ o ≤ 254) := (by decide +kernel : ∀ o, o < 256 → o ∈ [0, 243, 253, 49, 59, 63, 84, 85, 60, 241, 242, 244, 250, 91, 48, 50, 51, 52, 54, 56, 58, 61, 65, 66, 67, 68, 69, 70, 72, 88, 89, 90, 95, 80, 71, 2, 4, 5, 6, 7, 11, 1, 3, 16, 17, 18, 19, 20, 22, 23, 24, 26, 27, 28, 29, 21, 25, 53, 81, 82, 83, 55, 57, 62, 94, 10, 87, 32, 8, 9, 86, 92, 93, 64, 240, 245, 255] ∨ (96 ≤ o ∧ o ≤ 127) ∨ (128 ≤ o ∧ o ≤ 143) ∨ (144 ≤ o ∧ o ≤ 159) ∨ (160 ≤ o ∧ o ≤ 164) ∨ (12 ≤ o ∧ o ≤ 15) ∨ (30 ≤ o ∧ o ≤ 31) ∨ (33 ≤ o ∧ o ≤ 47) ∨ (73 ≤ o ∧ o ≤ 79) ∨ (165 ≤ o ∧ o ≤ 239) ∨ (246 ≤ o ∧ o ≤ 249) ∨ (251 ≤ o ∧ o ≤ 252) ∨ (254 ≤ o ∧ o ≤ 254)) o ho
  rcases hc with h | ⟨h1, h2⟩ | ⟨h1, h2⟩ | ⟨h1, h2⟩ | ⟨h1, h2⟩ | ⟨h1, h2⟩ | ⟨h1, h2⟩ | ⟨h1, h2⟩ | ⟨h1, h2⟩ | ⟨h1, h2⟩ | ⟨h1, h2⟩ | ⟨h1, h2⟩ | ⟨h1, h2⟩
  · exact mInfoL h
  · exact mInfoR0 h1 h2
  · exact mInfoR1 h1 h2
  · exact mInfoR2 h1 h2
  · exact mInfoR3 h1 h2
  · exact mInfoU0 h1 h2
  · exact mInfoU1 h1 h2
  · exact mInfoU2 h1 h2
  · exact mInfoU3 h1 h2
  · exact mInfoU4 h1 h2
  · exact mInfoU5 h1 h2
  · exact mInfoU6 h1 h2
  · exact mInfoU7 h1 h2
end Go.Proofs.YgvafwGreat
