import Derived.Test.YgvafwGreatN6
import Derived.Test.YgvafwGreatN3
set_option exponentiation.threshold 1000
set_option maxRecDepth 100000
set_option maxHeartbeats 4000000
set_option linter.unusedVariables false
set_option linter.unusedSimpArgs false
-- v2
namespace Go.Proofs.YgvafwGreat
open Go.HL Go.Proofs

/-- The world behind a run is small. -/
theorem szB.runs {K : YK} {σ : NS} {e : NE} (hD : KY K) (hcl : K.code.length ≤ 512) (h0 : szW K K.w0 ≤ 35333) (hr : Runs K σ e) : RunOk K σ → szW K e.w ≤ 35333 := by
  induction hr using Runs.ind with
  | @fin σ e h =>
    intro hR
    have hs : szW K σ.w ≤ 35333 := by have := hR.n.sz; omega
    unfold stepN at h
    dsimp only at h
    repeat' split at h
    all_goals first | (cases h; done) | (have e2 := Sum.inr.inj h; rw [← e2]; first | exact hs | exact h0)
  | next h _ ih =>
    intro hR
    exact ih (hR.next hD hcl h).1
theorem szB0 {code ds : List Nat} : szW (K0 code ds waN) (K0 code ds waN).w0 ≤ 35333 := Nat.le_of_ble_eq_true rfl
theorem sz_lg {K : YK} {w : YW} (h : szW K w ≤ 35333) : w.lg.length < 2 ^ 17 := by unfold szW at h; omega
theorem sz_al {K : YK} {w : YW} (h : szW K w ≤ 35333) : w.al.length < 2 ^ 17 := by unfold szW at h; omega
theorem sz_sl {K : YK} {w : YW} (h : szW K w ≤ 35333) : (getA w.al K.self).slots.length < 2 ^ 17 := by unfold szW at h; omega
end Go.Proofs.YgvafwGreat
