import Derived.Test.YgvafwGreatN4
set_option exponentiation.threshold 1000
set_option maxRecDepth 100000
set_option maxHeartbeats 4000000
set_option linter.unusedVariables false
set_option linter.unusedSimpArgs false
-- v2
namespace Go.Proofs.YgvafwGreat
open Go.HL Go.Proofs

theorem refN_lt (K : YK) (w : YW) (s : List Nat) (g m o : Nat) : refN K w s g m o < 13 := by
  unfold refN
  repeat' split
  all_goals decide
theorem runs_st {K : YK} {σ : NS} {e : NE} (h : Runs K σ e) : e.st < 13 := by
  induction h using Runs.ind with
  | fin h =>
    unfold stepN at h
    dsimp only at h
    repeat' split at h
    all_goals first | (cases h; done) | (have e2 := Sum.inr.inj h; rw [← e2]; first | exact refN_lt .. | (show 0 < 13; decide) | (show 1 < 13; decide))
  | next _ _ ih => exact ih
/-- No log has more than four topics; their number. -/
def LgB (w : YW) : Prop := ∀ t ∈ w.lg, t.2.1.length < 5
theorem LgB.wrl {K : YK} {w : YW} {mem s : List Nat} {o : Nat} (h : LgB w) : LgB (wrlN K mem w s o) := by
  unfold wrlN
  split
  · exact h
  · split
    · exact h
    · split
      · exact h
      · split
        · exact h
        · split
          · rename_i ho
            intro t ht
            rcases List.mem_append.1 ht with ht | ht
            · exact h t ht
            · rw [List.mem_singleton.1 ht]
              show ((argsN s (o - 158)).drop 2).length < 5
              rw [List.length_drop, argsN_len]; omega
          · exact h
theorem LgB.fin {K : YK} {σ : NS} {e : NE} (h0 : LgB K.w0) (h : LgB σ.w) (hst : stepN kecN K σ = .inr e) : LgB e.w := by
  unfold stepN at hst
  dsimp only at hst
  repeat' split at hst
  all_goals first | (cases hst; done) | (have e2 := Sum.inr.inj hst; rw [← e2]; first | exact h | exact h0)
theorem LgB.runs {K : YK} {σ : NS} {e : NE} (h0 : LgB K.w0) (hr : Runs K σ e) : LgB σ.w → LgB e.w := by
  induction hr using Runs.ind with
  | fin h => exact fun ha => LgB.fin h0 ha h
  | next h _ ih =>
    intro ha
    refine ih ?_
    obtain ⟨_, _, _, _, rfl⟩ := step_inl h
    exact ha.wrl
theorem lgB0 {code ds : List Nat} {wa : List (List Nat)} : LgB (K0 code ds wa).w0 := fun t ht => by cases ht
theorem runs_gas {K : YK} {σ : NS} {e : NE} (hD : KY K) (hcl : K.code.length ≤ 512) (hr : Runs K σ e) : RunOk K σ → e.gas ≤ σ.gas := by
  induction hr using Runs.ind with
  | @fin σ e h =>
    intro hR
    unfold stepN at h
    dsimp only at h
    repeat' split at h
    all_goals first | (cases h; done) | (have e2 := Sum.inr.inj h; rw [← e2]; first | exact Nat.zero_le _ | exact Nat.sub_le _ _)
  | next h _ ih =>
    intro hR
    have := hR.next hD hcl h
    have := ih this.1
    omega
end Go.Proofs.YgvafwGreat
