import Derived.Test.YgvafwGreatOp1
set_option maxRecDepth 100000
set_option maxHeartbeats 4000000
set_option linter.unusedVariables false
set_option linter.unusedSimpArgs false
-- v2
namespace Go.Proofs.YgvafwGreat
open Go.HL Go.Proofs

/-- The family of an instruction. -/
def famN (o : Nat) : Nat := if o ≤ 0 then 31 else if o ≤ 11 then 1 else if o ≤ 15 then 0 else if o ≤ 29 then 1 else if o ≤ 31 then 0 else if o ≤ 32 then 1 else if o ≤ 47 then 0 else if o ≤ 72 then 2 else if o ≤ 79 then 0 else if o ≤ 83 then 2 else if o ≤ 84 then 8 else if o ≤ 85 then 8 else if o ≤ 88 then 4 else if o ≤ 89 then 2 else if o ≤ 90 then 4 else if o ≤ 91 then 4 else if o ≤ 92 then 8 else if o ≤ 93 then 8 else if o ≤ 159 then 2 else if o ≤ 164 then 8 else if o ≤ 239 then 0 else if o ≤ 240 then 16 else if o ≤ 241 then 16 else if o ≤ 242 then 16 else if o ≤ 243 then 31 else if o ≤ 244 then 16 else if o ≤ 245 then 16 else if o ≤ 249 then 0 else if o ≤ 250 then 16 else if o ≤ 252 then 0 else if o ≤ 253 then 31 else if o ≤ 254 then 0 else if o ≤ 255 then 16 else 0
theorem fam_case {S : St} {o v : Nat} (hv : famN o = v) (h : CallG Hvaf.prog 75 #[.int .u8 (o : Nat)] S fun r S' => S = S' ∧ r = .int .u8 (v : Nat)) :
    CallG Hvaf.prog 75 #[.int .u8 (o : Nat)] S fun r S' => S = S' ∧ r = .int .u8 (famN o : Nat) := by rw [hv]; exact h
/-- op.Family -/
theorem Family_spec {S : St} {o : Nat} (ho : o < 256) :
    CallG Hvaf.prog 75 #[.int .u8 (o : Nat)] S fun r S' => S = S' ∧ r = .int .u8 (famN o : Nat) := by
  have hc : (0 ≤ o ∧ o ≤ 0) ∨ (1 ≤ o ∧ o ≤ 11) ∨ (12 ≤ o ∧ o ≤ 15) ∨ (16 ≤ o ∧ o ≤ 29) ∨ (30 ≤ o ∧ o ≤ 31) ∨ (32 ≤ o ∧ o ≤ 32) ∨ (33 ≤ o ∧ o ≤ 47) ∨ (48 ≤ o ∧ o ≤ 72) ∨ (73 ≤ o ∧ o ≤ 79) ∨ (80 ≤ o ∧ o ≤ 83) ∨ (84 ≤ o ∧ o ≤ 84) ∨ (85 ≤ o ∧ o ≤ 85) ∨ (86 ≤ o ∧ o ≤ 88) ∨ (89 ≤ o ∧ o ≤ 89) ∨ (90 ≤ o ∧ o ≤ 90) ∨ (91 ≤ o ∧ o ≤ 91) ∨ (92 ≤ o ∧ o ≤ 92) ∨ (93 ≤ o ∧ o ≤ 93) ∨ (94 ≤ o ∧ o ≤ 159) ∨ (160 ≤ o ∧ o ≤ 164) ∨ (165 ≤ o ∧ o ≤ 239) ∨ (240 ≤ o ∧ o ≤ 240) ∨ (241 ≤ o ∧ o ≤ 241) ∨ (242 ≤ o ∧ o ≤ 242) ∨ (243 ≤ o ∧ o ≤ 243) ∨ (244 ≤ o ∧ o ≤ 244) ∨ (245 ≤ o ∧ o ≤ 245) ∨ (246 ≤ o ∧ o ≤ 249) ∨ (250 ≤ o ∧ o ≤ 250) ∨ (251 ≤ o ∧ o ≤ 252) ∨ (253 ≤ o ∧ o ≤ 253) ∨ (254 ≤ o ∧ o ≤ 254) ∨ (255 ≤ o ∧ o ≤ 255) := by omega
  rcases hc with ⟨h1, h2⟩ | ⟨h1, h2⟩ | ⟨h1, h2⟩ | ⟨h1, h2⟩ | ⟨h1, h2⟩ | ⟨h1, h2⟩ | ⟨h1, h2⟩ | ⟨h1, h2⟩ | ⟨h1, h2⟩ | ⟨h1, h2⟩ | ⟨h1, h2⟩ | ⟨h1, h2⟩ | ⟨h1, h2⟩ | ⟨h1, h2⟩ | ⟨h1, h2⟩ | ⟨h1, h2⟩ | ⟨h1, h2⟩ | ⟨h1, h2⟩ | ⟨h1, h2⟩ | ⟨h1, h2⟩ | ⟨h1, h2⟩ | ⟨h1, h2⟩ | ⟨h1, h2⟩ | ⟨h1, h2⟩ | ⟨h1, h2⟩ | ⟨h1, h2⟩ | ⟨h1, h2⟩ | ⟨h1, h2⟩ | ⟨h1, h2⟩ | ⟨h1, h2⟩ | ⟨h1, h2⟩ | ⟨h1, h2⟩ | ⟨h1, h2⟩
  · refine fam_case (v := 31) (by unfold famN; repeat (first | rw [if_pos (by omega)])) ?_
    refine CallG.start (C := mkC Hvaf.prog) cok (args := [.int .u8 (o : Nat)]) Hvaf.func75 rfl Hvaf.ntmps75 (by simp) (by kernel_rfl) ?_
    repeat (first | refine SeqS.go cok ?_ | (refine CondS.keep ?_; first | refine CondS.d1 rfl (by omega) ?_))
    exact Fin.same ⟨rfl, rfl⟩
  · refine fam_case (v := 1) (by unfold famN; repeat (first | rw [if_pos (by omega)] | rw [if_neg (by omega)])) ?_
    refine CallG.start (C := mkC Hvaf.prog) cok (args := [.int .u8 (o : Nat)]) Hvaf.func75 rfl Hvaf.ntmps75 (by simp) (by kernel_rfl) ?_
    repeat (first | refine SeqS.go cok ?_ | refine GuardS.yes rfl ?_ | (refine GuardS.keep ?_; first | refine GuardS.T1 rfl (by omega) ?_) | (refine CondS.keep ?_; first | refine CondS.d1 rfl (by omega) ?_ | refine CondS.d0 rfl (by omega) ?_))
    exact Fin.same ⟨rfl, rfl⟩
  · refine fam_case (v := 0) (by unfold famN; repeat (first | rw [if_pos (by omega)] | rw [if_neg (by omega)])) ?_
    refine CallG.start (C := mkC Hvaf.prog) cok (args := [.int .u8 (o : Nat)]) Hvaf.func75 rfl Hvaf.ntmps75 (by simp) (by kernel_rfl) ?_
    repeat (first | refine SeqS.go cok ?_ | refine GuardS.yes rfl ?_ | refine GuardS.no rfl ?_ | refine CondS.f rfl ?_ | (refine GuardS.keep ?_; first | refine GuardS.T1 rfl (by omega) ?_ | refine GuardS.T0 rfl (by omega) ?_) | (refine CondS.keep ?_; first | refine CondS.d0 rfl (by omega) ?_))
    exact Fin.same ⟨rfl, rfl⟩
  · refine fam_case (v := 1) (by unfold famN; repeat (first | rw [if_pos (by omega)] | rw [if_neg (by omega)])) ?_
    refine CallG.start (C := mkC Hvaf.prog) cok (args := [.int .u8 (o : Nat)]) Hvaf.func75 rfl Hvaf.ntmps75 (by simp) (by kernel_rfl) ?_
    repeat (first | refine SeqS.go cok ?_ | refine GuardS.yes rfl ?_ | (refine GuardS.keep ?_; first | refine GuardS.T1 rfl (by omega) ?_) | (refine CondS.keep ?_; first | refine CondS.d1 rfl (by omega) ?_ | refine CondS.d0 rfl (by omega) ?_))
    exact Fin.same ⟨rfl, rfl⟩
  · refine fam_case (v := 0) (by unfold famN; repeat (first | rw [if_pos (by omega)] | rw [if_neg (by omega)])) ?_
    refine CallG.start (C := mkC Hvaf.prog) cok (args := [.int .u8 (o : Nat)]) Hvaf.func75 rfl Hvaf.ntmps75 (by simp) (by kernel_rfl) ?_
    repeat (first | refine SeqS.go cok ?_ | refine GuardS.yes rfl ?_ | refine GuardS.no rfl ?_ | refine CondS.f rfl ?_ | (refine GuardS.keep ?_; first | refine GuardS.T1 rfl (by omega) ?_ | refine GuardS.T0 rfl (by omega) ?_) | (refine CondS.keep ?_; first | refine CondS.d0 rfl (by omega) ?_))
    exact Fin.same ⟨rfl, rfl⟩
  · refine fam_case (v := 1) (by unfold famN; repeat (first | rw [if_pos (by omega)] | rw [if_neg (by omega)])) ?_
    refine CallG.start (C := mkC Hvaf.prog) cok (args := [.int .u8 (o : Nat)]) Hvaf.func75 rfl Hvaf.ntmps75 (by simp) (by kernel_rfl) ?_
    repeat (first | refine SeqS.go cok ?_ | refine GuardS.yes rfl ?_ | (refine GuardS.keep ?_; first | refine GuardS.T1 rfl (by omega) ?_) | (refine CondS.keep ?_; first | refine CondS.d1 rfl (by omega) ?_ | refine CondS.d0 rfl (by omega) ?_))
    exact Fin.same ⟨rfl, rfl⟩
  · refine fam_case (v := 0) (by unfold famN; repeat (first | rw [if_pos (by omega)] | rw [if_neg (by omega)])) ?_
    refine CallG.start (C := mkC Hvaf.prog) cok (args := [.int .u8 (o : Nat)]) Hvaf.func75 rfl Hvaf.ntmps75 (by simp) (by kernel_rfl) ?_
    repeat (first | refine SeqS.go cok ?_ | refine GuardS.yes rfl ?_ | refine GuardS.no rfl ?_ | refine CondS.f rfl ?_ | (refine GuardS.keep ?_; first | refine GuardS.T1 rfl (by omega) ?_ | refine GuardS.T0 rfl (by omega) ?_) | (refine CondS.keep ?_; first | refine CondS.d0 rfl (by omega) ?_))
    exact Fin.same ⟨rfl, rfl⟩
  · refine fam_case (v := 2) (by unfold famN; repeat (first | rw [if_pos (by omega)] | rw [if_neg (by omega)])) ?_
    refine CallG.start (C := mkC Hvaf.prog) cok (args := [.int .u8 (o : Nat)]) Hvaf.func75 rfl Hvaf.ntmps75 (by simp) (by kernel_rfl) ?_
    repeat (first | refine SeqS.go cok ?_ | refine GuardS.yes rfl ?_ | (refine GuardS.keep ?_; first | refine GuardS.T1 rfl (by omega) ?_) | (refine CondS.keep ?_; first | refine CondS.d1 rfl (by omega) ?_ | refine CondS.d0 rfl (by omega) ?_))
    exact Fin.same ⟨rfl, rfl⟩
  · refine fam_case (v := 0) (by unfold famN; repeat (first | rw [if_pos (by omega)] | rw [if_neg (by omega)])) ?_
    refine CallG.start (C := mkC Hvaf.prog) cok (args := [.int .u8 (o : Nat)]) Hvaf.func75 rfl Hvaf.ntmps75 (by simp) (by kernel_rfl) ?_
    repeat (first | refine SeqS.go cok ?_ | refine GuardS.yes rfl ?_ | refine GuardS.no rfl ?_ | refine CondS.f rfl ?_ | (refine GuardS.keep ?_; first | refine GuardS.T1 rfl (by omega) ?_ | refine GuardS.T0 rfl (by omega) ?_) | (refine CondS.keep ?_; first | refine CondS.d0 rfl (by omega) ?_))
    exact Fin.same ⟨rfl, rfl⟩
  · refine fam_case (v := 2) (by unfold famN; repeat (first | rw [if_pos (by omega)] | rw [if_neg (by omega)])) ?_
    refine CallG.start (C := mkC Hvaf.prog) cok (args := [.int .u8 (o : Nat)]) Hvaf.func75 rfl Hvaf.ntmps75 (by simp) (by kernel_rfl) ?_
    repeat (first | refine SeqS.go cok ?_ | refine GuardS.yes rfl ?_ | (refine GuardS.keep ?_; first | refine GuardS.T1 rfl (by omega) ?_) | (refine CondS.keep ?_; first | refine CondS.d1 rfl (by omega) ?_ | refine CondS.d0 rfl (by omega) ?_))
    exact Fin.same ⟨rfl, rfl⟩
  · refine fam_case (v := 8) (by unfold famN; repeat (first | rw [if_pos (by omega)] | rw [if_neg (by omega)])) ?_
    refine CallG.start (C := mkC Hvaf.prog) cok (args := [.int .u8 (o : Nat)]) Hvaf.func75 rfl Hvaf.ntmps75 (by simp) (by kernel_rfl) ?_
    repeat (first | refine SeqS.go cok ?_ | refine GuardS.yes rfl ?_ | refine GuardS.no rfl ?_ | refine CondS.f rfl ?_ | (refine GuardS.keep ?_; first | refine GuardS.T1 rfl (by omega) ?_ | refine GuardS.T0 rfl (by omega) ?_) | (refine CondS.keep ?_; first | refine CondS.d1 rfl (by omega) ?_ | refine CondS.d0 rfl (by omega) ?_))
    exact Fin.same ⟨rfl, rfl⟩
  · refine fam_case (v := 8) (by unfold famN; repeat (first | rw [if_pos (by omega)] | rw [if_neg (by omega)])) ?_
    refine CallG.start (C := mkC Hvaf.prog) cok (args := [.int .u8 (o : Nat)]) Hvaf.func75 rfl Hvaf.ntmps75 (by simp) (by kernel_rfl) ?_
    repeat (first | refine SeqS.go cok ?_ | refine GuardS.yes rfl ?_ | refine GuardS.no rfl ?_ | refine CondS.f rfl ?_ | (refine GuardS.keep ?_; first | refine GuardS.T1 rfl (by omega) ?_ | refine GuardS.T0 rfl (by omega) ?_) | (refine CondS.keep ?_; first | refine CondS.d1 rfl (by omega) ?_ | refine CondS.d0 rfl (by omega) ?_))
    exact Fin.same ⟨rfl, rfl⟩
  · refine fam_case (v := 4) (by unfold famN; repeat (first | rw [if_pos (by omega)] | rw [if_neg (by omega)])) ?_
    refine CallG.start (C := mkC Hvaf.prog) cok (args := [.int .u8 (o : Nat)]) Hvaf.func75 rfl Hvaf.ntmps75 (by simp) (by kernel_rfl) ?_
    repeat (first | refine SeqS.go cok ?_ | refine GuardS.yes rfl ?_ | refine GuardS.no rfl ?_ | refine CondS.f rfl ?_ | (refine GuardS.keep ?_; first | refine GuardS.T1 rfl (by omega) ?_ | refine GuardS.T0 rfl (by omega) ?_) | (refine CondS.keep ?_; first | refine CondS.d1 rfl (by omega) ?_ | refine CondS.d0 rfl (by omega) ?_))
    exact Fin.same ⟨rfl, rfl⟩
  · refine fam_case (v := 2) (by unfold famN; repeat (first | rw [if_pos (by omega)] | rw [if_neg (by omega)])) ?_
    refine CallG.start (C := mkC Hvaf.prog) cok (args := [.int .u8 (o : Nat)]) Hvaf.func75 rfl Hvaf.ntmps75 (by simp) (by kernel_rfl) ?_
    repeat (first | refine SeqS.go cok ?_ | refine GuardS.yes rfl ?_ | (refine GuardS.keep ?_; first | refine GuardS.T1 rfl (by omega) ?_) | (refine CondS.keep ?_; first | refine CondS.d1 rfl (by omega) ?_ | refine CondS.d0 rfl (by omega) ?_))
    exact Fin.same ⟨rfl, rfl⟩
  · refine fam_case (v := 4) (by unfold famN; repeat (first | rw [if_pos (by omega)] | rw [if_neg (by omega)])) ?_
    refine CallG.start (C := mkC Hvaf.prog) cok (args := [.int .u8 (o : Nat)]) Hvaf.func75 rfl Hvaf.ntmps75 (by simp) (by kernel_rfl) ?_
    repeat (first | refine SeqS.go cok ?_ | refine GuardS.yes rfl ?_ | refine GuardS.no rfl ?_ | refine CondS.f rfl ?_ | (refine GuardS.keep ?_; first | refine GuardS.T1 rfl (by omega) ?_ | refine GuardS.T0 rfl (by omega) ?_) | (refine CondS.keep ?_; first | refine CondS.d1 rfl (by omega) ?_ | refine CondS.d0 rfl (by omega) ?_))
    exact Fin.same ⟨rfl, rfl⟩
  · refine fam_case (v := 4) (by unfold famN; repeat (first | rw [if_pos (by omega)] | rw [if_neg (by omega)])) ?_
    refine CallG.start (C := mkC Hvaf.prog) cok (args := [.int .u8 (o : Nat)]) Hvaf.func75 rfl Hvaf.ntmps75 (by simp) (by kernel_rfl) ?_
    repeat (first | refine SeqS.go cok ?_ | refine GuardS.yes rfl ?_ | refine GuardS.no rfl ?_ | refine CondS.f rfl ?_ | (refine GuardS.keep ?_; first | refine GuardS.T1 rfl (by omega) ?_ | refine GuardS.T0 rfl (by omega) ?_) | (refine CondS.keep ?_; first | refine CondS.d1 rfl (by omega) ?_ | refine CondS.d0 rfl (by omega) ?_))
    exact Fin.same ⟨rfl, rfl⟩
  · refine fam_case (v := 8) (by unfold famN; repeat (first | rw [if_pos (by omega)] | rw [if_neg (by omega)])) ?_
    refine CallG.start (C := mkC Hvaf.prog) cok (args := [.int .u8 (o : Nat)]) Hvaf.func75 rfl Hvaf.ntmps75 (by simp) (by kernel_rfl) ?_
    repeat (first | refine SeqS.go cok ?_ | refine GuardS.yes rfl ?_ | refine GuardS.no rfl ?_ | refine CondS.f rfl ?_ | (refine GuardS.keep ?_; first | refine GuardS.T1 rfl (by omega) ?_ | refine GuardS.T0 rfl (by omega) ?_) | (refine CondS.keep ?_; first | refine CondS.d1 rfl (by omega) ?_ | refine CondS.d0 rfl (by omega) ?_))
    exact Fin.same ⟨rfl, rfl⟩
  · refine fam_case (v := 8) (by unfold famN; repeat (first | rw [if_pos (by omega)] | rw [if_neg (by omega)])) ?_
    refine CallG.start (C := mkC Hvaf.prog) cok (args := [.int .u8 (o : Nat)]) Hvaf.func75 rfl Hvaf.ntmps75 (by simp) (by kernel_rfl) ?_
    repeat (first | refine SeqS.go cok ?_ | refine GuardS.yes rfl ?_ | refine GuardS.no rfl ?_ | refine CondS.f rfl ?_ | (refine GuardS.keep ?_; first | refine GuardS.T1 rfl (by omega) ?_ | refine GuardS.T0 rfl (by omega) ?_) | (refine CondS.keep ?_; first | refine CondS.d1 rfl (by omega) ?_ | refine CondS.d0 rfl (by omega) ?_))
    exact Fin.same ⟨rfl, rfl⟩
  · refine fam_case (v := 2) (by unfold famN; repeat (first | rw [if_pos (by omega)] | rw [if_neg (by omega)])) ?_
    refine CallG.start (C := mkC Hvaf.prog) cok (args := [.int .u8 (o : Nat)]) Hvaf.func75 rfl Hvaf.ntmps75 (by simp) (by kernel_rfl) ?_
    repeat (first | refine SeqS.go cok ?_ | refine GuardS.yes rfl ?_ | (refine GuardS.keep ?_; first | refine GuardS.T1 rfl (by omega) ?_) | (refine CondS.keep ?_; first | refine CondS.d1 rfl (by omega) ?_ | refine CondS.d0 rfl (by omega) ?_))
    exact Fin.same ⟨rfl, rfl⟩
  · refine fam_case (v := 8) (by unfold famN; repeat (first | rw [if_pos (by omega)] | rw [if_neg (by omega)])) ?_
    refine CallG.start (C := mkC Hvaf.prog) cok (args := [.int .u8 (o : Nat)]) Hvaf.func75 rfl Hvaf.ntmps75 (by simp) (by kernel_rfl) ?_
    repeat (first | refine SeqS.go cok ?_ | refine GuardS.yes rfl ?_ | (refine GuardS.keep ?_; first | refine GuardS.T1 rfl (by omega) ?_) | (refine CondS.keep ?_; first | refine CondS.d1 rfl (by omega) ?_ | refine CondS.d0 rfl (by omega) ?_))
    exact Fin.same ⟨rfl, rfl⟩
  · refine fam_case (v := 0) (by unfold famN; repeat (first | rw [if_pos (by omega)] | rw [if_neg (by omega)])) ?_
    refine CallG.start (C := mkC Hvaf.prog) cok (args := [.int .u8 (o : Nat)]) Hvaf.func75 rfl Hvaf.ntmps75 (by simp) (by kernel_rfl) ?_
    repeat (first | refine SeqS.go cok ?_ | refine GuardS.yes rfl ?_ | (refine GuardS.keep ?_; first | refine GuardS.T1 rfl (by omega) ?_) | (refine CondS.keep ?_; first | refine CondS.d0 rfl (by omega) ?_))
    exact Fin.same ⟨rfl, rfl⟩
  · refine fam_case (v := 16) (by unfold famN; repeat (first | rw [if_pos (by omega)] | rw [if_neg (by omega)])) ?_
    refine CallG.start (C := mkC Hvaf.prog) cok (args := [.int .u8 (o : Nat)]) Hvaf.func75 rfl Hvaf.ntmps75 (by simp) (by kernel_rfl) ?_
    repeat (first | refine SeqS.go cok ?_ | refine GuardS.yes rfl ?_ | (refine GuardS.keep ?_; first | refine GuardS.T1 rfl (by omega) ?_) | (refine CondS.keep ?_; first | refine CondS.d1 rfl (by omega) ?_ | refine CondS.d0 rfl (by omega) ?_))
    exact Fin.same ⟨rfl, rfl⟩
  · refine fam_case (v := 16) (by unfold famN; repeat (first | rw [if_pos (by omega)] | rw [if_neg (by omega)])) ?_
    refine CallG.start (C := mkC Hvaf.prog) cok (args := [.int .u8 (o : Nat)]) Hvaf.func75 rfl Hvaf.ntmps75 (by simp) (by kernel_rfl) ?_
    repeat (first | refine SeqS.go cok ?_ | refine GuardS.yes rfl ?_ | (refine GuardS.keep ?_; first | refine GuardS.T1 rfl (by omega) ?_) | (refine CondS.keep ?_; first | refine CondS.d1 rfl (by omega) ?_ | refine CondS.d0 rfl (by omega) ?_))
    exact Fin.same ⟨rfl, rfl⟩
  · refine fam_case (v := 16) (by unfold famN; repeat (first | rw [if_pos (by omega)] | rw [if_neg (by omega)])) ?_
    refine CallG.start (C := mkC Hvaf.prog) cok (args := [.int .u8 (o : Nat)]) Hvaf.func75 rfl Hvaf.ntmps75 (by simp) (by kernel_rfl) ?_
    repeat (first | refine SeqS.go cok ?_ | refine GuardS.yes rfl ?_ | (refine GuardS.keep ?_; first | refine GuardS.T1 rfl (by omega) ?_) | (refine CondS.keep ?_; first | refine CondS.d1 rfl (by omega) ?_ | refine CondS.d0 rfl (by omega) ?_))
    exact Fin.same ⟨rfl, rfl⟩
  · refine fam_case (v := 31) (by unfold famN; repeat (first | rw [if_pos (by omega)] | rw [if_neg (by omega)])) ?_
    refine CallG.start (C := mkC Hvaf.prog) cok (args := [.int .u8 (o : Nat)]) Hvaf.func75 rfl Hvaf.ntmps75 (by simp) (by kernel_rfl) ?_
    repeat (first | refine SeqS.go cok ?_ | (refine CondS.keep ?_; first | refine CondS.d1 rfl (by omega) ?_ | refine CondS.d0 rfl (by omega) ?_))
    exact Fin.same ⟨rfl, rfl⟩
  · refine fam_case (v := 16) (by unfold famN; repeat (first | rw [if_pos (by omega)] | rw [if_neg (by omega)])) ?_
    refine CallG.start (C := mkC Hvaf.prog) cok (args := [.int .u8 (o : Nat)]) Hvaf.func75 rfl Hvaf.ntmps75 (by simp) (by kernel_rfl) ?_
    repeat (first | refine SeqS.go cok ?_ | refine GuardS.yes rfl ?_ | (refine GuardS.keep ?_; first | refine GuardS.T1 rfl (by omega) ?_) | (refine CondS.keep ?_; first | refine CondS.d1 rfl (by omega) ?_ | refine CondS.d0 rfl (by omega) ?_))
    exact Fin.same ⟨rfl, rfl⟩
  · refine fam_case (v := 16) (by unfold famN; repeat (first | rw [if_pos (by omega)] | rw [if_neg (by omega)])) ?_
    refine CallG.start (C := mkC Hvaf.prog) cok (args := [.int .u8 (o : Nat)]) Hvaf.func75 rfl Hvaf.ntmps75 (by simp) (by kernel_rfl) ?_
    repeat (first | refine SeqS.go cok ?_ | refine GuardS.yes rfl ?_ | (refine GuardS.keep ?_; first | refine GuardS.T1 rfl (by omega) ?_) | (refine CondS.keep ?_; first | refine CondS.d1 rfl (by omega) ?_ | refine CondS.d0 rfl (by omega) ?_))
    exact Fin.same ⟨rfl, rfl⟩
  · refine fam_case (v := 0) (by unfold famN; repeat (first | rw [if_pos (by omega)] | rw [if_neg (by omega)])) ?_
    refine CallG.start (C := mkC Hvaf.prog) cok (args := [.int .u8 (o : Nat)]) Hvaf.func75 rfl Hvaf.ntmps75 (by simp) (by kernel_rfl) ?_
    repeat (first | refine SeqS.go cok ?_ | refine GuardS.yes rfl ?_ | (refine GuardS.keep ?_; first | refine GuardS.T1 rfl (by omega) ?_) | (refine CondS.keep ?_; first | refine CondS.d0 rfl (by omega) ?_))
    exact Fin.same ⟨rfl, rfl⟩
  · refine fam_case (v := 16) (by unfold famN; repeat (first | rw [if_pos (by omega)] | rw [if_neg (by omega)])) ?_
    refine CallG.start (C := mkC Hvaf.prog) cok (args := [.int .u8 (o : Nat)]) Hvaf.func75 rfl Hvaf.ntmps75 (by simp) (by kernel_rfl) ?_
    repeat (first | refine SeqS.go cok ?_ | refine GuardS.yes rfl ?_ | (refine GuardS.keep ?_; first | refine GuardS.T1 rfl (by omega) ?_) | (refine CondS.keep ?_; first | refine CondS.d1 rfl (by omega) ?_ | refine CondS.d0 rfl (by omega) ?_))
    exact Fin.same ⟨rfl, rfl⟩
  · refine fam_case (v := 0) (by unfold famN; repeat (first | rw [if_pos (by omega)] | rw [if_neg (by omega)])) ?_
    refine CallG.start (C := mkC Hvaf.prog) cok (args := [.int .u8 (o : Nat)]) Hvaf.func75 rfl Hvaf.ntmps75 (by simp) (by kernel_rfl) ?_
    repeat (first | refine SeqS.go cok ?_ | refine GuardS.yes rfl ?_ | (refine GuardS.keep ?_; first | refine GuardS.T1 rfl (by omega) ?_) | (refine CondS.keep ?_; first | refine CondS.d0 rfl (by omega) ?_))
    exact Fin.same ⟨rfl, rfl⟩
  · refine fam_case (v := 31) (by unfold famN; repeat (first | rw [if_pos (by omega)] | rw [if_neg (by omega)])) ?_
    refine CallG.start (C := mkC Hvaf.prog) cok (args := [.int .u8 (o : Nat)]) Hvaf.func75 rfl Hvaf.ntmps75 (by simp) (by kernel_rfl) ?_
    repeat (first | refine SeqS.go cok ?_ | (refine CondS.keep ?_; first | refine CondS.d1 rfl (by omega) ?_ | refine CondS.d0 rfl (by omega) ?_))
    exact Fin.same ⟨rfl, rfl⟩
  · refine fam_case (v := 0) (by unfold famN; repeat (first | rw [if_pos (by omega)] | rw [if_neg (by omega)])) ?_
    refine CallG.start (C := mkC Hvaf.prog) cok (args := [.int .u8 (o : Nat)]) Hvaf.func75 rfl Hvaf.ntmps75 (by simp) (by kernel_rfl) ?_
    repeat (first | refine SeqS.go cok ?_ | refine GuardS.yes rfl ?_ | (refine GuardS.keep ?_; first | refine GuardS.T1 rfl (by omega) ?_) | (refine CondS.keep ?_; first | refine CondS.d0 rfl (by omega) ?_))
    exact Fin.same ⟨rfl, rfl⟩
  · refine fam_case (v := 16) (by unfold famN; repeat (first | rw [if_pos (by omega)] | rw [if_neg (by omega)])) ?_
    refine CallG.start (C := mkC Hvaf.prog) cok (args := [.int .u8 (o : Nat)]) Hvaf.func75 rfl Hvaf.ntmps75 (by simp) (by kernel_rfl) ?_
    repeat (first | refine SeqS.go cok ?_ | refine GuardS.yes rfl ?_ | (refine GuardS.keep ?_; first | refine GuardS.T1 rfl (by omega) ?_) | (refine CondS.keep ?_; first | refine CondS.d1 rfl (by omega) ?_ | refine CondS.d0 rfl (by omega) ?_))
    exact Fin.same ⟨rfl, rfl⟩
end Go.Proofs.YgvafwGreat
