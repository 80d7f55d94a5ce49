import Derived.Test.YgvafwGreatN3
set_option exponentiation.threshold 1000
set_option maxRecDepth 100000
set_option maxHeartbeats 4000000
set_option linter.unusedVariables false
set_option linter.unusedSimpArgs false
-- v2
namespace Go.Proofs.YgvafwGreat
open Go.HL Go.Proofs

/-- Slots in the order of their keys, none of value zero. -/
structure SsOk (ss : List (Nat × Nat)) : Prop where
  srt : ss.Pairwise fun a b => a.1 < b.1
  nz : ∀ s ∈ ss, s.2 ≠ 0
  kb : ∀ s ∈ ss, s.1 < 2 ^ 256
  vb : ∀ s ∈ ss, s.2 < 2 ^ 256
theorem storeS_mem {k v : Nat} {x : Nat × Nat} : ∀ (l : List (Nat × Nat)) (b : Bool), x ∈ storeS k v b l → (x = (k, v) ∧ b = false) ∨ (x ∈ l ∧ x.1 ≠ k)
  | [], b, h => by
    cases b
    · exact .inl ⟨List.mem_singleton.1 h, rfl⟩
    · cases h
  | s :: l, b, h => by
    unfold storeS at h
    rcases List.mem_append.1 h with h3 | h3
    · by_cases hc : (!b && decide (k ≤ s.1)) = true
      · rw [if_pos hc] at h3
        cases b
        · exact .inl ⟨List.mem_singleton.1 h3, rfl⟩
        · exact absurd hc (by simp)
      · rw [if_neg hc] at h3; cases h3
    · rcases List.mem_append.1 h3 with h4 | h4
      · by_cases hc : s.1 = k
        · rw [if_pos hc] at h4; cases h4
        · rw [if_neg hc] at h4
          cases List.mem_singleton.1 h4
          exact .inr ⟨List.mem_cons_self .., hc⟩
      · rcases storeS_mem l _ h4 with ⟨h1, h2⟩ | ⟨h1, h2⟩
        · cases b
          · exact .inl ⟨h1, rfl⟩
          · exact absurd h2 (by simp)
        · exact .inr ⟨List.mem_cons_of_mem _ h1, h2⟩
theorem storeS_srt {k v : Nat} : ∀ (l : List (Nat × Nat)) (b : Bool), l.Pairwise (fun a b => a.1 < b.1) → (storeS k v b l).Pairwise fun a b => a.1 < b.1
  | [], b, h => by cases b <;> simp [storeS]
  | s :: l, b, h => by
    obtain ⟨h1, h2⟩ := List.pairwise_cons.1 h
    have ih := fun b => storeS_srt (k := k) (v := v) l b h2
    unfold storeS
    have hB : ∀ b', (b' = true ∨ s.1 < k) → ((if s.1 = k then [] else [s]) ++ storeS k v b' l).Pairwise fun a b => a.1 < b.1 := by
      intro b' hb'
      split
      · exact ih b'
      · refine List.pairwise_cons.2 ⟨fun x hx => ?_, ih b'⟩
        rcases storeS_mem l b' hx with ⟨rfl, e⟩ | ⟨hx, _⟩
        · rcases hb' with hb' | hb'
          · rw [hb'] at e; cases e
          · exact hb'
        · exact h1 x hx
    by_cases hk : k ≤ s.1
    · rw [decide_eq_true hk, Bool.or_true]
      cases b
      · refine List.pairwise_cons.2 ⟨fun x hx => ?_, hB true (.inl rfl)⟩
        show k < x.1
        have hx : x ∈ (if s.1 = k then [] else [s]) ++ storeS k v true l := hx
        rcases List.mem_append.1 hx with hx | hx
        · by_cases hc : s.1 = k
          · rw [if_pos hc] at hx; cases hx
          · rw [if_neg hc] at hx
            cases List.mem_singleton.1 hx
            omega
        · rcases storeS_mem l _ hx with ⟨_, e⟩ | ⟨hx, _⟩
          · cases e
          · have := h1 x hx
            omega
      · exact hB true (.inl rfl)
    · rw [decide_eq_false hk, Bool.or_false, Bool.and_false]
      exact hB b (.inr (by omega))
theorem SsOk.nil : SsOk [] := ⟨.nil, by simp, by simp, by simp⟩
theorem SsOk.store {ss : List (Nat × Nat)} {k v : Nat} (h : SsOk ss) (hk : k < 2 ^ 256) (hv : v < 2 ^ 256) : SsOk (storeS k v (decide (v = 0)) ss) := by
  refine ⟨storeS_srt ss _ h.srt, fun s hs => ?_, fun s hs => ?_, fun s hs => ?_⟩
  · rcases storeS_mem ss _ hs with ⟨rfl, e⟩ | ⟨hx, _⟩
    · exact of_decide_eq_false e
    · exact h.nz s hx
  · rcases storeS_mem ss _ hs with ⟨rfl, e⟩ | ⟨hx, _⟩
    · exact hk
    · exact h.kb s hx
  · rcases storeS_mem ss _ hs with ⟨rfl, e⟩ | ⟨hx, _⟩
    · exact hv
    · exact h.vb s hx
/-- The accounts amid a transaction. -/
def alN (code : List Nat) (ss : List (Nat × Nat)) : List YA := [⟨adNo 1, 1, 0, code, ss⟩, ⟨adNo 240, 1, 2 ^ 128, [], []⟩]
def AlOk (code : List Nat) (w : YW) : Prop := ∃ ss, w.al = alN code ss ∧ SsOk ss
theorem put_s (code : List Nat) (ss ss' : List (Nat × Nat)) : putA { getA (alN code ss) (adNo 1) with slots := ss' } (alN code ss) = alN code ss' := rfl
theorem get_s (code : List Nat) (ss : List (Nat × Nat)) : getA (alN code ss) (adNo 1) = ⟨adNo 1, 1, 0, code, ss⟩ := rfl
theorem AlOk.wrl {code ds : List Nat} {wa : List (List Nat)} {w : YW} {mem s : List Nat} {o : Nat} (h : AlOk code w) (hs : ∀ x ∈ s, x < 2 ^ 256) : AlOk code (wrlN (K0 code ds wa) mem w s o) := by
  unfold wrlN
  split
  · exact h
  · split
    · exact h
    · split
      · obtain ⟨ss, e, hS⟩ := h
        refine ⟨storeS (argN s 0) (argN s 1) (decide (argN s 1 = 0)) ss, ?_, hS.store (argN_lt hs) (argN_lt hs)⟩
        show putA { getA w.al (adNo 1) with slots := storeS (argN s 0) (argN s 1) (decide (argN s 1 = 0)) (getA w.al (adNo 1)).slots } w.al = _
        rw [e]
        exact put_s ..
      · split
        · exact h
        · split
          · exact h
          · exact h
theorem AlOk.w0 {code ds : List Nat} {wa : List (List Nat)} : AlOk code (K0 code ds wa).w0 := ⟨[], rfl, SsOk.nil⟩
theorem AlOk.fin {code ds : List Nat} {wa : List (List Nat)} {σ : NS} {e : NE} (h : AlOk code σ.w) (hst : stepN kecN (K0 code ds wa) σ = .inr e) : AlOk code e.w := by
  unfold stepN at hst
  dsimp only at hst
  repeat' split at hst
  all_goals first | (cases hst; done) | (have e2 := Sum.inr.inj hst; rw [← e2]; first | exact h | exact AlOk.w0 (ds := ds) (wa := wa))
/-- The accounts at a run's end. -/
theorem AlOk.runs {code ds : List Nat} {σ : NS} {e : NE} (hD : KY (K0 code ds waN)) (hcl : code.length ≤ 512) (hr : Runs (K0 code ds waN) σ e) : RunOk (K0 code ds waN) σ → AlOk code σ.w → AlOk code e.w := by
  induction hr using Runs.ind with
  | fin h => exact fun _ ha => ha.fin h
  | next h _ ih =>
    intro hR ha
    refine ih (hR.next hD hcl h).1 ?_
    obtain ⟨_, _, _, _, rfl⟩ := step_inl h
    exact ha.wrl hR.n.sb
end Go.Proofs.YgvafwGreat
