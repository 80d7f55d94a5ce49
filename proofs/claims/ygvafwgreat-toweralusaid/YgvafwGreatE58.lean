import Derived.Test.YgvafwGreatE57
set_option exponentiation.threshold 1000
set_option maxRecDepth 100000
set_option maxHeartbeats 4000000
set_option linter.unusedVariables false
set_option linter.unusedSimpArgs false
-- v2
-- v4
-- v5
-- v6
-- v7
namespace Go.Proofs.YgvafwGreat
open Go.HL Go.Proofs
theorem refN_ok {K : YK} {w : YW} {s : List Nat} {gas m o : Nat} (h : refN K w s gas m o = 0) : famN o ≠ 0 ∧ (arN o).1 ≤ s.length ∧ s.length - (arN o).1 + (arN o).2.1 ≤ 64 ∧ costN K w s m o ≤ gas ∧ (o = 62 → argN s 1 + argN s 2 = 0) ∧ (o = 86 → destN K.code (argN s 0) = true) ∧ (o = 87 → argN s 1 ≠ 0 → destN K.code (argN s 0) = true) := by
  unfold refN at h
  by_cases h1 : famN o = 0
  · rw [if_pos h1] at h; exact absurd h (by decide)
  rw [if_neg h1] at h
  by_cases h2 : s.length < (arN o).1
  · rw [if_pos h2] at h; exact absurd h (by decide)
  rw [if_neg h2] at h
  by_cases h3 : 64 < s.length - (arN o).1 + (arN o).2.1
  · rw [if_pos h3] at h; exact absurd h (by decide)
  rw [if_neg h3] at h
  by_cases h4 : o = 62 ∧ argN s 1 + argN s 2 ≠ 0
  · rw [if_pos h4] at h; exact absurd h (by decide)
  rw [if_neg h4] at h
  by_cases h5 : gas < costN K w s m o
  · rw [if_pos h5] at h; exact absurd h (by decide)
  rw [if_neg h5] at h
  by_cases h6 : o = 85 ∧ gas ≤ 2300
  · rw [if_pos h6] at h; exact absurd h (by decide)
  rw [if_neg h6] at h
  by_cases h7 : o = 86 ∧ destN K.code (argN s 0) = false
  · rw [if_pos h7] at h; exact absurd h (by decide)
  rw [if_neg h7] at h
  by_cases h8 : o = 87 ∧ argN s 1 ≠ 0 ∧ destN K.code (argN s 0) = false
  · rw [if_pos h8] at h; exact absurd h (by decide)
  refine ⟨h1, by omega, by omega, by omega, fun e => by rcases Nat.eq_zero_or_pos (argN s 1 + argN s 2) with q | q; exact q; exact absurd ⟨e, by omega⟩ h4, fun e => ?_, fun e hz => ?_⟩
  · cases hd : destN K.code (argN s 0) with
    | true => rfl
    | false => exact absurd ⟨e, hd⟩ h7
  · cases hd : destN K.code (argN s 0) with
    | true => rfl
    | false => exact absurd ⟨e, hz, hd⟩ h8
theorem VB.of {I : Ent → Prop} {cb sz : Nat} {c : Nat → Value} {K : YK} {V : Vl} {σ : NS} {M G : List Ent} (h : NI I cb sz c K V σ M G) : VB V := by
  have g1 := h.ba
  have g2 := h.bs
  have g4 := h.bj
  exact ⟨by omega, by omega, by omega⟩
theorem VB.pop {V : Vl} (h : VB V) (k : Nat) : VB { popN k V with nm := 0 } := by
  have hl := popN_len k V
  exact ⟨by show (popN k V).ac.length ≤ _; rw [hl.1]; exact h.ac, by show (popN k V).sl.length ≤ _; rw [hl.2.1]; exact h.sl, by show (popN k V).jr.length ≤ _; have := h.jr; omega⟩
section
variable {I : Ent → Prop} {cb sz : Nat} {T : TypeId} {c : Nat → Value} {K : YK} {V : Vl} {σ : NS} {M G : List Ent}
theorem step_fail (hr : refN K σ.w σ.s σ.gas σ.mem.length (K.code.getD σ.pc 0) ≠ 0) : stepN kecN K σ = .inr ⟨refN K σ.w σ.s σ.gas σ.mem.length (K.code.getD σ.pc 0), 0, [], K.w0⟩ := by
  unfold stepN; dsimp only; rw [if_pos hr]
theorem step_run (hr : refN K σ.w σ.s σ.gas σ.mem.length (K.code.getD σ.pc 0) = 0) (h0 : K.code.getD σ.pc 0 ≠ 0) (h1 : K.code.getD σ.pc 0 ≠ 243) (h2 : K.code.getD σ.pc 0 ≠ 253) : stepN kecN K σ = .inl (plainN kecN K (paidN K σ (K.code.getD σ.pc 0)) (K.code.getD σ.pc 0)) := by
  unfold stepN; dsimp only; rw [if_neg (by rw [hr]; decide), if_neg h0, if_neg h1, if_neg h2]
/-- mach.Machine.Step -/
theorem mStep (hC : KC K) (h : NI I cb sz c K V σ M G) (h16 : famN (K.code.getD σ.pc 0) ≠ 16 ∨ σ.s.length < (arN (K.code.getD σ.pc 0)).1) :
    CallG Hvaf.prog 46 #[ptr cb 0] ⟨I, ⟨cb, sz, T, c⟩ :: (M ++ G)⟩ fun r S' => r = .bool true ∧ StP cb sz T c K σ.gas (stepN kecN K σ) S' := by
  obtain ⟨o, ho⟩ : ∃ o, K.code.getD σ.pc 0 = o := ⟨_, rfl⟩
  have hix := h.rj.ix
  have hcase : o = 0 ∨ o ∈ K.code := by
    rcases Nat.lt_or_ge σ.pc K.code.length with hc | hc
    · right; rw [← ho, List.getD_eq_getElem?_getD, List.getElem?_eq_getElem hc]; exact List.getElem_mem hc
    · left; rw [← ho, List.getD_eq_getElem?_getD, List.getElem?_eq_none hc]; rfl
  have ho2 : o < 256 := by
    rcases hcase with rfl | hm
    · decide
    · exact h.ei.eK.fcode.1 o hm
  rw [ho] at h16
  have hadm := mAdm (T := T) (w := σ.w) h.ei ho2 h16 h.rj.rel hC.st hC.code hix.1 hix.2 h.gm
  have hoks := h.rj.oks h.ei.eO
  have hmq := h.rj.mq
  by_cases hr : refN K σ.w σ.s σ.gas σ.mem.length o ≠ 0
  · rw [step_fail (by rw [ho]; exact hr), ho]
    refine (mStF h.ei ho ho2 (hadm.1 hr)).mono ?_
    rintro r S' hs ⟨rfl, c0, G', rfl, g1, g2⟩
    exact ⟨rfl, I, c0, _, M, G', _, rfl, Byt.nil _, g2, { hoks _ (Nat.le_refl _) with }, h.rj.bk.nm 0, KeepC.out g1, (VB.of h).pop _, Nat.zero_le _⟩
  · have hr : refN K σ.w σ.s σ.gas σ.mem.length o = 0 := by omega
    obtain ⟨f0, f1, f2, f3, f62, f86, f87⟩ := refN_ok hr
    have hf16 : famN o ≠ 16 := h16.resolve_right (Nat.not_lt.2 f1)
    refine (mStP (Q := fun r S' => StP cb sz T c K σ.gas (stepN kecN K σ) S') h.ei ho ho2 (hadm.2 hr) ?_).mono ?_
    · intro c' M' g1 g2 g3
      have hk : KeepC c c' := fun k x1 x2 x3 x4 x5 => g3 k (by omega) (by omega) x5
      have hei : EI I cb sz c' K V σ.pc (σ.gas - costN K σ.w σ.s σ.mem.length o) σ.s (growL σ.mem ((reachN σ.s o + 31) / 32)) M' G := h.ei.move (fun _ h => h) hk g2 g1 (fun k x1 x2 => g3 k (by omega) (by omega) (by omega))
      have hgl := growL_len (mem := σ.mem) (k := (reachN σ.s o + 31) / 32)
      have hmem0 : σ.mem.length / 32 ≤ 22415 := by
        rcases Nat.lt_or_ge 22415 (σ.mem.length / 32) with hc | hc
        · have q1 := memC_mono (Nat.succ_le_of_lt hc)
          have q2 : memC (Nat.succ 22415) = 1048648 := by decide
          have := h.gm
          omega
        · exact hc
      have hin : reachN σ.s o ≤ (growL σ.mem ((reachN σ.s o + 31) / 32)).length := by
        rcases Nat.lt_or_ge (σ.mem.length / 32) ((reachN σ.s o + 31) / 32) with hc | hc
        · rw [hgl.2.2.2.1 hc]; omega
        · have := hgl.2.2.2.2; omega
      have hg2 : ((growL σ.mem ((reachN σ.s o + 31) / 32)).length) / 32 ≤ 22415 := by
        rw [hgl.1]
        rcases Nat.lt_or_ge 22415 ((reachN σ.s o + 31) / 32) with hc | hc
        · have q1 := memC_mono (Nat.succ_le_of_lt hc)
          have q2 : memC (Nat.succ 22415) = 1048648 := by decide
          have q3 := h.gm
          unfold costN at f3
          rw [if_neg (by omega)] at f3
          omega
        · omega
      by_cases hx0 : o = 0
      · subst hx0
        have hst : stepN kecN K σ = .inr ⟨0, σ.gas - costN K σ.w σ.s σ.mem.length 0, [], σ.w⟩ := by
          unfold stepN; dsimp only; rw [ho, if_neg (by rw [hr]; decide), if_pos rfl]; rfl
        rw [hst]
        refine (mExOpEnd (by decide) (mEn0 hei.s2 hei.eA.tp hei.eK hei.eM ho)).mono ?_
        rintro r S' hs ⟨r2, rfl⟩
        exact ⟨I, c', V, M', G, _, rfl, Byt.nil _, hei.eV, hei.eO, h.rj.rel, hk, VB.of h, Nat.sub_le _ _⟩
      · by_cases hx1 : o = 243
        · subst hx1
          have hst : stepN kecN K σ = .inr ⟨0, σ.gas - costN K σ.w σ.s σ.mem.length 243, cutL (growL σ.mem ((reachN σ.s 243 + 31) / 32)) (argN σ.s 0) (argN σ.s 1), σ.w⟩ := by
            unfold stepN; dsimp only; rw [ho, if_neg (by rw [hr]; decide), if_neg (by decide), if_pos rfl]; rfl
          rw [hst]
          refine (mExOpEnd (by decide) (mEn243 hei.s2 hei.eA (fun x hx => List.mem_append_left _ hx) hei.eK hei.eM ho (end_in hin))).mono ?_
          rintro r S' hs ⟨r2, J, v, rfl, hb⟩
          exact ⟨J, c', V, M', G, v, rfl, hb, hei.eV.up hs, hei.eO, h.rj.rel, hk, VB.of h, Nat.sub_le _ _⟩
        · by_cases hx2 : o = 253
          · subst hx2
            have hst : stepN kecN K σ = .inr ⟨1, σ.gas - costN K σ.w σ.s σ.mem.length 253, cutL (growL σ.mem ((reachN σ.s 253 + 31) / 32)) (argN σ.s 0) (argN σ.s 1), K.w0⟩ := by
              unfold stepN; dsimp only; rw [ho, if_neg (by rw [hr]; decide), if_neg (by decide), if_neg (by decide), if_pos rfl]; rfl
            rw [hst]
            refine (mExOpEnd (by decide) (mEn253 hei.eS hei.eA (fun x hx => hx) hei.eK hei.eM hei.eV hei.nm hei.mq hei.pk hei.ok ho (end_in hin))).mono ?_
            rintro r S' hs ⟨r2, J, v, c0, G', rfl, hb, q1, q2⟩
            exact ⟨J, c0, _, M', G', v, rfl, hb, q2, { hoks _ (Nat.le_refl _) with }, h.rj.bk.nm 0, hk.trans (KeepC.out q1), (VB.of h).pop _, Nat.sub_le _ _⟩
          · rw [step_run (by rw [ho]; exact hr) (by rw [ho]; exact hx0) (by rw [ho]; exact hx1) (by rw [ho]; exact hx2), ho]
            have hml : (growL σ.mem ((reachN σ.s o + 31) / 32)).length ≤ 717280 := by
              have hmd := h.md
              rcases Nat.lt_or_ge (σ.mem.length / 32) ((reachN σ.s o + 31) / 32) with hc | hc
              · rw [hgl.2.2.2.1 hc] at hg2 ⊢; omega
              · rw [growL_same hc]; omega
            have b1 := h.ba
            have b2 := h.bs
            have b3 := h.bt
            have b4 := h.bj
            have b5 := h.bl
            have b6 := h.br
            have hbp := bare_pos (K := K) (w := σ.w) (s := σ.s) hx0 hx1 hx2
            have hbc := bare_ge (K := K) (w := σ.w) (s := σ.s) (m := σ.mem.length) (o := o)
            obtain ⟨da, ds, dt, dj, dl, dr, hB, hx⟩ := exAll (T := T) hei h.rj hC ho ho2 f0 hf16 hx0 hx1 hx2 f1 f2 hin hml f62 f86 f87 (by omega) (by omega) (by omega) (by omega) (by omega) (by omega) (costN K σ.w σ.s σ.mem.length o) hbc
            refine hx.mono ?_
            rintro r S' hs ⟨r2, hq⟩
            exact h.next f3 (by omega) hB hk hq
    · rintro r S' hs ⟨rfl, r2, hq⟩
      exact ⟨rfl, hq⟩
end
end Go.Proofs.YgvafwGreat
