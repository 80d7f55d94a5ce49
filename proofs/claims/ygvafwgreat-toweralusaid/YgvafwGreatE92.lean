import Derived.Test.YgvafwGreatE91
set_option exponentiation.threshold 1000
set_option maxRecDepth 100000
set_option maxHeartbeats 4000000
set_option linter.unusedVariables false
set_option linter.unusedSimpArgs false
-- v2
namespace Go.Proofs.YgvafwGreat
open Go.HL Go.Proofs

/-- What a Step leaves, with a child between. -/
def StX (cb sz : Nat) (T : TypeId) (c : Nat → Value) (K : YK) (g : Nat) : NS ⊕ NE → St → Prop
  | .inl τ, S' => StP cb sz T c K g (.inl τ) S' ∨ ∃ J c' V' M' G', S' = ⟨J, ⟨cb, sz, T, c'⟩ :: (M' ++ G')⟩ ∧ ChI J cb sz c c' K V' τ M' G' ∧ τ.gas + 2 ≤ g
  | .inr e, S' => StP cb sz T c K g (.inr e) S'
/-- What the world must be where CREATE runs. -/
structure CrK (K : YK) (σ : NS) : Prop where
  self : K.self = adNo 1
  s3 : σ.s.length = 3
  bal : (getA σ.w.al K.self).bal = 0
  non : (getA σ.w.al K.self).nonce = 1
  ads : (getA σ.w.al K.self).addr = K.self
  nw : (getA σ.w.al crAd).nonce = 0 ∧ (getA σ.w.al crAd).code = []
  adw : (getA (putA { getA σ.w.al K.self with nonce := 2 } σ.w.al) crAd).addr = crAd
  md : σ.w.md = []
  mem : σ.mem = []
theorem cut_zero (m : Nat) (o n : Nat) : cutL (List.replicate m 0) o n = List.replicate n 0 := by
  refine List.ext_getElem (by rw [cutL_len, List.length_replicate]) fun i h1 h2 => ?_
  have h3 : i < n := by rw [cutL_len] at h1; exact h1
  have e := cutL_get (List.replicate m 0) o h3
  rw [List.getD_eq_getElem?_getD, List.getElem?_eq_getElem h1] at e
  simp only [Option.getD_some] at e
  rw [e, List.getElem_replicate, List.getD_eq_getElem?_getD, List.getElem?_replicate]
  split <;> rfl
theorem grow_nil (w : Nat) : growL [] w = List.replicate (32 * w) 0 := by
  unfold growL
  by_cases h : w ≤ ([] : List Nat).length / 32
  · have : w = 0 := by simpa using h
    subst this; rw [if_pos h]; rfl
  · rw [if_neg h]; rfl
section
variable {I : Ent → Prop} {cb sz : Nat} {T : TypeId} {c : Nat → Value} {K : YK} {V : Vl} {σ : NS} {M G : List Ent}
theorem mPs240Y (h : NI I cb sz c K V σ M G) (h512 : argN σ.s 2 ≤ 512) (hr : endN (argN σ.s 1) (argN σ.s 2) ≤ 717280) (hle : crcN σ.s σ.mem.length ≤ σ.gas) :
    CallG Hvaf.prog 198 #[ptr cb 0, .int .u8 ((240 : Nat) : Int), .int .u16 ((32000 : Nat) : Int)] ⟨I, ⟨cb, sz, T, c⟩ :: (M ++ G)⟩ (PassP I G cb sz T c σ.pc (σ.gas - crcN σ.s σ.mem.length) σ.s (growL σ.mem ((endN (argN σ.s 1) (argN σ.s 2) + 31) / 32))) := by
  have hsz' : 2435 ≤ sz := by have := h.ei.eS; omega
  have hre := mRs240Y (I := I) (G := M ++ G) (cb := cb) (T := T) hsz' h.ei.eK h.ei.eM hr
  have hdy := mDy240 (R := M) (G := G) (cb := cb) (T := T) h.ei.eS h.ei.eK h.ei.eM h512
  unfold crcN at hle ⊢
  by_cases hg : (endN (argN σ.s 1) (argN σ.s 2) + 31) / 32 ≤ σ.mem.length / 32
  · rw [if_pos hg] at hle ⊢
    rw [growL_same hg]
    exact mPsYNc h.ei h512 hre (by omega) hdy (by omega) hg hle
  · rw [if_neg hg] at hle ⊢
    exact mPsYGc h.ei h512 hre (by omega) hdy (by omega) (by omega) hle
theorem mPs240N (h : NI I cb sz c K V σ M G) (h512 : argN σ.s 2 ≤ 512) (hlt : σ.gas < crcN σ.s σ.mem.length) :
    CallG Hvaf.prog 198 #[ptr cb 0, .int .u8 ((240 : Nat) : Int), .int .u16 ((32000 : Nat) : Int)] ⟨I, ⟨cb, sz, T, c⟩ :: (M ++ G)⟩ (FailP I M cb sz T c V 2) := by
  have hsz' : 2435 ≤ sz := by have := h.ei.eS; omega
  by_cases hr : endN (argN σ.s 1) (argN σ.s 2) ≤ 717280
  · have hre := mRs240Y (I := I) (G := M ++ G) (cb := cb) (T := T) hsz' h.ei.eK h.ei.eM hr
    have hdy := mDy240 (R := M) (G := G) (cb := cb) (T := T) h.ei.eS h.ei.eK h.ei.eM h512
    unfold crcN at hlt
    by_cases hg : (endN (argN σ.s 1) (argN σ.s 2) + 31) / 32 ≤ σ.mem.length / 32
    · rw [if_pos hg] at hlt
      exact mPsONc h.ei h512 hre (by omega) hdy (by omega) hg hlt
    · rw [if_neg hg] at hlt
      exact mPsOGc h.ei h512 hre (by omega) hdy (by omega) (by omega) hlt
  · exact mPsRNc h.ei h512 (mRs240N (I := I) (G := M ++ G) (cb := cb) (T := T) hsz' h.ei.eK h.ei.eM (by omega))
/-- a memory beyond the limit cannot be paid -/
theorem cr_far (h : NI I cb sz c K V σ M G) (hle : crcN σ.s σ.mem.length ≤ σ.gas) : endN (argN σ.s 1) (argN σ.s 2) ≤ 717280 := by
  rcases Nat.lt_or_ge 717280 (endN (argN σ.s 1) (argN σ.s 2)) with hc | hc
  · exfalso
    have hgm := h.gm
    have q2 : memC (Nat.succ 22415) = 1048648 := by decide
    have q1 := memC_mono (show Nat.succ 22415 ≤ (endN (argN σ.s 1) (argN σ.s 2) + 31) / 32 by omega)
    unfold crcN at hle
    by_cases hg : (endN (argN σ.s 1) (argN σ.s 2) + 31) / 32 ≤ σ.mem.length / 32
    · have := memC_mono hg; omega
    · rw [if_neg hg] at hle; omega
  · exact hc
/-- mach.Machine.Step at CREATE, refused -/
theorem mStep240F {st : Nat} (h : NI I cb sz c K V σ M G) (ho : K.code.getD σ.pc 0 = 240) (hC : CrK K σ) (hp : CallG Hvaf.prog 198 #[ptr cb 0, .int .u8 ((240 : Nat) : Int), .int .u16 ((32000 : Nat) : Int)] ⟨I, ⟨cb, sz, T, c⟩ :: (M ++ G)⟩ (FailP I M cb sz T c V st)) :
    CallG Hvaf.prog 46 #[ptr cb 0] ⟨I, ⟨cb, sz, T, c⟩ :: (M ++ G)⟩ fun r S' => r = .bool true ∧ StP cb sz T c K σ.gas (.inr ⟨st, 0, [], K.w0⟩) S' := by
  have hsz' : 2435 ≤ sz := by have := h.ei.eS; omega
  have h3 := hC.s3
  have hadm := mAdP (o := 240) (tk := 3) (gv := 1) (sg := 32000) hsz' h.ei.eK h.ei.eM (by omega) (by omega) (by decide) hp
  refine (mStF (o := 240) h.ei ho (by decide) hadm).mono ?_
  rintro r S' hs ⟨rfl, c0, G', rfl, g1, g2⟩
  exact ⟨rfl, I, c0, _, M, G', _, rfl, Byt.nil _, g2, { h.rj.oks h.ei.eO _ (Nat.le_refl _) with }, h.rj.bk.nm 0, KeepC.out g1, (VB.of h).pop _, Nat.zero_le _⟩
end
end Go.Proofs.YgvafwGreat
