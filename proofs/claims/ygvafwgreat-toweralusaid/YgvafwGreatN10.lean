import Derived.Test.YgvafwGreatS2
import Derived.Test.YgvafwGreatE58
import Derived.Test.YgvafwGreatY68
set_option exponentiation.threshold 1000
set_option maxRecDepth 100000
set_option maxHeartbeats 4000000
set_option linter.unusedVariables false
set_option linter.unusedSimpArgs false
-- v2
namespace Go.Proofs.YgvafwGreat
open Go.HL Go.Proofs

theorem getD_skip {d : Nat} {x l : List Nat} (h : x.length = 32) (k : Nat) : (d :: (x ++ l)).getD (33 + k) 0 = l.getD k 0 := by
  rw [List.getD_eq_getElem?_getD, show 33 + k = (32 + k) + 1 by omega, List.getElem?_cons_succ, List.getElem?_append_right (by omega), h, Nat.add_sub_cancel_left, ← List.getD_eq_getElem?_getD]
theorem cut_skip {ds es : List Nat} {z : Nat} (h : ∀ k, ds.getD (z + k) 0 = es.getD k 0) (o n : Nat) : cutL ds (z + o) n = cutL es o n := by
  unfold cutL
  exact List.map_congr_left fun i _ => by rw [Nat.add_assoc, h]
theorem cut_first {d : Nat} {x l : List Nat} (h : x.length = 32) : cutL (d :: (x ++ l)) 1 32 = x := by
  refine List.ext_getElem (by rw [cutL_len, h]) fun i h1 h2 => ?_
  have h3 : i < 32 := by rw [cutL_len] at h1; exact h1
  have e := cutL_get (d :: (x ++ l)) 1 h3
  rw [List.getD_eq_getElem?_getD, List.getElem?_eq_getElem h1, show 1 + i = i + 1 by omega, List.getD_eq_getElem?_getD, List.getElem?_cons_succ, List.getElem?_append_left h2, List.getElem?_eq_getElem h2] at e
  exact e
section
variable {q : AQ}
def AQ.t1 (q : AQ) : List Nat := 127 :: (q.b ++ 127 :: (q.a ++ [q.o, 95, 82, 96, 32, 95, 243]))
def AQ.t2 (q : AQ) : List Nat := 127 :: (q.a ++ [q.o, 95, 82, 96, 32, 95, 243])
def AQ.t3 (q : AQ) : List Nat := [q.o, 95, 82, 96, 32, 95, 243]
theorem AQ.at1 (h : q.Ok) (k : Nat) : q.code.getD (33 + k) 0 = q.t1.getD k 0 := getD_skip h.c.1 k
theorem AQ.at2 (h : q.Ok) (k : Nat) : q.code.getD (66 + k) 0 = q.t2.getD k 0 := by
  rw [show 66 + k = 33 + (33 + k) by omega, q.at1 h]; exact getD_skip h.b.1 k
theorem AQ.at3 (h : q.Ok) (k : Nat) : q.code.getD (99 + k) 0 = q.t3.getD k 0 := by
  rw [show 99 + k = 66 + (33 + k) by omega, q.at2 h]; exact getD_skip h.a.1 k
theorem AQ.len (h : q.Ok) : q.code.length = 106 := by
  unfold AQ.code
  simp only [List.length_cons, List.length_append, h.a.1, h.b.1, h.c.1, List.length_nil]
theorem AQ.bytes (h : q.Ok) : ∀ d ∈ q.code, d < 256 := by
  intro d hd
  unfold AQ.code at hd
  simp only [List.mem_cons, List.mem_append, List.not_mem_nil, or_false] at hd
  rcases hd with rfl | hd | rfl | hd | rfl | hd | rfl | rfl | rfl | rfl | rfl | rfl | rfl
  all_goals first | decide | exact h.c.2 d hd | exact h.b.2 d hd | exact h.a.2 d hd | exact h.o
end
/-- a step at PUSH32 -/
theorem step_p32 {K : YK} {σ : NS} (ho : K.code.getD σ.pc 0 = 127) (hs : σ.s.length < 60) (hg : 3 ≤ σ.gas) : stepN kecN K σ = .inl ⟨σ.pc + 33, σ.gas - 3, σ.s ++ [bev (cutL K.code (σ.pc + 1) 32)], σ.mem, σ.w⟩ := by
  have hb : bareN K σ.w σ.s 127 = 3 := rfl
  have hre : reachN σ.s 127 = 0 := rfl
  have hc : costN K σ.w σ.s σ.mem.length 127 = 3 := by unfold costN; rw [hre, if_pos (by omega), hb]
  have hr : refN K σ.w σ.s σ.gas σ.mem.length 127 = 0 := by
    unfold refN
    rw [if_neg (by decide), if_neg (by show ¬ σ.s.length < 0; omega), if_neg (by show ¬ 64 < σ.s.length - 0 + 1; omega), if_neg (fun h => absurd h.1 (by decide)), if_neg (by rw [hc]; omega), if_neg (fun h => absurd h.1 (by decide)), if_neg (fun h => absurd h.1 (by decide)), if_neg (fun h => absurd h.1 (by decide))]
  rw [step_run (by rw [ho]; exact hr) (by rw [ho]; decide) (by rw [ho]; decide) (by rw [ho]; decide), ho]
  have hv : ∀ g m w, valN kecN K σ.pc g m w σ.s 127 = bev (cutL K.code (σ.pc + 1) 32) := fun g m w => valN_push (by decide) (by decide)
  have hst : ∀ g m w, stkN kecN K σ.pc g m w σ.s 127 = σ.s ++ [bev (cutL K.code (σ.pc + 1) 32)] := fun g m w => by
    unfold stkN
    rw [if_neg (by decide), if_neg (by decide), if_pos (by rfl), hv]
    show σ.s.take (σ.s.length - 0) ++ _ = _
    rw [Nat.sub_zero, List.take_length]
  show Sum.inl _ = Sum.inl _
  congr 1
  unfold plainN paidN
  dsimp only
  rw [hst, hc, hre]
  have hm : growL σ.mem ((0 + 31) / 32) = σ.mem := by unfold growL; rw [if_pos (by omega)]
  rw [hm]
  have hn : nextN K σ.pc σ.s 127 = σ.pc + 33 := by
    unfold nextN
    rw [if_neg (fun h => h.elim (by decide) (fun h => absurd h.1 (by decide)))]; rfl
  rw [hn]
  rfl
section
variable {q : AQ}
theorem AQ.e0 (h : q.Ok) : stepA q.K q.s0 = .inl q.s1 := by
  have ho : q.K.code.getD q.s0.pc 0 = 127 := rfl
  unfold stepA
  rw [if_pos (.inl (by rw [ho]; decide)), step_p32 ho (by show 0 < 60; decide) (by show 3 ≤ 179000; decide)]
  show Sum.inl (⟨33, 178997, [] ++ [bev (cutL q.code 1 32)], [], _⟩ : NS) = _
  rw [show cutL q.code 1 32 = q.c from cut_first h.c.1]; rfl
theorem AQ.e1 (h : q.Ok) : stepA q.K q.s1 = .inl q.s2 := by
  have ho : q.K.code.getD q.s1.pc 0 = 127 := q.at1 h 0
  unfold stepA
  rw [if_pos (.inl (by rw [ho]; decide)), step_p32 ho (by show 1 < 60; decide) (by show 3 ≤ 178997; decide)]
  show Sum.inl (⟨66, 178994, [bev q.c] ++ [bev (cutL q.code (33 + 1) 32)], [], _⟩ : NS) = _
  rw [cut_skip (q.at1 h), show cutL q.t1 1 32 = q.b from cut_first h.b.1]; rfl
theorem AQ.e2 (h : q.Ok) : stepA q.K q.s2 = .inl q.s3 := by
  have ho : q.K.code.getD q.s2.pc 0 = 127 := q.at2 h 0
  unfold stepA
  rw [if_pos (.inl (by rw [ho]; decide)), step_p32 ho (by show 2 < 60; decide) (by show 3 ≤ 178994; decide)]
  show Sum.inl (⟨99, 178991, [bev q.c, bev q.b] ++ [bev (cutL q.code (66 + 1) 32)], [], _⟩ : NS) = _
  rw [cut_skip (q.at2 h), show cutL q.t2 1 32 = q.a from cut_first h.a.1]; rfl
/-- what stands at and behind the opcode -/
theorem AQ.tail (h : q.Ok) {pc : Nat} (hp : 99 ≤ pc) : (pc = 99 ∧ q.code.getD pc 0 = q.o) ∨ (100 ≤ pc ∧ q.code.getD pc 0 ∈ [95, 82, 96, 32, 243, 0]) := by
  obtain ⟨k, rfl⟩ : ∃ k, pc = 99 + k := ⟨pc - 99, by omega⟩
  rw [q.at3 h]
  rcases Nat.lt_or_ge k 7 with hk | hk
  · rcases (by omega : k = 0 ∨ k = 1 ∨ k = 2 ∨ k = 3 ∨ k = 4 ∨ k = 5 ∨ k = 6) with rfl | rfl | rfl | rfl | rfl | rfl | rfl
    · exact .inl ⟨rfl, rfl⟩
    all_goals exact .inr ⟨by omega, by simp [AQ.t3]⟩
  · refine .inr ⟨by omega, ?_⟩
    rw [List.getD_eq_getElem?_getD, List.getElem?_eq_none (by show 7 ≤ k; exact hk)]; simp
theorem destF_far {code : List Nat} {at' : Nat} : ∀ (f i : Nat), at' < i → destF code at' f i = false
  | 0, _, _ => rfl
  | f + 1, i, h => by
    unfold destF
    split
    · rw [if_neg (by omega)]; exact destF_far f _ (by omega)
    · rfl
/-- a jump can land only at the opcode itself -/
theorem AQ.dest (h : q.Ok) {p : Nat} (hd : destN q.code p = true) : 99 ≤ p := by
  rcases Nat.lt_or_ge p 99 with hc | hc
  · exfalso
    have hl := q.len h
    have s0 : q.code.getD 0 0 = 127 := rfl
    have s1 : q.code.getD 33 0 = 127 := q.at1 h 0
    have s2 : q.code.getD 66 0 = 127 := q.at2 h 0
    have i127 : immN 127 = 32 := by decide
    unfold destN at hd
    rw [hl] at hd
    have st : ∀ f i, i < 106 → q.code.getD i 0 = 127 → destF q.code p (f + 1) i = true → i ≠ p ∧ destF q.code p f (i + 33) = true := fun f i hi h1 h2 => by
      unfold destF at h2
      rw [hl, if_pos hi] at h2
      by_cases e : i = p
      · rw [if_pos e, h1] at h2; exact absurd h2 (by decide)
      · rw [if_neg e, h1, i127] at h2; exact ⟨e, h2⟩
    obtain ⟨_, d1⟩ := st 106 0 (by decide) s0 hd
    obtain ⟨_, d2⟩ := st 105 33 (by decide) s1 d1
    obtain ⟨_, d3⟩ := st 104 66 (by decide) s2 d2
    rw [destF_far _ _ (by omega)] at d3
    cases d3
  · exact hc
end
end Go.Proofs.YgvafwGreat
