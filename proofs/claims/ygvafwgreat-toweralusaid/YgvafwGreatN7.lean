import Derived.Test.YgvafwGreatN5
import Derived.Test.YgvafwGreatR4
import Derived.Test.YgvafwGreatE72
set_option exponentiation.threshold 1000
set_option maxRecDepth 100000
set_option maxHeartbeats 4000000
set_option linter.unusedVariables false
set_option linter.unusedSimpArgs false
-- v2
namespace Go.Proofs.YgvafwGreat
open Go.HL Go.Proofs

theorem acc_get {V : Vl} (hO : VOk V) {i : Nat} (hi : i < V.ac.length) : V.acc (V.ac.getD i dVA).ad = V.ac.getD i dVA := by
  have e : V.ac.getD i dVA = V.ac[i] := by rw [List.getD_eq_getElem?_getD, List.getElem?_eq_getElem hi]; rfl
  rw [e]
  unfold Vl.acc Vl.ix
  have hnd := hO.and
  have hf : (V.ac.findIdx fun y => y.ad == V.ac[i].ad) = i := by
    rw [List.findIdx_eq hi]
    refine ⟨beq_self_eq_true _, fun j hj => ?_⟩
    rw [beq_eq_false_iff_ne]
    intro e
    have := (List.pairwise_iff_getElem.1 hnd) j i (by rw [List.length_map]; omega) (by rw [List.length_map]; exact hi) hj
    apply this
    rw [List.getElem_map, List.getElem_map]
    exact e
  rw [hf, List.getD_eq_getElem?_getD, List.getElem?_eq_getElem hi]; rfl
theorem cool_get {V : Vl} {i : Nat} (hi : i < V.ac.length) : (V.ac.map coolA).getD i dVA = coolA (V.ac.getD i dVA) := getD_map (d := dVA) hi
/-- Export finds the vault as it must. -/
theorem xv_of {I : Ent → Prop} {cb sz : Nat} {T : TypeId} {c : Nat → Value} {V : Vl} {w : YW} {code ds : List Nat} {ss : List (Nat × Nat)} {MA MS : List Ent} (hsz : 27019 ≤ sz) (hX : XI I c (V.ac.map coolA) (V.sl.map coolS) MA MS) (hcb : I ⟨cb, sz, T, c⟩) (hMA : ∀ x ∈ MA, I x) (hMS : ∀ x ∈ MS, I x) (hO : VOk V) (hR : RW (K0 code ds waN) V w) (hal : w.al = alN code ss) :
    ∃ j, XV I cb sz T c (V.ac.map coolA) (V.sl.map coolS) j ∧ oaN ((V.ac.map coolA).getD 0 dVA) [] = ⟨adNo 1, 1, be32 0, code, []⟩ ∧ oaN ((V.ac.map coolA).getD j dVA) [] = ⟨adNo 240, 1, be32 (2 ^ 128), [], []⟩ := by
  have hacc := fun a => by have := hR.acc a; rw [hal] at this; exact this
  have h240 := hacc (adNo 240)
  have h1 := hacc (adNo 1)
  have g240 : getA (alN code ss) (adNo 240) = ⟨adNo 240, 1, 2 ^ 128, [], []⟩ := rfl
  have g1 : getA (alN code ss) (adNo 1) = ⟨adNo 1, 1, 0, code, ss⟩ := rfl
  rw [g240] at h240
  rw [g1] at h1
  dsimp only at h240 h1
  obtain ⟨y, l, hy, hys⟩ := hR.x0
  have hys : y.ad = adNo 1 := hys
  have hl0 : 0 < V.ac.length := by rw [hy]; exact Nat.succ_pos _
  have hy0 : V.ac.getD 0 dVA = y := by rw [hy]; rfl
  have e0 : V.acc (adNo 1) = y := by have := acc_get hO hl0; rw [hy0, hys] at this; exact this
  have hj : V.ix (adNo 240) < V.ac.length := by
    rcases Nat.lt_or_ge (V.ix (adNo 240)) V.ac.length with h | h
    · exact h
    · have := Vl.accN (V := V) (a := adNo 240) (by omega)
      rw [this] at h240; exact absurd h240.1 (by decide)
  obtain ⟨j, hjd⟩ : ∃ j, V.ix (adNo 240) = j := ⟨_, rfl⟩
  rw [hjd] at hj
  have hzj : V.acc (adNo 240) = V.ac.getD j dVA := by unfold Vl.acc; rw [hjd]
  have hzad : (V.ac.getD j dVA).ad = adNo 240 := by
    have e : V.ac.getD j dVA = V.ac[j] := by rw [List.getD_eq_getElem?_getD, List.getElem?_eq_getElem hj]; rfl
    have := List.findIdx_getElem (xs := V.ac) (p := fun x => x.ad == adNo 240) (w := by show V.ix (adNo 240) < _; rw [hjd]; exact hj)
    have h2 : (V.ac.findIdx fun x => x.ad == adNo 240) = j := hjd
    simp only [h2] at this
    rw [e]; simpa using this
  have hj0 : 0 < j := by
    rcases Nat.eq_zero_or_pos j with h | h
    · rw [h, hy0, hys] at hzad; exact absurd hzad (by decide)
    · exact h
  have hlc : (V.ac.map coolA).length = V.ac.length := List.length_map ..
  have hmc : ∀ {P : VA → Prop}, (∀ x ∈ V.ac, P (coolA x)) → ∀ x ∈ V.ac.map coolA, P x := fun h x hx => by
    obtain ⟨z, hz, rfl⟩ := List.mem_map.1 hx
    exact h z hz
  refine ⟨j, ⟨hcb, hsz, hX.oa.row hMA, hX.os.row hMS, hX.cd, hmc fun x hx => hO.aok x hx, hmc fun x hx => hO.anc x hx, hmc fun x hx => hO.abl x hx, by rw [hlc]; exact hO.aln, by rw [List.length_map]; exact hO.sln, ?_, hj0, by rw [hlc]; exact hj, ?_, ?_, ?_, ?_, ?_⟩, ?_, ?_⟩
  · intro x hx
    obtain ⟨z, hz, rfl⟩ := List.mem_map.1 hx
    exact ⟨hO.sky z hz, (hO.sbd z hz).1⟩
  · rw [cool_get hl0, hy0]; exact hys
  · rw [cool_get hj]; exact hzad
  · rw [cool_get hl0, hy0, ← e0]
    unfold emptyV coolA
    dsimp only
    rw [← h1.1]; rfl
  · rw [cool_get hj, ← hzj]
    unfold emptyV coolA
    dsimp only
    rw [← h240.1]; rfl
  · intro i hi h0 hij
    rw [hlc] at hi
    rw [cool_get hi]
    have hx := acc_get hO hi
    have hne1 : (V.ac.getD i dVA).ad ≠ adNo 1 := fun e => by
      have hnd := (List.pairwise_iff_getElem.1 hO.and) 0 i (by rw [List.length_map]; omega) (by rw [List.length_map]; exact hi) (by omega)
      apply hnd
      rw [List.getElem_map, List.getElem_map]
      have e1 : V.ac[0].ad = adNo 1 := by have : V.ac.getD 0 dVA = V.ac[0] := by rw [List.getD_eq_getElem?_getD, List.getElem?_eq_getElem hl0]; rfl
                                          rw [← this, hy0]; exact hys
      have e2 : V.ac[i].ad = adNo 1 := by have : V.ac.getD i dVA = V.ac[i] := by rw [List.getD_eq_getElem?_getD, List.getElem?_eq_getElem hi]; rfl
                                          rw [← this]; exact e
      rw [e1, e2]
    have hne2 : (V.ac.getD i dVA).ad ≠ adNo 240 := fun e => by
      apply hij
      have h3 : V.ix (V.ac.getD i dVA).ad = i := by
        unfold Vl.ix
        have e3 : V.ac.getD i dVA = V.ac[i] := by rw [List.getD_eq_getElem?_getD, List.getElem?_eq_getElem hi]; rfl
        rw [e3, List.findIdx_eq hi]
        refine ⟨beq_self_eq_true _, fun k hk => ?_⟩
        rw [beq_eq_false_iff_ne]
        intro e4
        have := (List.pairwise_iff_getElem.1 hO.and) k i (by rw [List.length_map]; omega) (by rw [List.length_map]; exact hi) hk
        apply this
        rw [List.getElem_map, List.getElem_map]
        exact e4
      rw [e, hjd] at h3
      exact h3.symm
    have h4 := hacc (V.ac.getD i dVA).ad
    have g4 : getA (alN code ss) (V.ac.getD i dVA).ad = ⟨(V.ac.getD i dVA).ad, 0, 0, [], []⟩ := by
      unfold alN
      rw [get2]
      dsimp only
      rw [if_neg (Ne.symm hne1), if_neg (Ne.symm hne2)]
    rw [g4, hx] at h4
    dsimp only at h4
    unfold emptyV coolA
    dsimp only
    rw [← h4.1, ← h4.2.1, ← h4.2.2]; rfl
  · rw [cool_get hl0, hy0, ← e0]
    unfold oaN coolA
    dsimp only
    rw [e0, hys, ← e0, ← h1.1, ← h1.2.1, ← h1.2.2]; rfl
  · rw [cool_get hj, ← hzj]
    unfold oaN coolA
    dsimp only
    rw [hzj, hzad, ← hzj, ← h240.1, ← h240.2.1, ← h240.2.2]; rfl
end Go.Proofs.YgvafwGreat
