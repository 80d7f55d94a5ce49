import Derived.Test.YgvafwGreatV30
import Derived.Test.YgvafwGreatN8
import Derived.Test.YgvafwGreatN11
set_option exponentiation.threshold 1000
set_option maxRecDepth 100000
set_option maxHeartbeats 4000000
set_option linter.unusedVariables false
set_option linter.unusedSimpArgs false
-- v2
namespace Go.Proofs.YgvafwGreat
open Go.HL Go.Proofs

/-- What the account's place is, where it is not empty. -/
theorem ix_of {V : Vl} {a : List Nat} (hn : (V.acc a).nonce ≠ 0) : V.ix a < V.ac.length ∧ V.acc a = V.ac.getD (V.ix a) dVA ∧ (V.ac.getD (V.ix a) dVA).ad = a := by
  have hj : V.ix a < V.ac.length := by
    rcases Nat.lt_or_ge (V.ix a) V.ac.length with h | h
    · exact h
    · have := Vl.accN (V := V) (a := a) (by omega)
      rw [this] at hn; exact absurd rfl hn
  refine ⟨hj, rfl, ?_⟩
  obtain ⟨j, hjd⟩ : ∃ j, V.ix a = j := ⟨_, rfl⟩
  have this := List.findIdx_getElem (xs := V.ac) (p := fun x : VA => x.ad == a) (w := hj)
  have h2 : (V.ac.findIdx fun x => x.ad == a) = j := hjd
  simp only [h2] at this
  rw [hjd] at hj ⊢
  have e : V.ac.getD j dVA = V.ac[j] := by rw [List.getD_eq_getElem?_getD, List.getElem?_eq_getElem hj]; rfl
  rw [e]; simpa using this
theorem ix_get {V : Vl} (hO : VOk V) {i : Nat} (hi : i < V.ac.length) : V.ix (V.ac.getD i dVA).ad = i := by
  unfold Vl.ix
  have e3 : V.ac.getD i dVA = V.ac[i] := by rw [List.getD_eq_getElem?_getD, List.getElem?_eq_getElem hi]; rfl
  rw [e3, List.findIdx_eq hi]
  refine ⟨beq_self_eq_true _, fun k hk => ?_⟩
  rw [beq_eq_false_iff_ne]
  intro e4
  have := (List.pairwise_iff_getElem.1 hO.and) k i (by rw [List.length_map]; omega) (by rw [List.length_map]; exact hi) hk
  apply this
  rw [List.getElem_map, List.getElem_map]
  exact e4
/-- Export finds the vault as it must: three accounts. -/
theorem xw_of {I : Ent → Prop} {cb sz : Nat} {T : TypeId} {c : Nat → Value} {V : Vl} {w : YW} {code ds : List Nat} {MA MS : List Ent} (hsz : 27019 ≤ sz) (hX : XI I c (V.ac.map coolA) (V.sl.map coolS) MA MS) (hcb : I ⟨cb, sz, T, c⟩) (hMA : ∀ x ∈ MA, I x) (hMS : ∀ x ∈ MS, I x) (hO : VOk V) (hR : RW (K0 code ds waN) V w) (hal : w.al = alC code) :
    ∃ j k, XW I cb sz T c (V.ac.map coolA) (V.sl.map coolS) j k ∧ oaN ((V.ac.map coolA).getD 0 dVA) [] = ⟨adNo 1, 2, be32 0, code, []⟩ ∧ oaN ((V.ac.map coolA).getD j dVA) [] = ⟨adNo 240, 1, be32 (2 ^ 128), [], []⟩ ∧ oaN ((V.ac.map coolA).getD k dVA) [] = ⟨crAd, 1, be32 0, [], []⟩ := by
  have hacc := fun a => by have := hR.acc a; rw [hal] at this; exact this
  have h240 := hacc (adNo 240)
  have h1 := hacc (adNo 1)
  have hcr := hacc crAd
  have g240 : getA (alC code) (adNo 240) = ⟨adNo 240, 1, 2 ^ 128, [], []⟩ := rfl
  have g1 : getA (alC code) (adNo 1) = ⟨adNo 1, 2, 0, code, []⟩ := rfl
  have gcr : getA (alC code) crAd = ⟨crAd, 1, 0, [], []⟩ := rfl
  rw [g240] at h240
  rw [g1] at h1
  rw [gcr] at hcr
  dsimp only at h240 h1 hcr
  obtain ⟨y, l, hy, hys⟩ := hR.x0
  have hys : y.ad = adNo 1 := hys
  have hl0 : 0 < V.ac.length := by rw [hy]; exact Nat.succ_pos _
  have hy0 : V.ac.getD 0 dVA = y := by rw [hy]; rfl
  have e0 : V.acc (adNo 1) = y := by have := acc_get hO hl0; rw [hy0, hys] at this; exact this
  obtain ⟨hj, hzj, hzad⟩ := ix_of (V := V) (a := adNo 240) (by rw [← h240.1]; decide)
  obtain ⟨hk, hzk, hkad⟩ := ix_of (V := V) (a := crAd) (by rw [← hcr.1]; decide)
  obtain ⟨j, hjd⟩ : ∃ j, V.ix (adNo 240) = j := ⟨_, rfl⟩
  obtain ⟨k, hkd⟩ : ∃ k, V.ix crAd = k := ⟨_, rfl⟩
  rw [hjd] at hj hzj hzad
  rw [hkd] at hk hzk hkad
  have hj0 : 0 < j := by
    rcases Nat.eq_zero_or_pos j with h | h
    · rw [h, hy0, hys] at hzad; exact absurd hzad (by decide)
    · exact h
  have hk0 : 0 < k := by
    rcases Nat.eq_zero_or_pos k with h | h
    · rw [h, hy0, hys] at hkad; exact absurd hkad (by decide)
    · exact h
  have hjk : j ≠ k := fun e => by rw [e, hkad] at hzad; exact absurd hzad (by decide)
  have hlc : (V.ac.map coolA).length = V.ac.length := List.length_map ..
  have hmc : ∀ {P : VA → Prop}, (∀ x ∈ V.ac, P (coolA x)) → ∀ x ∈ V.ac.map coolA, P x := fun h x hx => by
    obtain ⟨z, hz, rfl⟩ := List.mem_map.1 hx
    exact h z hz
  refine ⟨j, k, ⟨hcb, hsz, hX.oa.row hMA, hX.os.row hMS, hX.cd, hmc fun x hx => hO.aok x hx, hmc fun x hx => hO.anc x hx, hmc fun x hx => hO.abl x hx, by rw [hlc]; exact hO.aln, by rw [List.length_map]; exact hO.sln, ?_, ?_, hj0, by rw [hlc]; exact hj, hk0, by rw [hlc]; exact hk, hjk, ?_, ?_, ?_, ?_, ?_, ?_, ?_⟩, ?_, ?_, ?_⟩
  · intro x hx
    obtain ⟨z, hz, rfl⟩ := List.mem_map.1 hx
    exact ⟨hO.sky z hz, (hO.sbd z hz).1⟩
  · intro x hx
    obtain ⟨z, hz, rfl⟩ := List.mem_map.1 hx
    obtain ⟨i, hi, rfl⟩ := List.mem_iff_getElem.1 hz
    have h2 := slt_get hO hi
    have e2 : V.sl.getD i dVS = V.sl[i] := by rw [List.getD_eq_getElem?_getD, List.getElem?_eq_getElem hi]; rfl
    have h3 := hR.slo (V.sl.getD i dVS).key
    rw [hal] at h3
    rw [h2, e2] at h3
    exact h3.symm
  · rw [cool_get hl0, hy0]; exact hys
  · rw [cool_get hj]; exact hzad
  · rw [cool_get hk]; exact hkad
  · rw [cool_get hl0, hy0, ← e0]
    unfold emptyV coolA
    dsimp only
    rw [← h1.1]; rfl
  · rw [cool_get hj, ← hzj]
    unfold emptyV coolA
    dsimp only
    rw [← h240.1]; rfl
  · rw [cool_get hk, ← hzk]
    unfold emptyV coolA
    dsimp only
    rw [← hcr.1]; rfl
  · intro i hi h0 hij hik
    rw [hlc] at hi
    rw [cool_get hi]
    have hx := acc_get hO hi
    have hix := ix_get hO hi
    have hne1 : (V.ac.getD i dVA).ad ≠ adNo 1 := fun e => by
      have h9 := ix_get hO hl0
      rw [hy0, hys, ← e, hix] at h9
      exact h0 h9
    have hne2 : (V.ac.getD i dVA).ad ≠ adNo 240 := fun e => by rw [e, hjd] at hix; exact hij hix.symm
    have hne3 : (V.ac.getD i dVA).ad ≠ crAd := fun e => by rw [e, hkd] at hix; exact hik hix.symm
    have h4 := hacc (V.ac.getD i dVA).ad
    have g4 : getA (alC code) (V.ac.getD i dVA).ad = ⟨(V.ac.getD i dVA).ad, 0, 0, [], []⟩ := by
      refine findA_none fun p hp => ?_
      have hp : p < 3 := hp
      have : p = 0 ∨ p = 1 ∨ p = 2 := by omega
      rcases this with rfl | rfl | rfl
      · exact Ne.symm hne1
      · exact Ne.symm hne2
      · exact Ne.symm hne3
    rw [g4, hx] at h4
    dsimp only at h4
    unfold emptyV coolA
    dsimp only
    rw [← h4.1, ← h4.2.1, ← h4.2.2]; rfl
  · rw [cool_get hl0, hy0, ← e0]
    unfold oaN coolA
    dsimp only
    rw [e0, hys, ← e0, ← h1.1, ← h1.2.1, ← h1.2.2]; rfl
  · rw [cool_get hj, ← hzj]
    unfold oaN coolA
    dsimp only
    rw [hzj, hzad, ← hzj, ← h240.1, ← h240.2.1, ← h240.2.2]; rfl
  · rw [cool_get hk, ← hzk]
    unfold oaN coolA
    dsimp only
    rw [hzk, hkad, ← hzk, ← hcr.1, ← hcr.2.1, ← hcr.2.2]; rfl
end Go.Proofs.YgvafwGreat
