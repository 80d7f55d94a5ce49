import Derived.Test.YgvafwGreatN7
set_option exponentiation.threshold 1000
set_option maxRecDepth 100000
set_option maxHeartbeats 4000000
set_option linter.unusedVariables false
set_option linter.unusedSimpArgs false
-- v2
namespace Go.Proofs.YgvafwGreat
open Go.HL Go.Proofs

theorem slt_get {V : Vl} (hO : VOk V) {i : Nat} (hi : i < V.sl.length) : V.slt (V.sl.getD i dVS).key = V.sl.getD i dVS := by
  have e : V.sl.getD i dVS = V.sl[i] := by rw [List.getD_eq_getElem?_getD, List.getElem?_eq_getElem hi]; rfl
  rw [e]
  unfold Vl.slt Vl.is
  have hf : (V.sl.findIdx fun y => y.key == V.sl[i].key) = i := by
    rw [List.findIdx_eq hi]
    refine ⟨beq_self_eq_true _, fun j hj => ?_⟩
    rw [beq_eq_false_iff_ne]
    intro e
    have := (List.pairwise_iff_getElem.1 hO.snd) j i (by rw [List.length_map]; omega) (by rw [List.length_map]; exact hi) hj
    apply this
    rw [List.getElem_map, List.getElem_map]
    exact e
  rw [hf, List.getD_eq_getElem?_getD, List.getElem?_eq_getElem hi]; rfl
/-- The slots that the engine gives are the specification's. -/
theorem kv_of {V : Vl} {w : YW} {code ds : List Nat} {ss : List (Nat × Nat)} {L : List SK} (hO : VOk V) (hR : RW (K0 code ds waN) V w) (hal : w.al = alN code ss) (hS : SsOk ss) (hp : L.Perm (skN (V.sl.map coolS) (V.sl.map coolS).length)) (hw : L.Pairwise fun a b => leK a b = true) : kvL (V.sl.map coolS) L = ss := by
  have hlo : ∀ k, loadS ss k = (V.slt k).val := fun k => by
    have := hR.slo k
    rw [hal] at this
    exact this
  have hg : ∀ j, j < V.sl.length → (V.sl.map coolS).getD j dVS = coolS (V.sl.getD j dVS) := fun j hj => getD_map (d := dVS) hj
  refine kv_eq hS ?_ ?_ ?_ hp hw
  · rw [List.map_map]; exact hO.snd
  · intro j hj
    rw [List.length_map] at hj
    rw [hg j hj]
    show loadS ss (V.sl.getD j dVS).key = (V.sl.getD j dVS).val
    rw [hlo, slt_get hO hj]
  · intro k hk
    rw [hlo] at hk
    have hi : V.is k < V.sl.length := by
      rcases Nat.lt_or_ge (V.is k) V.sl.length with h | h
      · exact h
      · unfold Vl.slt at hk
        rw [List.getD_eq_getElem?_getD, List.getElem?_eq_none (by omega)] at hk
        exact absurd rfl hk
    refine ⟨V.is k, by rw [List.length_map]; exact hi, ?_⟩
    rw [hg _ hi]
    show (V.sl.getD (V.is k) dVS).key = k
    have := List.findIdx_getElem (xs := V.sl) (p := fun x : VSl => x.key == k) (w := hi)
    rw [List.getD_eq_getElem?_getD, List.getElem?_eq_getElem hi]
    exact beq_iff_eq.1 this
end Go.Proofs.YgvafwGreat
