import Derived.Test.YgvafwGreatHW
set_option maxHeartbeats 4000000
set_option linter.unusedVariables false
set_option linter.unusedSimpArgs false
namespace Go.HL
open Go Go.Proofs
section
variable {C : Cfg} {e : Env} {S : St} {ty : TypeId} {K : Post}
theorem zeroC_one {j : TI} {z : Value} (z2 : z.cells.size = j.size) (z3 : ∀ p, p < j.size → z.cells[p]? = some (j.zero p)) (hone : ∀ p, p < j.size → one (j.zero p) = true) (n : Nat) : ∀ v ∈ (Builtin.zeroCells z.cells n).toList, one v = true := by
  intro v hv
  unfold Builtin.zeroCells at hv
  rw [Array.toList_map] at hv
  obtain ⟨i, hi, rfl⟩ := List.mem_map.1 hv
  have hi2 : i < n * z.cells.size := by simpa using hi
  have hp : 0 < z.cells.size := by
    rcases Nat.eq_zero_or_pos z.cells.size with h | h
    · rw [h, Nat.mul_zero] at hi2; omega
    · exact h
  have hm := Nat.mod_lt i hp
  have := z3 (i % z.cells.size) (by rw [← z2]; exact hm)
  rw [Array.getElem?_eq_getElem hm] at this
  show one (z.cells[i % z.cells.size]!) = true
  rw [getElem!_pos z.cells _ hm, Option.some.inj this]
  exact hone _ (by rw [← z2]; exact hm)
/-- clear of a row of one's own. -/
theorem OpG.clearX (hC : C.Ok) {a : Operand} {t : TypeId} {i j : TI} {b o len cp : Nat} {z : Ent} (k : Nat) (hz : S.G[k]? = some z) (hD : C.D t = some i) (hk : i.kind = 4) (hj : C.D i.elem = some j) (ha : ev e a = sl b o len cp) (hb : z.b = b) (h0 : 0 < len) (ho : o + len * j.size ≤ z.sz) (hone : ∀ p, p < j.size → one (j.zero p) = true)
    (h : ∀ c', K (.tuple #[]) ⟨S.I, S.G.set k ⟨z.b, z.sz, z.T, c'⟩⟩) : OpG C.P (.call ⟨.builtin .clear, #[a], #[t]⟩) ty e S K := by
  refine ⟨fun F w hw => ?_⟩
  subst hb
  have hd := (hC.tab t i hD).desc
  unfold descOk at hd; rw [hk] at hd; simp only at hd
  obtain ⟨zv, z1, z2, z3⟩ := (hC.tab i.elem j hj).zeroValue w
  obtain ⟨w', hr, hh⟩ := storeCells_run (P := C.P) (F := F) (Builtin.zeroCells zv.cells len).toList 0 w S z k o hw hz (by simp [Builtin.zeroCells, z2]; omega) (zeroC_one z2 z3 hone len)
  obtain ⟨m, rfl⟩ : ∃ m, len = m + 1 := ⟨len - 1, by omega⟩
  simp only [sl] at ha
  simp only [execOp, resolve, invoke, builtin, Builtin.clear_, List.map_toArray, List.map_cons, List.map_nil, List.getElem?_toArray, List.getElem?_cons_zero, ha, run_underlying hd, Sem.run_bind, Sem.run_pure, Result.andThen, OpUpon, z1, hr]
  exact ⟨_, hh, .refl _, h _⟩
end
end Go.HL
