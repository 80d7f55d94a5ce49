import Derived.Test.YgvafwGreatHLz
set_option exponentiation.threshold 1000
set_option linter.unusedVariables false
namespace Go.HL
/-- A slice of bytes that came in: it can be read, or it is empty. -/
def BytE (S : St) (v : Value) (ds : List Nat) : Prop := Byt S v ds ∨ (ds = [] ∧ ∃ a, v = .slice (some a) 0 0)
theorem BytE.b {S : St} {v : Value} {ds : List Nat} (h : BytE S v ds) : (∀ d ∈ ds, d < 256) ∧ ds.length < 2 ^ 47 ∧ ∃ a c, v = .slice a ds.length c := by
  rcases h with h | ⟨rfl, a, rfl⟩
  · obtain ⟨a, c, e, _⟩ := h.form; exact ⟨h.1, h.2.1, a, c, e⟩
  · exact ⟨by simp, by decide, _, _, rfl⟩
theorem BytE.in_ {w : World} {a : Option Addr} {len cap : Nat} {zs : List Int} {I : Ent → Prop} (hI : ∀ b arr T fz, w.heap[b]? = some (.cells arr T fz) → I ⟨b, arr.size, T, fun i => arr.getD i undef⟩) (h : (a = none ∧ len = 0 ∧ cap = 0 ∧ zs = []) ∨
  ∃ x, a = some x ∧ len ≤ cap ∧ zs.length = cap ∧ (∀ i, i < zs.length → w.cell? (x.add i) = some (.int .u8 (zs.getD i 0))) ∧ ∀ n ∈ zs, 0 ≤ n ∧ n < 256) (hc : cap < 2 ^ 47) : BytE ⟨I, []⟩ (.slice a len cap) ((zs.take len).map Int.toNat) := by
  rcases h with ⟨rfl, rfl, rfl, rfl⟩ | ⟨x, rfl, hl, hz, hcell, hb⟩
  · exact .inl (Byt.nil _)
  · rcases Nat.eq_zero_or_pos cap with h0 | h0
    · subst h0
      obtain rfl : len = 0 := by omega
      obtain rfl : zs = [] := List.length_eq_zero_iff.1 hz
      exact .inr ⟨rfl, x, rfl⟩
    · have hlen : ((zs.take len).map Int.toNat).length = len := by rw [List.length_map, List.length_take]; omega
      have hc0 := hcell 0 (by omega)
      have hadd : ∀ i, x.spot = none → x.add i = ⟨x.block, x.off + i, none⟩ := fun i hs => by
        unfold Addr.add; split
        · rename_i h; subst h; cases x; simp_all
        · rfl
      have hx0 : x.add 0 = x := by unfold Addr.add; rw [if_pos rfl]
      rw [hx0] at hc0
      unfold World.cell? at hc0
      split at hc0
      · rename_i arr T fz hh
        split at hc0
        · cases hc0
        · rename_i hsp
          have hs : x.spot = none := by simpa using hsp
          have hg : ∀ i, i < cap → arr[x.off + i]? = some (.int .u8 (zs.getD i 0)) := fun i hi => by
            have := hcell i (by omega)
            rw [hadd i hs] at this
            simpa [World.cell?, hh] using this
          have hsz : x.off + cap ≤ arr.size := by
            have := hg (cap - 1) (by omega)
            have := (Array.getElem?_eq_some_iff.1 this).1
            omega
          refine .inl ⟨?_, by rw [hlen]; omega, some x, cap, by rw [hlen], by rw [hlen]; exact hl, by omega, .inr ⟨⟨x.block, arr.size, T, fun i => arr.getD i undef⟩, x.off, ?_, .inl (hI _ _ _ _ hh), ?_, ?_⟩⟩
          · intro d hd
            obtain ⟨n, hn, rfl⟩ := List.mem_map.1 hd
            have := hb n (List.mem_of_mem_take hn)
            omega
          · cases x; simp_all
          · rw [hlen]; show x.off + len ≤ arr.size; omega
          · intro i hi
            rw [hlen] at hi
            have hz2 : i < zs.length := by omega
            show arr.getD (x.off + i) undef = _
            have e1 : zs.getD i 0 = zs[i] := by rw [List.getD_eq_getElem?_getD, List.getElem?_eq_getElem hz2]; rfl
            have e2 : ((zs.take len).map Int.toNat).getD i 0 = zs[i].toNat := by
              rw [List.getD_eq_getElem?_getD, List.getElem?_map, List.getElem?_take_of_lt hi, List.getElem?_eq_getElem hz2]; rfl
            have := hb zs[i] (List.getElem_mem hz2)
            rw [Array.getD_eq_getD_getElem?, hg i (by omega), e2, Option.getD_some, e1, Int.toNat_of_nonneg this.1]
      · cases hc0
/-- All that lies in a world, to be read. -/
def All (w : World) (x : Ent) : Prop := ∃ arr T fz, w.heap[x.b]? = some (.cells arr T fz) ∧ x = ⟨x.b, arr.size, T, fun i => arr.getD i undef⟩
theorem All.holds (w : World) : Holds ⟨All w, []⟩ ⟨[], w, w.heap.size⟩ w := by
  refine ⟨fun x hx => ?_, fun _ h => by simp at h, by simp, fun _ _ _ h => by simp at h, Nat.le_refl _, ⟨⟨rfl, rfl, rfl⟩, Nat.le_refl _, fun _ _ => rfl⟩, fun _ h => by simp at h⟩
  obtain ⟨arr, T, fz, h, e⟩ := hx
  have e1 := congrArg Ent.T e
  have e2 := congrArg Ent.sz e
  have e3 := congrArg Ent.c e
  refine ⟨arr, fz, by rw [e1]; exact h, e2.symm, fun i hi => ?_⟩
  have hi2 : i < arr.size := by rw [e2] at hi; exact hi
  rw [e3]; simp [hi2]
theorem CallG.world {P : Program} {f : FuncId} {args : Array Value} {w : World} {v : Value} (h : CallG P f args ⟨All w, []⟩ fun r _ => r = v) :
    Calls P f args w fun x w' => x = .returned v ∧ (w'.os = w.os ∧ w'.tape = w.tape ∧ w'.output = w.output) ∧ w.heap.size ≤ w'.heap.size ∧ ∀ k, k < w.heap.size → w'.heap[k]? = w.heap[k]? := by
  refine (h.run _ w (All.holds w)).mono ?_
  rintro x w' ⟨r, S', rfl, hh, _, rfl⟩
  exact ⟨rfl, hh.low.base⟩
end Go.HL
