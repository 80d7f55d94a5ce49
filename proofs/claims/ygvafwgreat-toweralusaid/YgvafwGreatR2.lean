import Derived.Test.YgvafwGreatR1
set_option maxRecDepth 100000
set_option maxHeartbeats 4000000
set_option linter.unusedVariables false
set_option linter.unusedSimpArgs false
namespace Go.Proofs.YgvafwGreat
open Go.HL Go.Proofs
theorem set_map_same {α β : Type} {f : α → β} {l : List α} {p : Nat} {x d : α} (hx : f x = f (l.getD p d)) : (l.set p x).map f = l.map f := by
  apply List.ext_getElem?
  intro i
  rw [List.getElem?_map, List.getElem?_map, List.getElem?_set]
  by_cases h : p = i
  · subst h
    rw [if_pos rfl]
    by_cases hp : p < l.length
    · rw [if_pos hp, List.getElem?_eq_getElem hp]
      rw [List.getD_eq_getElem?_getD, List.getElem?_eq_getElem hp] at hx
      simp [hx]
    · rw [if_neg hp, List.getElem?_eq_none (by omega)]
  · rw [if_neg h]
theorem set_fun_same {α β : Type} {f : α → β} {l : List α} {p : Nat} {x d : α} (hx : f x = f (l.getD p d)) (i : Nat) : f ((l.set p x).getD i d) = f (l.getD i d) := by
  by_cases h : p = i
  · subst h
    by_cases hp : p < l.length
    · rw [set_get hp, hx]
    · rw [List.set_eq_of_length_le (by omega)]
  · rw [List.getD_eq_getElem?_getD, List.getElem?_set, if_neg h, ← List.getD_eq_getElem?_getD]
theorem VOk.acs {V : Vl} (h : VOk V) {p : Nat} {x : VA} (hp : p < V.ac.length) (hx : x.ad = (V.ac.getD p dVA).ad) (h1 : x.nonce < 2 ^ 64) (h2 : x.bal < 2 ^ 256) (h3 : x.code.length < 2 ^ 20) : VOk { V with ac := V.ac.set p x } := by
  have hm : ∀ y ∈ V.ac.set p x, y ∈ V.ac ∨ y = x := fun y hy => List.mem_or_eq_of_mem_set hy
  refine { h with aok := ?_, anc := ?_, abl := ?_, acd := ?_, and := ?_, ata := ?_, aln := ?_ }
  · intro y hy
    rcases hm y hy with h' | rfl
    · exact h.aok y h'
    · rw [hx]; exact h.aok _ (getD_mem hp)
  · intro y hy
    rcases hm y hy with h' | rfl
    · exact h.anc y h'
    · exact h1
  · intro y hy
    rcases hm y hy with h' | rfl
    · exact h.abl y h'
    · exact h2
  · intro y hy
    rcases hm y hy with h' | rfl
    · exact h.acd y h'
    · exact h3
  · show ((V.ac.set p x).map VA.ad).Nodup
    rw [set_map_same (d := dVA) hx]; exact h.and
  · show TabOk 4096 V.ta (fun i => homeA ((V.ac.set p x).getD i dVA).ad) (V.ac.set p x).length
    rw [List.length_set]
    have e : (fun i => homeA ((V.ac.set p x).getD i dVA).ad) = fun i => homeA (V.ac.getD i dVA).ad := by
      funext i; rw [set_fun_same (f := VA.ad) hx]
    rw [e]; exact h.ata
  · show (V.ac.set p x).length < 2000
    rw [List.length_set]; exact h.aln
theorem VOk.sls {V : Vl} (h : VOk V) {p : Nat} {x : VSl} (hp : p < V.sl.length) (hx : x.key = (V.sl.getD p dVS).key) (h1 : x.val < 2 ^ 256 ∧ x.orig < 2 ^ 256) : VOk { V with sl := V.sl.set p x } := by
  have hm : ∀ y ∈ V.sl.set p x, y ∈ V.sl ∨ y = x := fun y hy => List.mem_or_eq_of_mem_set hy
  refine { h with sky := ?_, sbd := ?_, snd := ?_, sts := ?_, sln := ?_ }
  · intro y hy
    rcases hm y hy with h' | rfl
    · exact h.sky y h'
    · rw [hx]; exact h.sky _ (getD_mem hp)
  · intro y hy
    rcases hm y hy with h' | rfl
    · exact h.sbd y h'
    · exact h1
  · show ((V.sl.set p x).map VSl.key).Nodup
    rw [set_map_same (d := dVS) hx]; exact h.snd
  · show TabOk 4096 V.ts (fun i => mixN 0 ((V.sl.set p x).getD i dVS).key % 4096) (V.sl.set p x).length
    rw [List.length_set]
    have e : (fun i => mixN 0 ((V.sl.set p x).getD i dVS).key % 4096) = fun i => mixN 0 (V.sl.getD i dVS).key % 4096 := by
      funext i; rw [set_fun_same (f := VSl.key) hx]
    rw [e]; exact h.sts
  · show (V.sl.set p x).length < 2000
    rw [List.length_set]; exact h.sln
theorem VOk.tps {V : Vl} (h : VOk V) {p : Nat} {x : VTp} (hp : p < V.tp.length) (hx : x.key = (V.tp.getD p dVT).key) (h1 : x.val < 2 ^ 256) : VOk { V with tp := V.tp.set p x } := by
  have hm : ∀ y ∈ V.tp.set p x, y ∈ V.tp ∨ y = x := fun y hy => List.mem_or_eq_of_mem_set hy
  refine { h with tky := ?_, tbd := ?_, tnd := ?_, ttt := ?_, tln := ?_ }
  · intro y hy
    rcases hm y hy with h' | rfl
    · exact h.tky y h'
    · rw [hx]; exact h.tky _ (getD_mem hp)
  · intro y hy
    rcases hm y hy with h' | rfl
    · exact h.tbd y h'
    · exact h1
  · show ((V.tp.set p x).map VTp.key).Nodup
    rw [set_map_same (d := dVT) hx]; exact h.tnd
  · show TabOk 16384 V.tt (fun i => mixN 0 ((V.tp.set p x).getD i dVT).key % 16384) (V.tp.set p x).length
    rw [List.length_set]
    have e : (fun i => mixN 0 ((V.tp.set p x).getD i dVT).key % 16384) = fun i => mixN 0 (V.tp.getD i dVT).key % 16384 := by
      funext i; rw [set_fun_same (f := VTp.key) hx]
    rw [e]; exact h.ttt
  · show (V.tp.set p x).length < 12000
    rw [List.length_set]; exact h.tln
theorem VOk.undo {V : Vl} {e : VE} (h : VOk V) (hE : EOk V e) (hw : e.w < 2 ^ 256) (hn : e.n < 2 ^ 64) (h6 : e.kd = 6 → e.n < 2 ^ 40) : VOk (undo1 V e) := by
  unfold undo1
  by_cases c3 : e.kd = 3
  · rw [if_pos c3]; exact h.sls (hE.sl (.inl c3)) rfl ⟨hw, (have a := (h.sbd _ (getD_mem (d := dVS) (hE.sl (.inl c3)))).2; a)⟩
  rw [if_neg c3]
  by_cases c4 : e.kd = 4
  · rw [if_pos c4]
    have hm := getD_mem (d := dVA) (hE.ac (.inl c4))
    exact h.acs (hE.ac (.inl c4)) rfl (have a1 := h.anc _ hm; a1) (have a2 := h.abl _ hm; a2) (have a3 := h.acd _ hm; a3)
  rw [if_neg c4]
  by_cases c5 : e.kd = 5
  · rw [if_pos c5]; exact h.sls (hE.sl (.inr c5)) rfl (have a := h.sbd _ (getD_mem (d := dVS) (hE.sl (.inr c5))); a)
  rw [if_neg c5]
  by_cases c6 : e.kd = 6
  · rw [if_pos c6]; exact { h with rfl' := h6 c6 }
  rw [if_neg c6]
  by_cases c7 : e.kd = 7
  · rw [if_pos c7]; exact { h with lln := by have := h.lln; show V.lg.dropLast.length < 2799; rw [List.length_dropLast]; omega }
  rw [if_neg c7]
  by_cases c8 : e.kd = 8
  · rw [if_pos c8]; exact h.tps (hE.tp c8) rfl hw
  rw [if_neg c8]
  by_cases c1 : e.kd = 1
  · rw [if_pos c1]
    have hm := getD_mem (d := dVA) (hE.ac (.inr (.inl c1)))
    exact h.acs (hE.ac (.inr (.inl c1))) rfl hn (have a2 := h.abl _ hm; a2) (have a3 := h.acd _ hm; a3)
  rw [if_neg c1]
  by_cases c9 : e.kd = 9
  · rw [if_pos c9]
    have hm := getD_mem (d := dVA) (hE.ac (.inr (.inr c9)))
    exact h.acs (hE.ac (.inr (.inr c9))) rfl (have a1 := h.anc _ hm; a1) (have a2 := h.abl _ hm; a2) (have a3 := h.acd _ hm; a3)
  rw [if_neg c9]; exact h
theorem VOk.popN : ∀ (k : Nat) {V : Vl}, VOk V → PopOk k V → k ≤ V.jr.length → (∀ e ∈ V.jr, e.kd = 6 → e.n < 2 ^ 40) → ∀ j, j ≤ k → VOk (Go.Proofs.YgvafwGreat.popN j V)
  | 0, V, h, _, _, _, j, hj => by
    obtain rfl : j = 0 := by omega
    exact h
  | k + 1, V, h, hp, hl, h6, j, hj => by
    cases j with
    | zero => exact h
    | succ j =>
      obtain ⟨p1, p2⟩ := hp
      have hm : V.jr.getD (V.jr.length - 1) dVE ∈ V.jr := getD_mem (by omega)
      have hb := h.jrw _ hm
      have hu := h.undo p1 hb.1 hb.2.2.2 (h6 _ hm)
      have hv : VOk (pop1 V) := by
        unfold Go.Proofs.YgvafwGreat.pop1
        exact { hu with jln := by have := h.jln; show V.jr.dropLast.length < 60000; rw [List.length_dropLast]; omega, jrw := fun x hx => h.jrw x (List.dropLast_subset _ hx) }
      refine VOk.popN k hv p2 ?_ ?_ j (by omega)
      · rw [pop1_len]; omega
      · intro e he; exact h6 e (List.dropLast_subset _ he)
theorem RJ.oks {K : YK} {V : Vl} {w : YW} (h : RJ K V w) (hO : VOk V) : ∀ k, k ≤ V.jr.length - V.mq → VOk (popN k V) := VOk.popN _ hO h.pk (by omega) h.jx
end Go.Proofs.YgvafwGreat
