import Derived.Test.YgvafwGreatV15
import Derived.Test.YgvafwGreatY31
set_option exponentiation.threshold 1000
set_option maxRecDepth 100000
set_option maxHeartbeats 4000000
set_option linter.unusedVariables false
set_option linter.unusedSimpArgs false
-- v2
-- v4
-- v5
-- v6
-- v7
namespace Go.Proofs.YgvafwGreat
open Go.HL Go.Proofs

theorem list20b {l : List Nat} (h : l.length = 20) : ∃ a0 a1 a2 a3 a4 a5 a6 a7 a8 a9 a10 a11 a12 a13 a14 a15 a16 a17 a18 a19, l = [a0, a1, a2, a3, a4, a5, a6, a7, a8, a9, a10, a11, a12, a13, a14, a15, a16, a17, a18, a19] := by
  match l, h with
  | [a0, a1, a2, a3, a4, a5, a6, a7, a8, a9, a10, a11, a12, a13, a14, a15, a16, a17, a18, a19], _ => exact ⟨a0, a1, a2, a3, a4, a5, a6, a7, a8, a9, a10, a11, a12, a13, a14, a15, a16, a17, a18, a19, rfl⟩
/-- A log's cells once it is copied. -/
def CopyP (G : List Ent) (a ts ds : List Nat) : Post := fun r S' => ∃ tv dv, S'.G = G ∧ r = .agg (bvs a ++ [tv, dv]).toArray ∧ RowI S'.I 32 tv (ts.map fun n => bvs (be32 n)) ∧ Byt ⟨S'.I, []⟩ dv ds ∧ one tv = true ∧ one dv = true
theorem Byt.one {S : St} {v : Value} {ds : List Nat} (h : Byt S v ds) : one v = true := by
  rcases h.cases with ⟨rfl, _⟩ | ⟨x, o, cap, rfl, _⟩ <;> rfl
theorem RowI.one1 {I : Ent → Prop} {k : Nat} {v : Value} {vss : List (List Value)} (h : RowI I k v vss) : Go.HL.one v = true := by
  rcases h.2 with ⟨rfl, _⟩ | ⟨x, o, cap, rfl, _⟩ <;> rfl
theorem one_be {ts : List Nat} : ∀ l ∈ (ts.map fun n => bvs (be32 n)), ∀ u ∈ l, Go.HL.one u = true := by
  intro l hl u hu
  obtain ⟨n, _, rfl⟩ := List.mem_map.1 hl
  exact one_bvs _ u hu
theorem one_log {a : List Nat} {tv dv : Value} (h1 : Go.HL.one tv = true) (h2 : Go.HL.one dv = true) : ∀ u ∈ bvs a ++ [tv, dv], Go.HL.one u = true := by
  intro u hu
  rcases List.mem_append.1 hu with h | h
  · exact one_bvs _ u h
  · simp only [List.mem_cons, List.not_mem_nil, or_false] at h
    rcases h with rfl | rfl
    · exact h1
    · exact h2
/-- Blocks Z are frozen, D let go: they stand Z ++ D ++ G. -/
theorem _root_.Go.HL.Fin.perm2 {K : Post} {v : Value} {I : Ent → Prop} (D Z G : List Ent) (h : K v ⟨fun x => I x ∨ x ∈ Z, G⟩) : Fin K v ⟨I, Z ++ (D ++ G)⟩ := ⟨D, Z, G, _, (List.perm_append_comm (l₁ := D) (l₂ := G)).append_left Z, fun _ => .rfl, h⟩
/-- vault.copiedLog, where there are no topics -/
theorem vCopiedLog0 {I : Ent → Prop} {G : List Ent} {a ds : List Nat} {tv dv : Value} (ha : AdOk a) (ht : RowI I 32 tv (([] : List Nat).map fun n => bvs (be32 n))) (hd : Byt ⟨I, []⟩ dv ds) :
    CallG Hvaf.prog 217 #[.agg (bvs a ++ [tv, dv]).toArray] ⟨I, G⟩ (CopyP G a [] ds) := by
  obtain ⟨a0, a1, a2, a3, a4, a5, a6, a7, a8, a9, a10, a11, a12, a13, a14, a15, a16, a17, a18, a19, rfl⟩ := list20b ha.len
  obtain ⟨ad, cap, rfl⟩ := ht.form
  have hcp := fun L => vCopied (G := L ++ G) (hd.mono (Sub.refl I) (by simp))
  unfold CopyP
  refine CallG.start (C := mkC Hvaf.prog) cok (args := [.agg (bvs [a0, a1, a2, a3, a4, a5, a6, a7, a8, a9, a10, a11, a12, a13, a14, a15, a16, a17, a18, a19] ++ [.slice ad (([] : List Nat).map fun n => bvs (be32 n)).length cap, dv]).toArray]) Hvaf.func217 rfl Hvaf.ntmps217 (by simp) (by kernel_rfl) ?_
  intro lb rb
  repeat (first | refine SeqS.go cok ?_ | (refine QuG.keep ?_; first | refine QuG.l1 cok 1 rfl rfl rfl rfl rfl (by first | exact Nat.le_of_ble_eq_true rfl | omega | (dsimp only; omega) | (simp only [addS_eq, mulS_eq]; omega)) ?_))
  refine (hcp [_, _]).mono ?_
  rintro r ⟨J, _⟩ hs ⟨rfl, hr⟩
  have hone := Byt.one hr
  repeat (first | (refine OpG.keep ?_; first | refine OpG.s1 cok 1 rfl rfl rfl rfl rfl (by first | exact Nat.le_of_ble_eq_true rfl | omega | (dsimp only; omega) | (simp only [addS_eq, mulS_eq]; omega)) rfl (by assumption) ?_) | refine SeqS.go cok ?_ | refine CondS.t rfl ?_ | (refine QuG.keep ?_; first | refine QuG.l1 cok 1 rfl rfl rfl rfl rfl (by first | exact Nat.le_of_ble_eq_true rfl | omega | (dsimp only; omega) | (simp only [addS_eq, mulS_eq]; omega)) ?_ | refine QuG.lN cok 1 rfl rfl rfl rfl rfl (by first | exact Nat.le_of_ble_eq_true rfl | omega | (dsimp only; omega) | (simp only [addS_eq, mulS_eq]; omega)) ?_) | (refine OpG.keep ?_; first | refine OpG.s1 cok 1 rfl rfl rfl rfl rfl (by first | exact Nat.le_of_ble_eq_true rfl | omega | (dsimp only; omega) | (simp only [addS_eq, mulS_eq]; omega)) rfl rfl ?_))
  refine OpG.keep ?_
  refine OpG.upS cok 0 (vs := bvs [a0, a1, a2, a3, a4, a5, a6, a7, a8, a9, a10, a11, a12, a13, a14, a15, a16, a17, a18, a19] ++ [.slice none 0 0, r]) rfl rfl rfl rfl rfl rfl (one_log rfl hone) (by decide) ?_
  repeat (first | refine SeqS.go cok ?_ | (refine LdG.keep ?_; first | refine LdG.lN cok 0 rfl rfl rfl rfl rfl (by first | exact Nat.le_of_ble_eq_true rfl | omega | (dsimp only; omega) | (simp only [addS_eq, mulS_eq]; omega)) ?_))
  exact Fin.drop G [_, _] ⟨_, r, rfl, rfl, RowI.nil _ _, hr, rfl, hone⟩
/-- vault.copiedLog -/
theorem vCopiedLog1 {I : Ent → Prop} {G : List Ent} {a ts ds : List Nat} {tv dv : Value} (ha : AdOk a) (ht : RowI I 32 tv (ts.map fun n => bvs (be32 n))) (hd : Byt ⟨I, []⟩ dv ds) (h0 : 0 < ts.length) (h5 : ts.length < 5) :
    CallG Hvaf.prog 217 #[.agg (bvs a ++ [tv, dv]).toArray] ⟨I, G⟩ (CopyP G a ts ds) := by
  obtain ⟨a0, a1, a2, a3, a4, a5, a6, a7, a8, a9, a10, a11, a12, a13, a14, a15, a16, a17, a18, a19, rfl⟩ := list20b ha.len
  obtain ⟨ad, cap, rfl⟩ := ht.form
  have hvl : (ts.map fun n => bvs (be32 n)).length = ts.length := by simp
  obtain ⟨x, o, rfl, hx, hE⟩ := ht.some (by omega)
  have h1 := one_be (ts := ts)
  have hlen := ht.1
  unfold CopyP
  generalize (ts.map fun n => bvs (be32 n)) = vss at *
  have hcp := fun L => vCopied (G := L ++ G) (hd.mono (Sub.refl I) (by simp))
  have hfl := flat_len hlen
  have hcell : cellsFrom x.c o (vss.length * 32) = vss.flatten := hE.row.cells hfl
  have hfit := hE.fit
  refine CallG.start (C := mkC Hvaf.prog) cok (args := [.agg (bvs [a0, a1, a2, a3, a4, a5, a6, a7, a8, a9, a10, a11, a12, a13, a14, a15, a16, a17, a18, a19] ++ [sl x.b o vss.length cap, dv]).toArray]) Hvaf.func217 rfl Hvaf.ntmps217 (by simp) (by kernel_rfl) ?_
  intro lb rb
  repeat (first | refine SeqS.go cok ?_ | (refine QuG.keep ?_; first | refine QuG.l1 cok 1 rfl rfl rfl rfl rfl (by first | exact Nat.le_of_ble_eq_true rfl | omega | (dsimp only; omega) | (simp only [addS_eq, mulS_eq]; omega)) ?_))
  refine (hcp [_, _]).mono ?_
  rintro r ⟨J, _⟩ hs ⟨rfl, hr⟩
  have hone := Byt.one hr
  repeat (first | (refine OpG.keep ?_; first | refine OpG.s1 cok 1 rfl rfl rfl rfl rfl (by first | exact Nat.le_of_ble_eq_true rfl | omega | (dsimp only; omega) | (simp only [addS_eq, mulS_eq]; omega)) rfl (by assumption) ?_) | refine SeqS.go cok ?_ | refine And.intro (by dsimp only; omega) ?_ | (refine NatS.keep ?_; first | with_reducible refine NatS.nat ?_) | (refine QuG.keep ?_; first | refine QuG.l1 cok 1 rfl rfl rfl rfl rfl (by first | exact Nat.le_of_ble_eq_true rfl | omega | (dsimp only; omega) | (simp only [addS_eq, mulS_eq]; omega)) ?_) | (refine CondS.keep ?_; first | refine CondS.d0 rfl (by omega) ?_))
  intro tb
  repeat (first | refine SeqS.go cok ?_ | (refine QuG.keep ?_; first | refine QuG.l1 cok 2 rfl rfl rfl rfl rfl (by first | exact Nat.le_of_ble_eq_true rfl | omega | (dsimp only; omega) | (simp only [addS_eq, mulS_eq]; omega)) ?_))
  refine OpG.keep ?_
  refine OpG.copy cok 0 rfl (y := x) (.inl (hs x hx)) rfl rfl rfl rfl rfl rfl rfl ?_ ?_ ?_ ?_
  · show 0 + mulS (Nat.min vss.length vss.length) 32 ≤ mulS vss.length 32
    rw [show Nat.min vss.length vss.length = vss.length by simp]; omega
  · show o + mulS (Nat.min vss.length vss.length) 32 ≤ x.sz
    rw [show Nat.min vss.length vss.length = vss.length by simp, mulS_eq]; exact hfit
  · intro p hp
    have hp : p < mulS (Nat.min vss.length vss.length) 32 := hp
    rw [show Nat.min vss.length vss.length = vss.length by simp, mulS_eq] at hp
    rw [hE.row.get p (by rw [hfl]; exact hp), List.getD_eq_getElem?_getD, List.getElem?_eq_getElem (by rw [hfl]; exact hp)]
    exact flat_one h1 _ (List.getElem_mem _)
  repeat (first | refine SeqS.go cok ?_ | (refine QuG.keep ?_; first | refine QuG.lN cok 2 rfl rfl rfl rfl rfl (by first | exact Nat.le_of_ble_eq_true rfl | omega | (dsimp only; omega) | (simp only [addS_eq, mulS_eq]; omega)) ?_) | (refine OpG.keep ?_; first | refine OpG.s1 cok 2 rfl rfl rfl rfl rfl (by first | exact Nat.le_of_ble_eq_true rfl | omega | (dsimp only; omega) | (simp only [addS_eq, mulS_eq]; omega)) rfl rfl ?_))
  refine OpG.keep ?_
  refine OpG.upS cok 1 (vs := bvs [a0, a1, a2, a3, a4, a5, a6, a7, a8, a9, a10, a11, a12, a13, a14, a15, a16, a17, a18, a19] ++ [sl tb 0 vss.length vss.length, r]) rfl rfl rfl rfl rfl rfl (one_log rfl hone) (by decide) ?_
  repeat (first | refine SeqS.go cok ?_ | (refine LdG.keep ?_; first | refine LdG.lN cok 1 rfl rfl rfl rfl rfl (by first | exact Nat.le_of_ble_eq_true rfl | omega | (dsimp only; omega) | (simp only [addS_eq, mulS_eq]; omega)) ?_))
  refine Fin.perm2 [_, _] [_] G ⟨sl tb 0 vss.length vss.length, r, rfl, rfl, ⟨hlen, .inr ⟨_, 0, vss.length, rfl, Nat.le_refl _, .inr List.mem_cons_self, hlen, ?_, ?_⟩⟩, hr.mono (fun _ h => .inl h) (by simp), rfl, hone⟩
  · show Row (updN _ 0 (cellsFrom x.c o (mulS (Nat.min vss.length vss.length) 32))) 0 vss.flatten
    rw [show Nat.min vss.length vss.length = vss.length by simp, mulS_eq, hcell]
    exact Row.updN2 _ 0 _
  · show 0 + vss.length * 32 ≤ mulS vss.length 32
    rw [mulS_eq]; omega
end Go.Proofs.YgvafwGreat
