import Derived.Test.YgvafwGreatE17
import Derived.Test.YgvafwGreatM1
import Derived.Test.YgvafwGreatY43
set_option exponentiation.threshold 1000
set_option maxRecDepth 100000
set_option maxHeartbeats 4000000
set_option linter.unusedVariables false
set_option linter.unusedSimpArgs false
-- v2
-- v4
-- v5
-- v6
-- v7
namespace Go.Proofs.YgvafwGreat
open Go.HL Go.Proofs
theorem cp_row {ds : List Nat} {fr n q o a : Nat} {xc c : Nat → Value} (hn : n ≤ 32) (hq : min (ds.length - fr) n = q) (ha : a = 32 - n) (hc : ∀ i, i < 32 → c i = .int .u8 ((0 : Nat) : Int)) (hx : ∀ k, k < ds.length → xc (o + k) = .int .u8 (ds.getD k 0 : Nat)) :
    Row (HL.updN c a (cellsFrom xc (o + fr) q)) 0 (bvs (List.replicate (32 - n) 0 ++ cutL ds fr n)) := by
  subst ha
  have hl : (List.replicate (32 - n) 0 ++ cutL ds fr n).length = 32 := by rw [List.length_append, List.length_replicate, cutL_len]; omega
  refine ⟨fun i hi => ?_⟩
  rw [bvs_len, hl] at hi
  rw [bvs_getD' (by rw [hl]; exact hi), updN_cellsFrom, Nat.zero_add]
  dsimp only
  by_cases h : i < 32 - n
  · rw [if_neg (by omega), hc i hi, List.getD_eq_getElem?_getD, List.getElem?_append_left (by rw [List.length_replicate]; exact h), List.getElem?_replicate, if_pos h]; rfl
  · rw [getD_app_right (by rw [List.length_replicate]; omega), List.length_replicate, cutL_get _ _ (by omega)]
    by_cases h2 : i < 32 - n + q
    · rw [if_pos (by omega), Nat.add_assoc, hx _ (by omega)]
    · rw [if_neg (by omega), hc i hi, List.getD_eq_getElem?_getD, List.getElem?_eq_none (by omega)]; rfl
theorem zr_row {c : Nat → Value} (hc : ∀ i, i < 32 → c i = .int .u8 ((0 : Nat) : Int)) : Row c 0 (bvs (List.replicate 32 0)) := by
  refine ⟨fun i hi => ?_⟩
  rw [bvs_len, List.length_replicate] at hi
  rw [bvs_getD' (by rw [List.length_replicate]; exact hi), Nat.zero_add, hc i hi, List.getD_eq_getElem?_getD, List.getElem?_replicate, if_pos hi]; rfl
/-- mach.word32 -/
theorem mWord32 {S : St} {v : Value} {ds : List Nat} {fr : Nat} (hv : Byt ⟨S.I, []⟩ v ds) (hf : fr < 18446744073709551616) (hlen : ds.length < 2 ^ 30) : CallG Hvaf.prog 306 #[v, .int .u64 (fr : Nat)] S fun r S' => S = S' ∧ r = wordV (bev (cutL ds fr 32)) := by
  have h8 := hv.1
  have hu := fun S => FromBytes_spec (S := S) (ds := cutL ds fr 32) (cutL_len _ _ _) (cutL_lt h8 fr 32)
  have h32 : 0 + 32 ≤ 32 := by decide
  have hl32 : (bvs (cutL ds fr 32)).length = 32 := by rw [bvs_len, cutL_len]
  have hz : ∀ i, i < 32 → z_int__u8_0 i = .int .u8 ((0 : Nat) : Int) := fun _ _ => rfl
  by_cases hlt : fr < ds.length
  · rcases hv.cases with ⟨_, h5⟩ | ⟨x, o, cap, rfl, h5, h6, hx, hbs⟩
    · rw [h5] at hlt; simp at hlt
    have hxI : S.I x := by rcases hx with h | h; exact h; simp at h
    have hao : addS o (mulS fr 1) = o + fr := addS_mulS _ _ _ rfl
    have hb1 := hbs.1
    have hb2 : ∀ k, k < ds.length → x.c (o + k) = .int .u8 (ds.getD k 0 : Nat) := hbs.2
    obtain ⟨q, hq⟩ : ∃ q, min (ds.length - fr) 32 = q := ⟨_, rfl⟩
    have hrow := cp_row (n := 32) (a := 0) (by decide) hq rfl hz hb2
    rw [Nat.sub_self, List.replicate_zero, List.nil_append] at hrow
    have hrow2 : Row (HL.updN z_int__u8_0 0 (cellsFrom x.c (addS o (mulS fr 1)) (mulS q 1))) 0 (bvs (cutL ds fr 32)) := by rw [hao, mulS_eq, Nat.mul_one]; exact hrow
    refine CallG.start (C := mkC Hvaf.prog) cok (args := [.slice (some ⟨x.b, o, none⟩) ds.length cap, .int .u64 (fr : Nat)]) Hvaf.func306 rfl Hvaf.ntmps306 (by simp) (by kernel_rfl) ?_
    intro x1
    repeat (first | refine SeqS.go cok ?_)
    intro x3
    repeat (first | refine SeqS.go cok ?_ | refine And.intro (Eq.refl true) ?_ | refine And.intro (by omega) ?_ | (refine NatS.keep ?_; first | with_reducible refine NatS.nat ?_) | (refine ValS.keep ?_; first | (with_reducible refine ValS.kU64 ?_; first | (with_reducible refine ValS.convU64 ?_ ?_ ; omega)) | with_reducible refine ValS.sl0 ?_ | (with_reducible refine ValS.slN ?_ ?_; omega)) | refine W.drawI 3 cok [0, 0, 0, 6, 15] [0, 1, 2, 3, 4] [] (by kernel_rfl) (by kernel_rfl) ?_ | (refine CondS.keep ?_; first | refine CondS.d1 rfl (by omega) ?_))
    refine OpG.keep ?_
    refine OpG.copyQ cok 0 (q := q) hq rfl (y := x) (.inl hxI) rfl rfl rfl rfl rfl rfl rfl ?_ ?_ ?_ ?_
    · show 0 + mulS q 1 ≤ 32; rw [mulS_eq]; omega
    · show addS o (mulS fr 1) + mulS q 1 ≤ x.sz; rw [hao, mulS_eq]; omega
    · intro p hp
      have hp : p < mulS q 1 := hp
      rw [mulS_eq] at hp
      show one (x.c (addS o (mulS fr 1) + p)) = true
      rw [hao, Nat.add_assoc, hb2 _ (by omega)]; rfl
    repeat (first | (refine QuG.keep ?_; refine QuG.rowE cok (x := ⟨x3, 32, 22, _⟩) hrow2 (.inr List.mem_cons_self) rfl rfl rfl rfl rfl hl32 h32 ?_) | refine SeqS.go cok ?_)
    refine (hu _).mono ?_
    rintro r _ - ⟨rfl, rfl⟩
    repeat (first | refine SeqS.go cok ?_ | (refine LdG.keep ?_; first | refine LdG.lN cok 1 rfl rfl rfl rfl rfl (by first | exact Nat.le_of_ble_eq_true rfl | omega | (dsimp only; omega) | (simp only [addS_eq, mulS_eq]; omega)) ?_) | (refine OpG.keep ?_; first | refine OpG.sL cok 1 rfl rfl rfl rfl rfl rfl rfl (by first | exact Nat.le_of_ble_eq_true rfl | omega | (dsimp only; omega) | (simp only [addS_eq, mulS_eq]; omega)) ?_))
    exact Fin.drop S.G [_, _] ⟨rfl, rfl⟩
  · obtain ⟨ad, scap, rfl⟩ : ∃ ad cap, v = .slice ad ds.length cap := by
      rcases hv.cases with ⟨h1, h2⟩ | ⟨x, o, cap, h1, _⟩
      · exact ⟨none, 0, by rw [h1, h2]; rfl⟩
      · exact ⟨_, cap, h1⟩
    have hrow : Row z_int__u8_0 0 (bvs (cutL ds fr 32)) := by rw [cut_past (by omega)]; exact zr_row hz
    generalize cutL ds fr 32 = cs at *
    generalize ds.length = n at *
    refine CallG.start (C := mkC Hvaf.prog) cok (args := [.slice ad n scap, .int .u64 (fr : Nat)]) Hvaf.func306 rfl Hvaf.ntmps306 (by simp) (by kernel_rfl) ?_
    intro x1
    repeat (first | refine SeqS.go cok ?_)
    intro x3
    repeat (first | (refine QuG.keep ?_; refine QuG.rowE cok (x := ⟨x3, 32, 22, _⟩) hrow (.inr List.mem_cons_self) rfl rfl rfl rfl rfl hl32 h32 ?_) | refine SeqS.go cok ?_ | (refine ValS.keep ?_; first | (with_reducible refine ValS.kU64 ?_; first | (with_reducible refine ValS.convU64 ?_ ?_ ; omega))) | (refine CondS.keep ?_; first | refine CondS.d0 rfl (by omega) ?_))
    refine (hu _).mono ?_
    rintro r _ - ⟨rfl, rfl⟩
    repeat (first | refine SeqS.go cok ?_ | (refine LdG.keep ?_; first | refine LdG.lN cok 1 rfl rfl rfl rfl rfl (by first | exact Nat.le_of_ble_eq_true rfl | omega | (dsimp only; omega) | (simp only [addS_eq, mulS_eq]; omega)) ?_) | (refine OpG.keep ?_; first | refine OpG.sL cok 1 rfl rfl rfl rfl rfl rfl rfl (by first | exact Nat.le_of_ble_eq_true rfl | omega | (dsimp only; omega) | (simp only [addS_eq, mulS_eq]; omega)) ?_))
    exact Fin.drop S.G [_, _] ⟨rfl, rfl⟩
end Go.Proofs.YgvafwGreat
