import Derived.Test.YgvafwGreatE70
import Derived.Test.YgvafwGreatY78
import Derived.Test.YgvafwGreatY82
import Derived.Test.YgvafwGreatL9
set_option exponentiation.threshold 1000
set_option maxRecDepth 100000
set_option maxHeartbeats 4000000
set_option linter.unusedVariables false
set_option linter.unusedSimpArgs false
-- v2
-- v4
-- v5
-- v6
-- v7
namespace Go.Proofs.YgvafwGreat
open Go.HL Go.Proofs

theorem ac0_d {I : Ent → Prop} {l : List Value} {a : YA} (h : Ac0 I l a) : AcctD I l a := ⟨h.acct, fun _ => by
  obtain ⟨nv, bv, cv, h1, _⟩ := h.out
  have hl : (bvs a.addr).length = 20 := by rw [show (bvs a.addr).length = a.addr.length from List.length_map ..]; exact h.ok.1
  rw [h1, List.getD_eq_getElem?_getD, List.getElem?_append_right (by rw [hl]; decide), hl]; rfl⟩
theorem bs_of {J : Ent → Prop} {cs : Nat → Value} {vv tv : Value} {l1 l2 : List Value} {ds : List Nat} (h1 : RowI J 24 vv [l1, l2]) (h2 : Ac0 J l1 ⟨ad1 1, 1, bev z32, ds, []⟩) (h3 : Ac0 J l2 ⟨ad1 240, 0, bev w15, [], []⟩) (h4 : NatI J tv (0 + bev z32 + bev w15)) (h5 : Row cs 59 envL)
    (h6 : ∀ k, 0 < k → k < 11 → cs k = nlV) (h7 : cs 11 = .int .u8 0 ∧ cs 12 = .int .u8 0 ∧ cs 13 = .int .u8 0) (h8 : ∀ k, 14 ≤ k → k < 18 → cs k = nlV) : BS J (upd (upd cs 0 vv) 18 tv) ds := by
  have z : bev z32 = 0 := by decide +kernel
  have w : bev w15 = 2 ^ 128 := by decide +kernel
  rw [z] at h2
  rw [w] at h3
  rw [z, w] at h4
  refine ⟨⟨[l1, l2], h1, rfl, ?_⟩, fun k a b => (upd_ne (by omega)).trans ((upd_ne (by omega)).trans (h6 k a b)), h7.1, h7.2.1, h7.2.2, fun k a b => (upd_ne (by omega)).trans ((upd_ne (by omega)).trans (h8 k a b)), h4, Row.keep h5 fun k hk => (upd_ne (by omega)).trans (upd_ne (by omega))⟩
  intro i hi
  have hi2 : i < 2 := hi
  rcases (by omega : i = 0 ∨ i = 1) with rfl | rfl
  · exact ac0_d h2
  · exact ac0_d h3
theorem finBoth {K : Post} {v : Value} {I : Ent → Prop} {x y : Ent} {G : List Ent} (h : K v ⟨I, G ++ [x]⟩) : HL.Fin K v ⟨I, x :: ([y] ++ G)⟩ := by
  refine ⟨[y], [], G ++ [x], I, ?_, fun _ => by simp, h⟩
  refine perm_sum fun f => ?_
  simp only [sumE, sumE_append, List.nil_append, List.cons_append]
  omega
/-- law.both -/
theorem lBoth {I : Ent → Prop} {w : Value} {cc : Nat} {ca : Option Addr} {code : List Nat} (hR : RowI I 55 w [el1 (.slice ca code.length cc), el2]) (hb : Byt ⟨I, []⟩ (.slice ca code.length cc) code) (hcl : code.length ≤ 256) :
    CallG Hvaf.prog 9 #[w, envV] ⟨I, []⟩ fun r S' => ∃ J cb sb sz c GE V cs, r = .tuple #[ptr cb 0, ptr sb 0, .bool true] ∧ S' = ⟨J, (⟨cb, sz, 105, c⟩ :: GE) ++ [⟨sb, 179, 118, cs⟩]⟩ ∧ 27024 ≤ sz ∧ VI J c V GE ∧ FP code 2 V ∧ MN cb c ∧ c 27023 = .bool false ∧ BS J cs code := by
  obtain ⟨wa, wc, rfl⟩ := hR.form
  have hE := eNew hR hb hcl
  have hY : ∀ (J1 : Ent → Prop) (_ : HL.Sub I J1) (G : List Ent), CallG Hvaf.prog 22 #[.slice wa [el1 (.slice ca code.length cc), el2].length wc, envV] ⟨J1, G⟩ fun r S' => ∃ J sb cs, r = .tuple #[ptr sb 0, .bool true] ∧ S' = ⟨J, ⟨sb, 179, 118, cs⟩ :: G⟩ ∧ BS J cs code := fun J1 hs1 G => by
    have h := yNew (I := J1) (G := G) (hR.up hs1) hcl (hb.mono hs1 (by simp))
    rw [List.append_nil] at h
    refine h.mono ?_
    rintro r _ hs2 ⟨J2, sb, cs, l1, l2, vv, tv, rfl, rfl, q1, q2, q3, q4, q5, q6, q7, q8⟩
    exact ⟨J2, sb, _, rfl, rfl, bs_of q1 q2 q3 q4 q5 q6 q7 q8⟩
  refine CallG.start (C := mkC Hvaf.prog) cok (args := [.slice wa [el1 (.slice ca code.length cc), el2].length wc, envV]) Hvaf.func9 rfl Hvaf.ntmps9 (by simp) (by kernel_rfl) ?_
  intro b3
  repeat (first | refine SeqS.go cok ?_ | (refine QuG.keep ?_; first | refine QuG.lN cok 0 rfl rfl rfl rfl rfl (by first | exact Nat.le_of_ble_eq_true rfl | omega | (dsimp only; omega) | (simp only [addS_eq, mulS_eq]; omega)) ?_))
  refine CallG.behind [_] hE ?_
  rintro r J1 _ hs1 ⟨J1', cb, sz, c, GE, V, rfl, e1, hsz, hV, hF, hM, hT⟩
  cases e1
  replace hs1 : HL.Sub I J1 := hs1
  repeat (first | refine SeqS.go cok ?_ | (refine QuG.keep ?_; first | refine QuG.lN cok 0 rfl rfl rfl rfl rfl (by first | exact Nat.le_of_ble_eq_true rfl | omega | (dsimp only; omega) | (simp only [addS_eq, mulS_eq]; omega)) ?_))
  refine (hY J1 hs1 _).mono ?_
  rintro r _ hs2 ⟨J2, sb, cs, rfl, rfl, hB⟩
  replace hs2 : HL.Sub J1 J2 := hs2
  repeat (first | refine SeqS.go cok ?_ | (refine QuG.keep ?_; first | refine QuG.lN cok 1 rfl rfl rfl rfl rfl (by first | exact Nat.le_of_ble_eq_true rfl | omega | (dsimp only; omega) | (simp only [addS_eq, mulS_eq]; omega)) ?_))
  refine (lNewsHold ((hR.up hs1).up hs2) hcl).mono ?_
  rintro r _ - ⟨rfl, rfl⟩
  repeat (first | refine SeqS.go cok ?_ | refine CondS.f rfl ?_)
  exact finBoth ⟨J2, cb, sb, sz, c, GE, V, cs, rfl, rfl, hsz, hV.up hs2, hF, hM, hT, hB⟩
end Go.Proofs.YgvafwGreat
