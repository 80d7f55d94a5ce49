import Derived.Test.YgvafwGreatY87
import Derived.Test.YgvafwGreatV21
import Derived.Test.YgvafwGreatV24
set_option exponentiation.threshold 1000
set_option maxRecDepth 100000
set_option maxHeartbeats 4000000
set_option linter.unusedVariables false
set_option linter.unusedSimpArgs false
-- v2
-- v4
-- v5
-- v6
-- v7
namespace Go.Proofs.YgvafwGreat
open Go.HL Go.Proofs

/-- vault.Vault.Logged -/
theorem vLogged {I : Ent → Prop} {R G : List Ent} {cb sz : Nat} {T : TypeId} {c : Nat → Value} {V : Vl} (hsz : 27019 ≤ sz) (hV : VI I c V G) (hO : VOk V) (h5 : ∀ t ∈ V.lg, t.2.1.length < 5) :
    CallG Hvaf.prog 125 #[ptr cb 2435] ⟨I, ⟨cb, sz, T, c⟩ :: (R ++ G)⟩ fun r S' => S'.G = ⟨cb, sz, T, c⟩ :: (R ++ G) ∧ LogsI S'.I r V.lg := by
  obtain ⟨MA, MS, MJ, ML, MT, MH, hp, hb⟩ := hV.own
  obtain ⟨vss, hW, hvl, hel⟩ := hb.ol.out
  have hlen := hO.lln
  rcases hW.out with ⟨hc, rfl, rfl⟩ | ⟨lb, cap, lc, hc, hcap, rfl, hrow⟩
  · have e : V.lg = [] := List.eq_nil_of_length_eq_zero hvl.symm
    refine CallG.start (C := mkC Hvaf.prog) cok (args := [ptr cb 2435]) Hvaf.func125 rfl Hvaf.ntmps125 (by simp) (by kernel_rfl) ?_
    repeat (first | (refine QuG.keep ?_; first | refine QuG.l1E cok 0 rfl rfl rfl rfl rfl (by first | exact Nat.le_of_ble_eq_true rfl | omega | (dsimp only; omega) | (simp only [addS_eq, mulS_eq]; omega)) (by assumption) ?_) | refine SeqS.go cok ?_ | refine CondS.t rfl ?_)
    refine Fin.same ⟨rfl, ?_⟩
    rw [e]
    exact ⟨[], RowI.nil _ _, L2.nil _ _⟩
  · obtain ⟨x, hx⟩ : ∃ x : Ent, (⟨lb, mulS cap 22, 141, lc⟩ : Ent) = x := ⟨_, rfl⟩
    have hxG : x ∈ G := (hp.mem_iff).2 (by rw [← hx]; simp)
    have hE : Els x 0 22 vss := by
      rw [← hx]
      refine ⟨hW.len, hrow, ?_⟩
      show 0 + vss.length * 22 ≤ mulS cap 22
      rw [mulS_eq]; omega
    have hc : c 27016 = HL.sl x.b 0 vss.length cap := by rw [← hx]; exact hc
    clear hx hrow
    by_cases hz : vss.length = 0
    · have e : V.lg = [] := List.eq_nil_of_length_eq_zero (by rw [← hvl]; exact hz)
      rw [hz] at hc
      refine CallG.start (C := mkC Hvaf.prog) cok (args := [ptr cb 2435]) Hvaf.func125 rfl Hvaf.ntmps125 (by simp) (by kernel_rfl) ?_
      repeat (first | (refine QuG.keep ?_; first | refine QuG.l1E cok 0 rfl rfl rfl rfl rfl (by first | exact Nat.le_of_ble_eq_true rfl | omega | (dsimp only; omega) | (simp only [addS_eq, mulS_eq]; omega)) (by assumption) ?_) | refine SeqS.go cok ?_ | refine CondS.t rfl ?_)
      refine Fin.same ⟨rfl, ?_⟩
      rw [e]
      exact ⟨[], RowI.nil _ _, L2.nil _ _⟩
    obtain ⟨ml, hml0⟩ : ∃ ml, V.lg = ml := ⟨_, rfl⟩
    rw [hml0] at hvl hel hlen h5 ⊢
    refine CallG.start (C := mkC Hvaf.prog) cok (args := [ptr cb 2435]) Hvaf.func125 rfl Hvaf.ntmps125 (by simp) (by kernel_rfl) ?_
    repeat (first | (refine QuG.keep ?_; first | refine QuG.l1E cok 0 rfl rfl rfl rfl rfl (by first | exact Nat.le_of_ble_eq_true rfl | omega | (dsimp only; omega) | (simp only [addS_eq, mulS_eq]; omega)) (by assumption) ?_) | refine SeqS.go cok ?_ | refine And.intro (by dsimp only; omega) ?_ | (refine NatS.keep ?_; first | with_reducible refine NatS.nat ?_) | (refine CondS.keep ?_; first | refine CondS.d0 rfl (by omega) ?_))
    intro ob
    repeat (first | refine SeqS.go cok ?_)
    refine W.loopF cok (by kernel_rfl) 0 (fun (i : Nat) e' S' => (∃ (J : Ent → Prop) (c' : Nat → Value) (ms : List (List Value)), HL.Sub I J ∧ S' = ⟨J, ⟨ob, mulS vss.length 22, 141, c'⟩ :: ⟨cb, sz, T, c⟩ :: (R ++ G)⟩ ∧ ms.length = i ∧ Row c' 0 ms.flatten ∧ (∀ l ∈ ms, l.length = 22) ∧ ∀ j, j < i → LgC J (ms.getD j []) (ml.getD j dL)) ∧ i ≤ ml.length ∧ slots [(0, ptr cb 2435), (3, HL.sl ob 0 vss.length vss.length), (18, .int .i64 (vss.length : Nat)), (19, .int .i64 (i : Nat))] e') (fun i => ml.length - i) 0
      (Rel.same ⟨⟨I, _, [], fun _ h => h, rfl, rfl, ⟨fun i hi => absurd hi (by simp)⟩, by simp, by intro j hj; omega⟩, Nat.zero_le _, rfl, rfl, rfl, rfl, trivial⟩) (fun e' S' => (∃ (J : Ent → Prop) (c' : Nat → Value) (ms : List (List Value)), HL.Sub I J ∧ S' = ⟨J, ⟨ob, mulS vss.length 22, 141, c'⟩ :: ⟨cb, sz, T, c⟩ :: (R ++ G)⟩ ∧ ms.length = ml.length ∧ Row c' 0 ms.flatten ∧ (∀ l ∈ ms, l.length = 22) ∧ ∀ j, j < ml.length → LgC J (ms.getD j []) (ml.getD j dL)) ∧ slots [(3, HL.sl ob 0 vss.length vss.length)] e') ?_ ?_
    · rintro e' S2 - ⟨⟨J, c', ms, hs, rfl, hml, hrow, hml2, hall⟩, hsl⟩
      refine SeqS.slots cok _ hsl fun e => ?_
      repeat (first | refine SeqS.go cok ?_)
      refine Fin.frz [_] _ ⟨rfl, ms, ⟨hml2, .inr ⟨_, 0, vss.length, by rw [hml, ← hvl]; rfl, by omega, .inr List.mem_cons_self, hml2, hrow, ?_⟩⟩, hml, fun j hj => (hall j hj).up sub_frz⟩
      show 0 + ms.length * 22 ≤ mulS vss.length 22
      rw [mulS_eq]; omega
    · rintro i e' S2 - ⟨⟨J, c', ms, hs, rfl, hml, hrow, hml2, hall⟩, hi, hsl⟩
      refine W.slots _ hsl fun e => ?_
      by_cases hlt : i < ml.length
      · have hac := hel i hlt
        have htm : (ml.getD i dL).2.1.length < 5 := h5 _ (by rw [List.getD_eq_getElem?_getD, List.getElem?_eq_getElem hlt]; exact List.getElem_mem hlt)
        obtain ⟨l, hl⟩ : ∃ l, vss.getD i [] = l := ⟨_, rfl⟩
        rw [hl] at hac
        obtain ⟨A, hA⟩ : ∃ A, ml.getD i dL = A := ⟨_, rfl⟩
        rw [hA] at hac htm
        obtain ⟨tv, dv, rfl, ht, hd⟩ := hac.out
        have hil : i < vss.length := by omega
        have m0 : (bvs A.1 ++ [tv, dv]).length = 22 := by rw [List.length_append, hac.ok.bv]; rfl
        have hll : ((vss.getD i []).drop 0).take 22 = bvs A.1 ++ [tv, dv] := by rw [hl, List.drop_zero, List.take_of_length_le (by omega)]
        have hrd : ∀ a, Rd ⟨J, a :: ⟨cb, sz, T, c⟩ :: (R ++ G)⟩ x := fun a => .inr (List.mem_cons_of_mem _ (List.mem_cons_of_mem _ (List.mem_append_right _ hxG)))
        repeat (first | (refine QuG.keep ?_; refine QuG.elS cok hE (hrd _) rfl rfl rfl rfl elO0 hil (by decide) hll ?_) | (refine QuG.keep ?_; first | refine QuG.l1E cok 1 rfl rfl rfl rfl rfl (by first | exact Nat.le_of_ble_eq_true rfl | omega | (dsimp only; omega) | (simp only [addS_eq, mulS_eq]; omega)) (by assumption) ?_) | refine SeqS.go cok ?_ | refine And.intro (by omega) ?_ | (refine NatS.keep ?_; first | with_reducible refine NatS.nat ?_) | (refine CondS.keep ?_; first | refine CondS.d1 rfl (by omega) ?_))
        refine (vCopiedLog hac.ok (ht.up hs) (hd.mono hs (by simp)) htm).mono ?_
        rintro r ⟨J2, _⟩ hs2 ⟨tv2, dv2, rfl, rfl, ht2, hd2, o1, o2⟩
        replace hs2 : HL.Sub J J2 := hs2
        have hC : LgC J2 (bvs A.1 ++ [tv2, dv2]) A := ⟨hac.ok, _, _, rfl, ht2, hd2⟩
        have m1 : (bvs A.1 ++ [tv2, dv2]).length = 22 := by rw [List.length_append, hac.ok.bv]; rfl
        have m2 : ∀ u ∈ bvs A.1 ++ [tv2, dv2], one u = true := by
          intro u hu
          simp only [List.mem_append, List.mem_cons, List.not_mem_nil, or_false] at hu
          rcases hu with hu | rfl | rfl
          · exact one_bvs _ u hu
          · exact o1
          · exact o2
        repeat (first | refine And.intro (by omega) ?_ | (refine NatS.keep ?_; first | with_reducible refine NatS.nat ?_))
        refine OpG.keep ?_
        refine OpG.upS cok 0 (vs := bvs A.1 ++ [tv2, dv2]) rfl rfl rfl rfl rfl m1 m2 ?_ ?_
        · show addS 0 (mulS i 22) + 22 ≤ mulS vss.length 22
          rw [addS_eq, mulS_eq, mulS_eq]; omega
        repeat (first | refine SeqS.go cok ?_ | (refine ValS.keep ?_; first | (with_reducible refine ValS.kI64 ?_; first | (with_reducible refine ValS.addI64_L ?_ ?_ ; omega))))
        refine ⟨i + 1, Rel.same ⟨⟨J2, _, ms ++ [_], hs.trans hs2, rfl, by rw [List.length_append, hml]; rfl, row_cast (row_snoc hrow hml2 hml), ?_, ?_⟩, hlt, rfl, rfl, rfl, rfl, trivial⟩, by show ml.length - (i + 1) < ml.length - i; omega⟩
        · intro l hl
          rcases List.mem_append.1 hl with hl | hl
          · exact hml2 l hl
          · rw [List.mem_singleton.1 hl]; exact m1
        · intro j hj
          by_cases hj2 : j < i
          · rw [List.getD_eq_getElem?_getD, List.getElem?_append_left (by omega), ← List.getD_eq_getElem?_getD]; exact (hall j hj2).up hs2
          · obtain rfl : j = i := by omega
            rw [List.getD_eq_getElem?_getD, List.getElem?_append_right (by omega), hml, Nat.sub_self, hA]; exact hC
      · obtain rfl : i = ml.length := by omega
        repeat (first | refine SeqS.go cok ?_ | (refine CondS.keep ?_; first | refine CondS.d0 rfl (by omega) ?_))
        exact ⟨⟨J, c', ms, hs, rfl, hml, hrow, hml2, hall⟩, rfl, trivial⟩
end Go.Proofs.YgvafwGreat
