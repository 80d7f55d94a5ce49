import Derived.Test.YgvafwGreatY78
import Derived.Test.YgvafwGreatL5
set_option exponentiation.threshold 1000
set_option maxRecDepth 100000
set_option maxHeartbeats 4000000
set_option linter.unusedVariables false
set_option linter.unusedSimpArgs false
-- v2
-- v4
-- v5
-- v6
-- v7
-- still: exact QuV.of (QuG.subL cok 0 rfl rfl rfl rfl rfl rfl (by assumption) (by assumption) (by first | exact Nat.le_of_ble_eq_true rfl | omega) rfl)
-- still: exact QuV.of (QuG.upC cok 0 rfl rfl rfl rfl rfl rfl (by first | exact Nat.le_of_ble_eq_true rfl | omega) (by first | exact Nat.le_of_ble_eq_true rfl | omega) (by assumption) rfl)
namespace Go.Proofs.YgvafwGreat
open Go.HL Go.Proofs

/-- yp.wordsOf -/
theorem yWordsOf {I : Ent → Prop} {G : List Ent} {v : Value} {vss : List (List Value)} (hN : RowI I 32 v vss) (h1 : ∀ l ∈ vss, ∀ u ∈ l, one u = true) (hlen : vss.length < 2 ^ 20) :
    CallG Hvaf.prog 41 #[v] ⟨I, G⟩ fun r S' => S'.G = G ∧ RowI S'.I 32 r vss := by
  rcases hN.2 with ⟨rfl, rfl⟩ | ⟨x, o, cap, rfl, hc, hx, hE⟩
  · refine CallG.start (C := mkC Hvaf.prog) cok (args := [.slice none 0 0]) Hvaf.func41 rfl Hvaf.ntmps41 (by simp) (by kernel_rfl) ?_
    repeat (first | refine SeqS.go cok ?_ | refine CondS.t rfl ?_)
    exact Fin.same ⟨rfl, RowI.nil _ _⟩
  · have hfl := flat_len hN.1
    have hcell : cellsFrom x.c o (vss.length * 32) = vss.flatten := hE.row.cells hfl
    have hfit := hE.fit
    refine CallG.start (C := mkC Hvaf.prog) cok (args := [sl x.b o vss.length cap]) Hvaf.func41 rfl Hvaf.ntmps41 (by simp) (by kernel_rfl) ?_
    repeat (first | refine SeqS.go cok ?_ | refine CondS.f rfl ?_ | refine And.intro (by dsimp only; omega) ?_ | (refine NatS.keep ?_; first | with_reducible refine NatS.nat ?_))
    intro b
    repeat (first | refine SeqS.go cok ?_)
    refine OpG.keep ?_
    refine OpG.copy cok 0 rfl (y := x) (.inl hx) rfl rfl rfl rfl rfl rfl rfl ?_ ?_ ?_ ?_
    · show 0 + mulS (Nat.min vss.length vss.length) 32 ≤ mulS vss.length 32
      rw [show Nat.min vss.length vss.length = vss.length by simp]; omega
    · show o + mulS (Nat.min vss.length vss.length) 32 ≤ x.sz
      rw [show Nat.min vss.length vss.length = vss.length by simp, mulS_eq]; exact hfit
    · intro p hp
      have hp : p < mulS (Nat.min vss.length vss.length) 32 := hp
      rw [show Nat.min vss.length vss.length = vss.length by simp, mulS_eq] at hp
      rw [hE.row.get p (by rw [hfl]; exact hp), List.getD_eq_getElem?_getD, List.getElem?_eq_getElem (by rw [hfl]; exact hp)]
      exact flat_one h1 _ (List.getElem_mem _)
    repeat (first | refine SeqS.go cok ?_)
    refine Fin.frz [_] G ⟨rfl, hN.1, .inr ⟨_, 0, vss.length, rfl, Nat.le_refl _, .inr List.mem_cons_self, hN.1, ?_, ?_⟩⟩
    · show Row (updN _ 0 (cellsFrom x.c o (mulS (Nat.min vss.length vss.length) 32))) 0 vss.flatten
      rw [show Nat.min vss.length vss.length = vss.length by simp, mulS_eq, hcell]
      exact Row.updN2 _ 0 _
    · show 0 + vss.length * 32 ≤ mulS vss.length 32
      rw [mulS_eq]; omega
theorem row_snoc {c : Nat → Value} {k i : Nat} {ms : List (List Value)} {m : List Value} (hr : Row c 0 ms.flatten) (hl : ∀ l ∈ ms, l.length = k) (hi : ms.length = i) : Row (HL.updN c (i * k) m) 0 (ms ++ [m]).flatten := by
  have hf : ms.flatten.length = i * k := by rw [flat_len hl, hi]
  have he : (ms ++ [m]).flatten = ms.flatten ++ m := by simp
  rw [he]
  refine ⟨fun p hp => ?_⟩
  rw [List.length_append, hf] at hp
  rw [Nat.zero_add]
  simp only [HL.updN]
  by_cases h : p < i * k
  · rw [if_neg (by omega), List.getD_eq_getElem?_getD, List.getElem?_append_left (by omega), ← List.getD_eq_getElem?_getD]
    have := hr.get p (by omega)
    rw [Nat.zero_add] at this; exact this
  · rw [if_pos (by omega), List.getD_eq_getElem?_getD, List.getD_eq_getElem?_getD, List.getElem?_append_right (by omega), hf]
theorem row_cast {c : Nat → Value} {i : Nat} {m ls : List Value} (h : Row (HL.updN c (i * 22) m) 0 ls) : Row (HL.updN c (addS 0 (mulS i 22)) m) 0 ls := by
  rw [addS_eq, mulS_eq, Nat.zero_add]; exact h
theorem build_lg {a : List Nat} (h : AdOk a) {z : Nat → Value} {a1 a2 : Option Addr} {n1 n2 c1 c2 : Nat} : cellsFrom (fillC z [(0, 20, bytesV a), (20, 1, .slice a1 n1 c1), (21, 1, .slice a2 n2 c2)]) 0 22 = bvs a ++ [.slice a1 n1 c1, .slice a2 n2 c2] := by
  have e : fillC z [(0, 20, bytesV a), (20, 1, .slice a1 n1 c1), (21, 1, .slice a2 n2 c2)] = HL.upd (HL.upd (HL.updN z 0 (bvs a)) 20 (.slice a1 n1 c1)) 21 (.slice a2 n2 c2) := by
    show HL.updN (HL.updN (HL.updN z 0 (bvs a)) 20 [.slice a1 n1 c1]) 21 [.slice a2 n2 c2] = _
    rw [updN_1, updN_1]
  rw [e]
  apply List.ext_getElem?
  intro i
  by_cases hi : i < 22
  · rw [cellsFrom_get _ _ _ _ hi, Nat.zero_add]
    by_cases h20 : i < 20
    · rw [upd_ne (by omega), upd_ne (by omega)]
      simp only [HL.updN, Nat.zero_add, h.bv, Nat.zero_le, true_and, Nat.sub_zero]
      rw [if_pos h20, List.getElem?_append_left (by rw [h.bv]; exact h20), List.getD_eq_getElem?_getD, List.getElem?_eq_getElem (by rw [h.bv]; exact h20)]; rfl
    · rw [List.getElem?_append_right (by rw [h.bv]; omega), h.bv]
      have : i = 20 ∨ i = 21 := by omega
      rcases this with rfl | rfl
      · rfl
      · rfl
  · rw [List.getElem?_eq_none (by simp; omega), List.getElem?_eq_none (by simp [h.bv]; omega)]
/-- yp.logsOf -/
theorem yLogsOf {I : Ent → Prop} {G : List Ent} {v : Value} {ml : List LG} (hN : LogsI I v ml) (hlen : ml.length < 2 ^ 20) (htn : ∀ t ∈ ml, t.2.1.length < 2 ^ 20) :
    CallG Hvaf.prog 81 #[v] ⟨I, G⟩ fun r S' => S'.G = G ∧ LogsI S'.I r ml := by
  obtain ⟨vss, hR, hvl, hel⟩ := hN.out
  rcases hR.2 with ⟨rfl, rfl⟩ | ⟨x, o, cap, rfl, hc, hx, hE⟩
  · have e : ml = [] := List.eq_nil_of_length_eq_zero hvl.symm
    subst e
    refine yLogsNil.mono ?_
    rintro r _ - ⟨rfl, rfl⟩
    exact ⟨rfl, [], RowI.nil _ _, L2.nil _ _⟩
  · refine CallG.start (C := mkC Hvaf.prog) cok (args := [HL.sl x.b o vss.length cap]) Hvaf.func81 rfl Hvaf.ntmps81 (by simp) (by kernel_rfl) ?_
    repeat (first | refine SeqS.go cok ?_ | refine CondS.f rfl ?_ | refine And.intro (by dsimp only; omega) ?_ | (refine NatS.keep ?_; first | with_reducible refine NatS.nat ?_))
    intro ob
    repeat (first | refine SeqS.go cok ?_)
    refine W.loopF cok (by kernel_rfl) 0 (fun (i : Nat) e' S' => (∃ (J : Ent → Prop) (c : Nat → Value) (ms : List (List Value)), HL.Sub I J ∧ S' = ⟨J, ⟨ob, mulS vss.length 22, 141, c⟩ :: G⟩ ∧ ms.length = i ∧ Row c 0 ms.flatten ∧ (∀ l ∈ ms, l.length = 22) ∧ ∀ j, j < i → LgC J (ms.getD j []) (ml.getD j dL)) ∧ i ≤ ml.length ∧ slots [(3, HL.sl ob 0 vss.length vss.length), (11, HL.sl x.b o vss.length cap), (12, .int .i64 (vss.length : Nat)), (13, .int .i64 (i : Nat))] e') (fun i => ml.length - i) 0
      (Rel.same ⟨⟨I, _, [], fun _ h => h, rfl, rfl, ⟨fun i hi => absurd hi (by simp)⟩, by simp, by intro j hj; omega⟩, Nat.zero_le _, rfl, rfl, rfl, rfl, trivial⟩) (fun e' S' => (∃ (J : Ent → Prop) (c : Nat → Value) (ms : List (List Value)), HL.Sub I J ∧ S' = ⟨J, ⟨ob, mulS vss.length 22, 141, c⟩ :: G⟩ ∧ ms.length = ml.length ∧ Row c 0 ms.flatten ∧ (∀ l ∈ ms, l.length = 22) ∧ ∀ j, j < ml.length → LgC J (ms.getD j []) (ml.getD j dL)) ∧ slots [(3, HL.sl ob 0 vss.length vss.length)] e') ?_ ?_
    · rintro e' S2 - ⟨⟨J, c, ms, hs, rfl, hml, hrow, hml2, hall⟩, hsl⟩
      refine SeqS.slots cok _ hsl fun e => ?_
      repeat (first | refine SeqS.go cok ?_)
      refine Fin.frz [_] G ⟨rfl, ms, ⟨hml2, .inr ⟨_, 0, vss.length, by rw [hml, ← hvl]; rfl, by omega, .inr List.mem_cons_self, hml2, hrow, ?_⟩⟩, hml, fun j hj => (hall j hj).up sub_frz⟩
      show 0 + ms.length * 22 ≤ mulS vss.length 22
      rw [mulS_eq]; omega
    · rintro i e' S2 - ⟨⟨J, c, ms, hs, rfl, hml, hrow, hml2, hall⟩, hi, hsl⟩
      refine W.slots _ hsl fun e => ?_
      by_cases hlt : i < ml.length
      · have hac := hel i hlt
        have htm : (ml.getD i dL).2.1.length < 2 ^ 20 := htn _ (by rw [List.getD_eq_getElem?_getD, List.getElem?_eq_getElem hlt]; exact List.getElem_mem hlt)
        obtain ⟨l, hl⟩ : ∃ l, vss.getD i [] = l := ⟨_, rfl⟩
        rw [hl] at hac
        obtain ⟨A, hA⟩ : ∃ A, ml.getD i dL = A := ⟨_, rfl⟩
        rw [hA] at hac htm
        obtain ⟨ta, tn, da, dn, hF⟩ := hac.facts
        have hrd : ∀ G, Rd ⟨J, G⟩ x := fun _ => .inl (hs _ hx)
        have q1 := hF.len
        have q2 := hF.one
        have q3 := hF.ad
        have q4 := hF.c20
        have q5 := hF.c21
        have q6 := hac.ok.bv
        repeat (first | (refine QuG.keep ?_; first | refine QuG.elE cok _ (by assumption) (by first | assumption | exact ‹∀ G, Rd ⟨_, G⟩ _› _) (by assumption) rfl rfl rfl rfl rfl (by omega) ?_) | refine SeqS.go cok ?_ | refine And.intro (by omega) ?_ | (refine NatS.keep ?_; first | with_reducible refine NatS.nat ?_) | (refine CondS.keep ?_; first | refine CondS.d1 rfl (by omega) ?_))
        intro b5
        repeat (first | (refine QuG.keep ?_; first | refine QuG.subL cok 0 rfl rfl rfl rfl rfl rfl (by assumption) (by assumption) (by first | exact Nat.le_of_ble_eq_true rfl | omega) ?_ | refine QuG.upC cok 0 rfl rfl rfl rfl rfl rfl (by first | exact Nat.le_of_ble_eq_true rfl | omega) (by first | exact Nat.le_of_ble_eq_true rfl | omega) (by assumption) ?_) | (refine OpG.keep ?_; first | refine OpG.upS cok 0 rfl rfl rfl rfl rfl (by assumption) (by first | assumption | exact one_bvs _) (by first | exact Nat.le_of_ble_eq_true rfl | omega) ?_) | refine SeqS.go cok ?_ | refine W.drawI 7 cok [0, 0, 0, 4, 0, 16, 48, 0, 128, 496, 1020, 2047, 4095] [0, 1, 2, 3, 4, 5, 7, 8, 6, 9, 10, 11, 12] [3, 5, 8] (by kernel_rfl) (by kernel_rfl) ?_)
        refine callRS (yWordsOf (hF.tr.up hs) (fun l hl u hu => by
          obtain ⟨y, _, rfl⟩ := List.mem_map.1 hl
          exact one_bvs _ u hu) (by simpa using htm)) fun wa wc J2 hs2 hwN => ?_
        repeat (first | (refine still_in ?_; first | refine still_nil ?_ | refine still_drop (by decide) ?_ | (refine still_keep (by decide) rfl ?_ ?_; first | exact QuV.of (QuG.subL cok 0 rfl rfl rfl rfl rfl rfl (by assumption) (by assumption) (by first | exact Nat.le_of_ble_eq_true rfl | omega) rfl) | exact QuV.of (QuG.upC cok 0 rfl rfl rfl rfl rfl rfl (by first | exact Nat.le_of_ble_eq_true rfl | omega) (by first | exact Nat.le_of_ble_eq_true rfl | omega) (by assumption) rfl))))
        refine callBS (yBytesOf (Byt.ext (hF.db.mono (hs.trans hs2) (by simp)))) fun xa xc J3 hs3 hxN => ?_
        have hB := build_lg hac.ok (z := z141) (a1 := wa) (n1 := ((A.2.1.map be32).map bvs).length) (c1 := wc) (a2 := xa) (n2 := A.2.2.length) (c2 := xc)
        have hC : LgC J3 (bvs A.1 ++ [Value.slice wa ((A.2.1.map be32).map bvs).length wc, Value.slice xa A.2.2.length xc]) A := ⟨hac.ok, _, _, rfl, by
          have := hwN.up hs3
          rw [List.map_map] at this ⊢
          exact this, hxN⟩
        have m1 : (bvs A.1 ++ [Value.slice wa ((A.2.1.map be32).map bvs).length wc, Value.slice xa A.2.2.length xc]).length = 22 := by rw [List.length_append, q6]; rfl
        have m2 : ∀ u ∈ bvs A.1 ++ [Value.slice wa ((A.2.1.map be32).map bvs).length wc, Value.slice xa A.2.2.length xc], one u = true := by
          intro u hu
          simp only [List.mem_append, List.mem_cons, List.not_mem_nil, or_false] at hu
          rcases hu with hu | rfl | rfl
          · exact one_bvs _ u hu
          · rfl
          · rfl
        repeat (first | refine And.intro ⟨⟨by assumption, Nat.le_of_ble_eq_true rfl⟩, fillOk_of (Eq.refl true)⟩ ?_ | refine And.intro (Eq.refl true) ?_ | refine And.intro (by omega) ?_ | (refine NatS.keep ?_; first | with_reducible refine NatS.nat ?_) | (refine still_in ?_; first | refine still_drop (by decide) ?_ | (refine still_keep (by decide) rfl ?_ ?_; first | exact QuV.of (QuG.subL cok 0 rfl rfl rfl rfl rfl rfl (by assumption) (by assumption) (by first | exact Nat.le_of_ble_eq_true rfl | omega) rfl))))
        refine OpG.keep ?_
        refine OpG.upS cok 1 (vs := bvs A.1 ++ [Value.slice wa ((A.2.1.map be32).map bvs).length wc, Value.slice xa A.2.2.length xc]) rfl rfl rfl rfl ?_ m1 m2 ?_ ?_
        · exact congrArg (fun l => Value.agg l.toArray) hB
        · show addS 0 (mulS i 22) + 22 ≤ mulS vss.length 22
          rw [addS_eq, mulS_eq, mulS_eq]; omega
        repeat (first | refine SeqS.go cok ?_ | (refine ValS.keep ?_; first | (with_reducible refine ValS.kI64 ?_; first | (with_reducible refine ValS.addI64_L ?_ ?_ ; omega))) | (refine still_in ?_; first | refine still_drop (by decide) ?_))
        refine ⟨i + 1, Rel.drop _ [_] ⟨⟨J3, _, ms ++ [_], (hs.trans hs2).trans hs3, rfl, by rw [List.length_append, hml]; rfl, row_cast (row_snoc hrow hml2 hml), ?_, ?_⟩, hlt, rfl, rfl, rfl, rfl, trivial⟩, by show ml.length - (i + 1) < ml.length - i; omega⟩
        · intro l hl
          rcases List.mem_append.1 hl with hl | hl
          · exact hml2 l hl
          · rw [List.mem_singleton.1 hl]; exact m1
        · intro j hj
          by_cases hj2 : j < i
          · rw [List.getD_eq_getElem?_getD, List.getElem?_append_left (by omega), ← List.getD_eq_getElem?_getD]; exact (hall j hj2).up (hs2.trans hs3)
          · obtain rfl : j = i := by omega
            rw [List.getD_eq_getElem?_getD, List.getElem?_append_right (by omega), hml, Nat.sub_self, hA]; exact hC
      · obtain rfl : i = ml.length := by omega
        repeat (first | refine SeqS.go cok ?_ | (refine CondS.keep ?_; first | refine CondS.d0 rfl (by omega) ?_))
        exact ⟨⟨J, c, ms, hs, rfl, hml, hrow, hml2, hall⟩, rfl, trivial⟩
end Go.Proofs.YgvafwGreat
