import Derived.Test.YgvafwGreatY16
set_option maxRecDepth 100000
set_option maxHeartbeats 4000000
set_option linter.unusedVariables false
set_option linter.unusedSimpArgs false
-- v2
-- v4
-- v5
namespace Go.Proofs.YgvafwGreat
open Go.HL Go.Proofs

abbrev dS : Nat × Nat := (0, 0)
/-- The slots with one set. -/
def storeS (k v : Nat) (laid : Bool) : List (Nat × Nat) → List (Nat × Nat)
  | [] => if laid then [] else [(k, v)]
  | s :: l => (if !laid && decide (k ≤ s.1) then [(k, v)] else []) ++ ((if s.1 = k then [] else [s]) ++ storeS k v (laid || decide (k ≤ s.1)) l)
theorem storeS_len (k v : Nat) : ∀ (l : List (Nat × Nat)) (laid : Bool), (storeS k v laid l).length ≤ l.length + 1 ∧ (laid = true → (storeS k v laid l).length ≤ l.length)
  | [], laid => by cases laid <;> simp [storeS]
  | x :: l, laid => by
    have ih := storeS_len k v l (laid || decide (k ≤ x.1))
    unfold storeS
    generalize decide (k ≤ x.1) = b at ih ⊢
    cases laid <;> cases b <;> by_cases he : x.1 = k <;> simp [he] at ih ⊢ <;> omega
theorem drop_consS {l : List (Nat × Nat)} {i : Nat} (h : i < l.length) : l.drop i = l.getD i dS :: l.drop (i + 1) := by
  rw [List.drop_eq_getElem_cons h, List.getD_eq_getElem?_getD, List.getElem?_eq_getElem h]; rfl
theorem perm_st {x y z : Ent} {G M : List Ent} : (x :: y :: z :: (G ++ M)).Perm (M ++ ((y :: x :: z :: G) ++ [])) := by
  rw [List.append_nil]
  refine List.Perm.trans ?_ List.perm_append_comm
  exact List.Perm.swap _ _ _
theorem yStoreZ {I : Ent → Prop} {G : List Ent} {wb sz k n : Nat} {T : TypeId} {c : Nat → Value} {al : List YA} {a : List Nat} {v u : Value} (hsz : 8 ≤ sz) (hN : AcctsI I (c 0) al) (hA : AdOk a) (hN2 : NatI I v k) (hN3 : NatI I u n) (hlen : al.length < 2 ^ 19) (hsl0 : (getA al a).slots.length < 2 ^ 18) (hn : n = 0) :
    CallG Hvaf.prog 359 #[ptr wb 0, bytesV a, v, u] ⟨I, ⟨wb, sz, T, c⟩ :: G⟩ fun r S' => ∃ J w, S' = ⟨J, ⟨wb, sz, T, upd c 0 w⟩ :: G⟩ ∧ AcctsI J w (putA { getA al a with slots := storeS k n true (getA al a).slots } al) := by
  have ha := hA.bv
  have hla := hA.len
  obtain ⟨ss, hss⟩ : ∃ ss, (getA al a).slots = ss := ⟨_, rfl⟩
  rw [hss] at hsl0 ⊢
  have hz := fun (G : List Ent) => yIsZero (G := G) hN3
  rw [show decide (n = 0) = true by simp; omega] at hz
  obtain ⟨ka, kn, kc, rfl⟩ := NatI.sform hN2
  obtain ⟨va, vn, vcp, rfl⟩ := NatI.sform hN3
  have hnew1 : ∀ x ∈ [Value.slice ka kn kc, Value.slice va vn vcp], one x = true := by intro x hx; simp at hx; rcases hx with rfl | rfl <;> rfl
  have hSn : SlotC I [.slice ka kn kc, .slice va vn vcp] (k, n) := ⟨_, _, rfl, hN2, hN3⟩
  refine CallG.start (C := mkC Hvaf.prog) cok (args := [ptr wb 0, bytesV a, .slice ka kn kc, .slice va vn vcp]) Hvaf.func359 rfl Hvaf.ntmps359 (by simp) (by kernel_rfl) ?_
  intro b5
  repeat (first | (refine QuG.keep ?_; first | refine QuG.boxL cok 0 rfl rfl rfl rfl rfl (by assumption) ?_) | refine SeqS.go cok ?_)
  refine CallG.focus 1 rfl ?_
  refine (yAccount hsz hN hA (by omega)).mono ?_
  rintro r _ - ⟨rfl, l, rfl, hac⟩
  have h24 := hac.len
  have honel := hac.one
  obtain ⟨nv, bv, cv, sv, g0, g1, g2, g3, n1, n2, n3, n4⟩ := hac.get
  rw [hss] at n4
  obtain ⟨vss, hR, hvl, hel0⟩ := n4.out
  obtain ⟨ad, cap, rfl⟩ := hR.form
  intro b8
  repeat (first | (refine OpG.keep ?_; first | refine OpG.upS cok 0 rfl rfl rfl rfl rfl (by assumption) (by first | assumption | exact one_bvs _) (by first | exact Nat.le_of_ble_eq_true rfl | omega) ?_) | refine SeqS.go cok ?_)
  refine (hz _).mono ?_
  rintro r _ - ⟨rfl, rfl⟩
  repeat (first | (refine QuG.keep ?_; first | refine QuG.upC cok 0 rfl rfl rfl rfl rfl rfl (by first | exact Nat.le_of_ble_eq_true rfl | omega) (by first | exact Nat.le_of_ble_eq_true rfl | omega) (by assumption) ?_) | refine SeqS.go cok ?_)
  refine W.loopF cok (by kernel_rfl) 0 (fun (p : Nat × Bool × List (Nat × Nat) × List (List Value) × Value × List Ent) e' S' => S' = ⟨I, ⟨b8, 24, 121, HL.updN z121 0 l⟩ :: ⟨wb, sz, T, c⟩ :: ⟨b5, (bvs a).length, 31, vc (bytesV a)⟩ :: (G ++ p.2.2.2.2.2)⟩ ∧ p.1 ≤ ss.length ∧ OwnL 125 2 p.2.2.2.2.1 p.2.2.2.1 p.2.2.2.2.2 ∧ L2 (SlotC I) dS p.2.2.2.1 p.2.2.1 ∧ p.2.2.1 ++ storeS k n p.2.1 (ss.drop p.1) = storeS k n true ss ∧
      slots [(0, ptr wb 0), (2, .slice ka kn kc), (3, .slice va vn vcp), (8, ptr b8 0), (9, p.2.2.2.2.1), (10, .bool p.2.1), (20, .slice ad vss.length cap), (21, .int .i64 (vss.length : Nat)), (22, .int .i64 (p.1 : Nat))] e') (fun p => ss.length - p.1) (0, true, [], [], .slice none 0 0, [])
    (Rel.perm (⟨b8, 24, 121, HL.updN z121 0 l⟩ :: ⟨wb, sz, T, c⟩ :: ⟨b5, (bvs a).length, 31, vc (bytesV a)⟩ :: (G ++ [])) [] (by (rw [List.append_nil, List.append_nil]; try exact List.Perm.refl _)) ⟨rfl, Nat.zero_le _, OwnL.nil _ _, L2.nil _ _, rfl, rfl, rfl, rfl, rfl, rfl, rfl, rfl, rfl, rfl, trivial⟩)
    (fun e' S' => ∃ laid out vo w M, S' = ⟨I, ⟨b8, 24, 121, HL.updN z121 0 l⟩ :: ⟨wb, sz, T, c⟩ :: ⟨b5, (bvs a).length, 31, vc (bytesV a)⟩ :: (G ++ M)⟩ ∧ OwnL 125 2 w vo M ∧ L2 (SlotC I) dS vo out ∧ out ++ (if laid then [] else [(k, n)]) = storeS k n true ss ∧ slots [(0, ptr wb 0), (2, .slice ka kn kc), (3, .slice va vn vcp), (8, ptr b8 0), (9, w), (10, .bool laid)] e') ?_ ?_
  · rintro e' S2 - ⟨laid, out, vo, w, M, rfl, hO, hL, hout, hsl⟩
    refine SeqS.slots cok _ hsl fun e => ?_
    have hol := congrArg List.length hout
    have hpl := (storeS_len k n ss true).1
    have hvo := hL.len
    rw [List.length_append] at hol
    cases laid
    · repeat (first | refine SeqS.go cok ?_ | refine CondS.t rfl ?_ | refine And.intro (fillOk_of (Eq.refl true)) ?_ | refine And.intro (Eq.refl true) ?_ | refine And.intro (by dsimp only; omega) ?_)
      intro tb
      skip
      refine OpG.keep ?_
      refine OpG.app1 cok (L := _ :: _ :: _ :: G) (M := M) (vss := vo) (el := [.slice ka kn kc, .slice va vn vcp]) rfl rfl rfl rfl rfl rfl rfl rfl rfl ?_ ?_ ?_ ?_ ?_ ?_
      · exact hO
      · exact Row.updN2 _ 0 _
      · exact rfl
      · exact hnew1
      · (try simp only [List.length_append, List.length_singleton]); omega
      intro w' M' hO'
      have hone' := hO'.one
      have hSl : SlotsI (fun x => I x ∨ x ∈ M') w' (storeS k n true ss) := by
        rw [← hout]
        have h2 := (hL.mono fun _ _ h => SlotC.up h sub_frz).snoc (SlotC.up hSn (sub_frz (Z := M')))
        exact ⟨_, hO'.row (fun x hx => .inr hx), h2.len, h2.at'⟩
      have hac2 := (hac.up (sub_frz (Z := M'))).setSlots hSl
      have h24b := hac2.len
      repeat (first | (refine OpG.keep ?_; first | refine OpG.upF cok 0 rfl rfl rfl rfl rfl rfl (by first | exact Nat.le_of_ble_eq_true rfl | omega) (by first | exact Nat.le_of_ble_eq_true rfl | omega) rfl (by first | rfl | assumption) ?_) | (refine QuG.keep ?_; first | refine QuG.upL cok 0 rfl rfl rfl rfl rfl rfl (by assumption) (by first | exact Nat.le_of_ble_eq_true rfl | omega) ?_) | refine SeqS.go cok ?_)
      refine CallG.rel ⟨[], M', ⟨wb, sz, T, c⟩ :: ⟨b8, 24, 121, HL.updN z121 0 (l.set 23 w')⟩ :: ⟨b5, (bvs a).length, 31, vc (bytesV a)⟩ :: G, _, perm_st, fun _ => .rfl, ?_⟩
      refine (yPut hsz (hN.up sub_frz) hac2 hlen).mono ?_
      rintro r _ hs ⟨J, w2, rfl, hw⟩
      skip
      exact Fin.drop1 _ G [_, _] ⟨J, w2, rfl, hw⟩
    · have hone' := hO.one
      have hSl : SlotsI (fun x => I x ∨ x ∈ M) w (storeS k n true ss) := by
        rw [← hout, if_pos rfl, List.append_nil]
        have h2 := hL.mono fun _ _ h => SlotC.up h (sub_frz (Z := M))
        exact ⟨_, hO.row (fun x hx => .inr hx), h2.len, h2.at'⟩
      have hac2 := (hac.up (sub_frz (Z := M))).setSlots hSl
      have h24b := hac2.len
      repeat (first | (refine OpG.keep ?_; first | refine OpG.upF cok 0 rfl rfl rfl rfl rfl rfl (by first | exact Nat.le_of_ble_eq_true rfl | omega) (by first | exact Nat.le_of_ble_eq_true rfl | omega) rfl (by first | rfl | assumption) ?_) | (refine QuG.keep ?_; first | refine QuG.upL cok 0 rfl rfl rfl rfl rfl rfl (by assumption) (by first | exact Nat.le_of_ble_eq_true rfl | omega) ?_) | refine SeqS.go cok ?_ | refine CondS.f rfl ?_)
      refine CallG.rel ⟨[], M, ⟨wb, sz, T, c⟩ :: ⟨b8, 24, 121, HL.updN z121 0 (l.set 23 w)⟩ :: ⟨b5, (bvs a).length, 31, vc (bytesV a)⟩ :: G, _, perm_st, fun _ => .rfl, ?_⟩
      refine (yPut hsz (hN.up sub_frz) hac2 hlen).mono ?_
      rintro r _ hs ⟨J, w2, rfl, hw⟩
      skip
      exact Fin.drop1 _ G [_, _] ⟨J, w2, rfl, hw⟩
  · rintro ⟨i, laid, out, vo, w, M⟩ e' S2 - ⟨hSt, hi, hO, hL, hout, hsl⟩
    dsimp only at hSt hi hO hL hout hsl
    subst hSt
    refine W.slots _ hsl fun e => ?_
    have hol := congrArg List.length hout
    have hpl := (storeS_len k n ss true).1
    have hvo := hL.len
    rw [List.length_append] at hol
    by_cases hlt : i < ss.length
    · obtain ⟨x, o, rfl, hx, hE⟩ := hR.some (by omega)
      have hsc := hel0 i hlt
      obtain ⟨tx, htx⟩ : ∃ tx, ss.getD i (0, 0) = tx := ⟨_, rfl⟩
      rw [drop_consS hlt, show ss.getD i dS = tx from htx] at hout
      rw [htx] at hsc
      obtain ⟨kv, vv, hel, m1, m2⟩ := hsc
      have hsc : SlotC I [kv, vv] tx := ⟨kv, vv, rfl, m1, m2⟩
      have hrd : ∀ G, Rd ⟨I, G⟩ x := fun _ => .inl hx
      have o1 := NatI.isl m1
      have o2 := NatI.isl m2
      have hone : ∀ x ∈ [kv, vv], one x = true := by intro x hx; simp at hx; rcases hx with rfl | rfl <;> assumption
      have hln : [kv, vv].length = 2 := rfl
      rw [storeS] at hout
      rcases Nat.lt_trichotomy tx.1 k with h | h | h
      · rw [decide_eq_false (show ¬ k ≤ tx.1 by omega), if_neg (show ¬ tx.1 = k by omega)] at hout
        cases laid
        · -- below: kept
          repeat (first | (refine QuG.keep ?_; first | refine QuG.elE cok _ (by assumption) (by first | assumption | exact ‹∀ G, Rd ⟨_, G⟩ _› _) (by assumption) rfl rfl rfl rfl rfl (by omega) ?_) | refine SeqS.go cok ?_ | refine And.intro (by omega) ?_ | (refine NatS.keep ?_; first | with_reducible refine NatS.nat ?_) | (refine CondS.keep ?_; first | refine CondS.d1 rfl (by omega) ?_))
          intro b12
          repeat (first | (refine OpG.keep ?_; first | refine OpG.upS cok 0 rfl rfl rfl rfl rfl (by assumption) (by first | assumption | exact one_bvs _) (by first | exact Nat.le_of_ble_eq_true rfl | omega) ?_) | refine SeqS.go cok ?_ | (refine QuG.keep ?_; first | refine QuG.l1 cok 0 rfl rfl rfl rfl rfl (by first | exact Nat.le_of_ble_eq_true rfl | omega | (dsimp only; omega) | (simp only [addS_eq, mulS_eq]; omega)) ?_))
          refine (nCmpL m1 hN2 h).mono ?_
          rintro r _ - ⟨rfl, rfl⟩
          repeat (first | (refine QuG.keep ?_; first | refine QuG.upL cok 0 rfl rfl rfl rfl rfl rfl (by assumption) (by first | exact Nat.le_of_ble_eq_true rfl | omega) ?_) | refine And.intro ⟨⟨by assumption, Nat.le_of_ble_eq_true rfl⟩, trivial⟩ ?_ | refine SeqS.go cok ?_ | refine GuardS.yes rfl ?_ | refine CondS.t rfl ?_ | refine CondS.f rfl ?_ | refine And.intro (by dsimp only; omega) ?_)
          intro tb2
          skip
          refine OpG.keep ?_
          refine OpG.app1 cok (L := _ :: _ :: _ :: _ :: G) (M := M) (vss := vo) (el := [kv, vv]) rfl rfl rfl rfl rfl rfl rfl rfl rfl ?_ ?_ ?_ ?_ ?_ ?_
          · exact hO
          · exact Row.updN2 _ 0 _
          · exact rfl
          · exact hone
          · (try simp only [List.length_append, List.length_singleton]); omega
          intro w' M' hO'
          repeat (first | refine SeqS.go cok ?_ | (refine ValS.keep ?_; first | (with_reducible refine ValS.kI64 ?_; first | (with_reducible refine ValS.addI64_L ?_ ?_ ; omega))))
          refine ⟨⟨i + 1, false, out ++ [tx], vo ++ [[kv, vv]], w', M'⟩, Rel.drop _ [_] ⟨rfl, hlt, hO', hL.snoc hsc, ?_, rfl, rfl, rfl, rfl, rfl, rfl, rfl, rfl, rfl, trivial⟩, by show ss.length - (i + 1) < ss.length - i; omega⟩
          rw [← hout, List.append_assoc]; rfl
        · skip
          repeat (first | (refine QuG.keep ?_; first | refine QuG.elE cok _ (by assumption) (by first | assumption | exact ‹∀ G, Rd ⟨_, G⟩ _› _) (by assumption) rfl rfl rfl rfl rfl (by omega) ?_) | refine SeqS.go cok ?_ | refine And.intro (by omega) ?_ | (refine NatS.keep ?_; first | with_reducible refine NatS.nat ?_) | (refine CondS.keep ?_; first | refine CondS.d1 rfl (by omega) ?_))
          intro b12
          repeat (first | (refine OpG.keep ?_; first | refine OpG.upS cok 0 rfl rfl rfl rfl rfl (by assumption) (by first | assumption | exact one_bvs _) (by first | exact Nat.le_of_ble_eq_true rfl | omega) ?_) | refine SeqS.go cok ?_ | (refine QuG.keep ?_; first | refine QuG.l1 cok 0 rfl rfl rfl rfl rfl (by first | exact Nat.le_of_ble_eq_true rfl | omega | (dsimp only; omega) | (simp only [addS_eq, mulS_eq]; omega)) ?_))
          refine (nCmpL m1 hN2 h).mono ?_
          rintro r _ - ⟨rfl, rfl⟩
          repeat (first | (refine QuG.keep ?_; first | refine QuG.upL cok 0 rfl rfl rfl rfl rfl rfl (by assumption) (by first | exact Nat.le_of_ble_eq_true rfl | omega) ?_) | refine And.intro ⟨⟨by assumption, Nat.le_of_ble_eq_true rfl⟩, trivial⟩ ?_ | refine SeqS.go cok ?_ | refine GuardS.no rfl ?_ | refine CondS.t rfl ?_ | refine CondS.f rfl ?_ | refine And.intro (by dsimp only; omega) ?_)
          intro tb2
          skip
          refine OpG.keep ?_
          refine OpG.app1 cok (L := _ :: _ :: _ :: _ :: G) (M := M) (vss := vo) (el := [kv, vv]) rfl rfl rfl rfl rfl rfl rfl rfl rfl ?_ ?_ ?_ ?_ ?_ ?_
          · exact hO
          · exact Row.updN2 _ 0 _
          · exact rfl
          · exact hone
          · (try simp only [List.length_append, List.length_singleton]); omega
          intro w' M' hO'
          repeat (first | refine SeqS.go cok ?_ | (refine ValS.keep ?_; first | (with_reducible refine ValS.kI64 ?_; first | (with_reducible refine ValS.addI64_L ?_ ?_ ; omega))))
          refine ⟨⟨i + 1, true, out ++ [tx], vo ++ [[kv, vv]], w', M'⟩, Rel.drop _ [_] ⟨rfl, hlt, hO', hL.snoc hsc, ?_, rfl, rfl, rfl, rfl, rfl, rfl, rfl, rfl, rfl, trivial⟩, by show ss.length - (i + 1) < ss.length - i; omega⟩
          rw [← hout, List.append_assoc]; rfl
      · rw [decide_eq_true (show k ≤ tx.1 by omega), if_pos h] at hout
        cases laid
        · skip
          repeat (first | (refine QuG.keep ?_; first | refine QuG.elE cok _ (by assumption) (by first | assumption | exact ‹∀ G, Rd ⟨_, G⟩ _› _) (by assumption) rfl rfl rfl rfl rfl (by omega) ?_) | refine SeqS.go cok ?_ | refine And.intro (by omega) ?_ | (refine NatS.keep ?_; first | with_reducible refine NatS.nat ?_) | (refine CondS.keep ?_; first | refine CondS.d1 rfl (by omega) ?_))
          intro b12
          repeat (first | (refine OpG.keep ?_; first | refine OpG.upS cok 0 rfl rfl rfl rfl rfl (by assumption) (by first | assumption | exact one_bvs _) (by first | exact Nat.le_of_ble_eq_true rfl | omega) ?_) | refine SeqS.go cok ?_ | (refine QuG.keep ?_; first | refine QuG.l1 cok 0 rfl rfl rfl rfl rfl (by first | exact Nat.le_of_ble_eq_true rfl | omega | (dsimp only; omega) | (simp only [addS_eq, mulS_eq]; omega)) ?_))
          refine (nCmpE m1 hN2 h).mono ?_
          rintro r _ - ⟨rfl, rfl⟩
          repeat (first | refine And.intro ⟨⟨by assumption, Nat.le_of_ble_eq_true rfl⟩, trivial⟩ ?_ | refine SeqS.go cok ?_ | refine GuardS.yes rfl ?_ | refine CondS.t rfl ?_ | refine And.intro (fillOk_of (Eq.refl true)) ?_ | refine And.intro (Eq.refl true) ?_ | refine And.intro (by dsimp only; omega) ?_)
          intro tb
          skip
          refine OpG.keep ?_
          refine OpG.app1 cok (L := _ :: _ :: _ :: _ :: G) (M := M) (vss := vo) (el := [.slice ka kn kc, .slice va vn vcp]) rfl rfl rfl rfl rfl rfl rfl rfl rfl ?_ ?_ ?_ ?_ ?_ ?_
          · exact hO
          · exact Row.updN2 _ 0 _
          · exact rfl
          · exact hnew1
          · (try simp only [List.length_append, List.length_singleton]); omega
          intro w' M' hO'
          repeat (first | refine SeqS.go cok ?_ | refine CondS.f rfl ?_ | (refine ValS.keep ?_; first | (with_reducible refine ValS.kI64 ?_; first | (with_reducible refine ValS.addI64_L ?_ ?_ ; omega))))
          refine ⟨⟨i + 1, true, out ++ [(k, n)], vo ++ [[.slice ka kn kc, .slice va vn vcp]], w', M'⟩, Rel.drop _ [_] ⟨rfl, hlt, hO', hL.snoc hSn, ?_, rfl, rfl, rfl, rfl, rfl, rfl, rfl, rfl, rfl, trivial⟩, by show ss.length - (i + 1) < ss.length - i; omega⟩
          rw [← hout, List.append_assoc]; rfl
        · skip
          repeat (first | (refine QuG.keep ?_; first | refine QuG.elE cok _ (by assumption) (by first | assumption | exact ‹∀ G, Rd ⟨_, G⟩ _› _) (by assumption) rfl rfl rfl rfl rfl (by omega) ?_) | refine SeqS.go cok ?_ | refine And.intro (by omega) ?_ | (refine NatS.keep ?_; first | with_reducible refine NatS.nat ?_) | (refine CondS.keep ?_; first | refine CondS.d1 rfl (by omega) ?_))
          intro b12
          repeat (first | (refine OpG.keep ?_; first | refine OpG.upS cok 0 rfl rfl rfl rfl rfl (by assumption) (by first | assumption | exact one_bvs _) (by first | exact Nat.le_of_ble_eq_true rfl | omega) ?_) | refine SeqS.go cok ?_ | (refine QuG.keep ?_; first | refine QuG.l1 cok 0 rfl rfl rfl rfl rfl (by first | exact Nat.le_of_ble_eq_true rfl | omega | (dsimp only; omega) | (simp only [addS_eq, mulS_eq]; omega)) ?_))
          refine (nCmpE m1 hN2 h).mono ?_
          rintro r _ - ⟨rfl, rfl⟩
          repeat (first | refine SeqS.go cok ?_ | refine GuardS.no rfl ?_ | refine CondS.f rfl ?_ | (refine ValS.keep ?_; first | (with_reducible refine ValS.kI64 ?_; first | (with_reducible refine ValS.addI64_L ?_ ?_ ; omega))))
          skip
          refine ⟨⟨i + 1, true, out, vo, w, M⟩, Rel.drop _ [_] ⟨rfl, hlt, hO, hL, ?_, rfl, rfl, rfl, rfl, rfl, rfl, rfl, rfl, rfl, trivial⟩, by show ss.length - (i + 1) < ss.length - i; omega⟩
          rw [← hout]; rfl
      · rw [decide_eq_true (show k ≤ tx.1 by omega), if_neg (show ¬ tx.1 = k by omega)] at hout
        cases laid
        · skip
          repeat (first | (refine QuG.keep ?_; first | refine QuG.elE cok _ (by assumption) (by first | assumption | exact ‹∀ G, Rd ⟨_, G⟩ _› _) (by assumption) rfl rfl rfl rfl rfl (by omega) ?_) | refine SeqS.go cok ?_ | refine And.intro (by omega) ?_ | (refine NatS.keep ?_; first | with_reducible refine NatS.nat ?_) | (refine CondS.keep ?_; first | refine CondS.d1 rfl (by omega) ?_))
          intro b12
          repeat (first | (refine OpG.keep ?_; first | refine OpG.upS cok 0 rfl rfl rfl rfl rfl (by assumption) (by first | assumption | exact one_bvs _) (by first | exact Nat.le_of_ble_eq_true rfl | omega) ?_) | refine SeqS.go cok ?_ | (refine QuG.keep ?_; first | refine QuG.l1 cok 0 rfl rfl rfl rfl rfl (by first | exact Nat.le_of_ble_eq_true rfl | omega | (dsimp only; omega) | (simp only [addS_eq, mulS_eq]; omega)) ?_))
          refine (nCmpG m1 hN2 h).mono ?_
          rintro r _ - ⟨rfl, rfl⟩
          repeat (first | refine And.intro ⟨⟨by assumption, Nat.le_of_ble_eq_true rfl⟩, trivial⟩ ?_ | refine SeqS.go cok ?_ | refine GuardS.yes rfl ?_ | refine CondS.t rfl ?_ | refine And.intro (fillOk_of (Eq.refl true)) ?_ | refine And.intro (Eq.refl true) ?_ | refine And.intro (by dsimp only; omega) ?_)
          intro tb
          skip
          refine OpG.keep ?_
          refine OpG.app1 cok (L := _ :: _ :: _ :: _ :: G) (M := M) (vss := vo) (el := [.slice ka kn kc, .slice va vn vcp]) rfl rfl rfl rfl rfl rfl rfl rfl rfl ?_ ?_ ?_ ?_ ?_ ?_
          · exact hO
          · exact Row.updN2 _ 0 _
          · exact rfl
          · exact hnew1
          · (try simp only [List.length_append, List.length_singleton]); omega
          intro w' M' hO'
          repeat (first | (refine QuG.keep ?_; first | refine QuG.upL cok 0 rfl rfl rfl rfl rfl rfl (by assumption) (by first | exact Nat.le_of_ble_eq_true rfl | omega) ?_) | refine And.intro ⟨⟨by assumption, Nat.le_of_ble_eq_true rfl⟩, trivial⟩ ?_ | refine SeqS.go cok ?_ | refine CondS.t rfl ?_ | refine And.intro (by dsimp only; omega) ?_)
          intro tb2
          skip
          refine OpG.keep ?_
          refine OpG.app1 cok (L := _ :: _ :: _ :: _ :: G) (M := M') (vss := vo ++ [[.slice ka kn kc, .slice va vn vcp]]) (el := [kv, vv]) rfl rfl rfl rfl rfl rfl rfl rfl rfl ?_ ?_ ?_ ?_ ?_ ?_
          · exact hO'
          · exact Row.updN2 _ 0 _
          · exact rfl
          · exact hone
          · (try simp only [List.length_append, List.length_singleton]); omega
          intro w2 M2 hO2
          repeat (first | refine SeqS.go cok ?_ | (refine ValS.keep ?_; first | (with_reducible refine ValS.kI64 ?_; first | (with_reducible refine ValS.addI64_L ?_ ?_ ; omega))))
          refine ⟨⟨i + 1, true, out ++ [(k, n)] ++ [tx], vo ++ [[.slice ka kn kc, .slice va vn vcp]] ++ [[kv, vv]], w2, M2⟩, Rel.drop _ [_] ⟨rfl, hlt, hO2, (hL.snoc hSn).snoc hsc, ?_, rfl, rfl, rfl, rfl, rfl, rfl, rfl, rfl, rfl, trivial⟩, by show ss.length - (i + 1) < ss.length - i; omega⟩
          rw [← hout, List.append_assoc, List.append_assoc]; rfl
        · skip
          repeat (first | (refine QuG.keep ?_; first | refine QuG.elE cok _ (by assumption) (by first | assumption | exact ‹∀ G, Rd ⟨_, G⟩ _› _) (by assumption) rfl rfl rfl rfl rfl (by omega) ?_) | refine SeqS.go cok ?_ | refine And.intro (by omega) ?_ | (refine NatS.keep ?_; first | with_reducible refine NatS.nat ?_) | (refine CondS.keep ?_; first | refine CondS.d1 rfl (by omega) ?_))
          intro b12
          repeat (first | (refine OpG.keep ?_; first | refine OpG.upS cok 0 rfl rfl rfl rfl rfl (by assumption) (by first | assumption | exact one_bvs _) (by first | exact Nat.le_of_ble_eq_true rfl | omega) ?_) | refine SeqS.go cok ?_ | (refine QuG.keep ?_; first | refine QuG.l1 cok 0 rfl rfl rfl rfl rfl (by first | exact Nat.le_of_ble_eq_true rfl | omega | (dsimp only; omega) | (simp only [addS_eq, mulS_eq]; omega)) ?_))
          refine (nCmpG m1 hN2 h).mono ?_
          rintro r _ - ⟨rfl, rfl⟩
          repeat (first | (refine QuG.keep ?_; first | refine QuG.upL cok 0 rfl rfl rfl rfl rfl rfl (by assumption) (by first | exact Nat.le_of_ble_eq_true rfl | omega) ?_) | refine And.intro ⟨⟨by assumption, Nat.le_of_ble_eq_true rfl⟩, trivial⟩ ?_ | refine SeqS.go cok ?_ | refine GuardS.no rfl ?_ | refine CondS.t rfl ?_ | refine CondS.f rfl ?_ | refine And.intro (by dsimp only; omega) ?_)
          intro tb2
          skip
          refine OpG.keep ?_
          refine OpG.app1 cok (L := _ :: _ :: _ :: _ :: G) (M := M) (vss := vo) (el := [kv, vv]) rfl rfl rfl rfl rfl rfl rfl rfl rfl ?_ ?_ ?_ ?_ ?_ ?_
          · exact hO
          · exact Row.updN2 _ 0 _
          · exact rfl
          · exact hone
          · (try simp only [List.length_append, List.length_singleton]); omega
          intro w' M' hO'
          repeat (first | refine SeqS.go cok ?_ | (refine ValS.keep ?_; first | (with_reducible refine ValS.kI64 ?_; first | (with_reducible refine ValS.addI64_L ?_ ?_ ; omega))))
          refine ⟨⟨i + 1, true, out ++ [tx], vo ++ [[kv, vv]], w', M'⟩, Rel.drop _ [_] ⟨rfl, hlt, hO', hL.snoc hsc, ?_, rfl, rfl, rfl, rfl, rfl, rfl, rfl, rfl, rfl, trivial⟩, by show ss.length - (i + 1) < ss.length - i; omega⟩
          rw [← hout, List.append_assoc]; rfl
    · rw [List.drop_of_length_le (by omega)] at hout
      repeat (first | refine SeqS.go cok ?_ | (refine CondS.keep ?_; first | refine CondS.d0 rfl (by omega) ?_))
      exact ⟨laid, out, vo, w, M, rfl, hO, hL, hout, rfl, rfl, rfl, rfl, rfl, rfl, trivial⟩
theorem yStoreP {I : Ent → Prop} {G : List Ent} {wb sz k n : Nat} {T : TypeId} {c : Nat → Value} {al : List YA} {a : List Nat} {v u : Value} (hsz : 8 ≤ sz) (hN : AcctsI I (c 0) al) (hA : AdOk a) (hN2 : NatI I v k) (hN3 : NatI I u n) (hlen : al.length < 2 ^ 19) (hsl0 : (getA al a).slots.length < 2 ^ 18) (hn : 0 < n) :
    CallG Hvaf.prog 359 #[ptr wb 0, bytesV a, v, u] ⟨I, ⟨wb, sz, T, c⟩ :: G⟩ fun r S' => ∃ J w, S' = ⟨J, ⟨wb, sz, T, upd c 0 w⟩ :: G⟩ ∧ AcctsI J w (putA { getA al a with slots := storeS k n false (getA al a).slots } al) := by
  have ha := hA.bv
  have hla := hA.len
  obtain ⟨ss, hss⟩ : ∃ ss, (getA al a).slots = ss := ⟨_, rfl⟩
  rw [hss] at hsl0 ⊢
  have hz := fun (G : List Ent) => yIsZero (G := G) hN3
  rw [show decide (n = 0) = false by simp; omega] at hz
  obtain ⟨ka, kn, kc, rfl⟩ := NatI.sform hN2
  obtain ⟨va, vn, vcp, rfl⟩ := NatI.sform hN3
  have hnew1 : ∀ x ∈ [Value.slice ka kn kc, Value.slice va vn vcp], one x = true := by intro x hx; simp at hx; rcases hx with rfl | rfl <;> rfl
  have hSn : SlotC I [.slice ka kn kc, .slice va vn vcp] (k, n) := ⟨_, _, rfl, hN2, hN3⟩
  refine CallG.start (C := mkC Hvaf.prog) cok (args := [ptr wb 0, bytesV a, .slice ka kn kc, .slice va vn vcp]) Hvaf.func359 rfl Hvaf.ntmps359 (by simp) (by kernel_rfl) ?_
  intro b5
  repeat (first | (refine QuG.keep ?_; first | refine QuG.boxL cok 0 rfl rfl rfl rfl rfl (by assumption) ?_) | refine SeqS.go cok ?_)
  refine CallG.focus 1 rfl ?_
  refine (yAccount hsz hN hA (by omega)).mono ?_
  rintro r _ - ⟨rfl, l, rfl, hac⟩
  have h24 := hac.len
  have honel := hac.one
  obtain ⟨nv, bv, cv, sv, g0, g1, g2, g3, n1, n2, n3, n4⟩ := hac.get
  rw [hss] at n4
  obtain ⟨vss, hR, hvl, hel0⟩ := n4.out
  obtain ⟨ad, cap, rfl⟩ := hR.form
  intro b8
  repeat (first | (refine OpG.keep ?_; first | refine OpG.upS cok 0 rfl rfl rfl rfl rfl (by assumption) (by first | assumption | exact one_bvs _) (by first | exact Nat.le_of_ble_eq_true rfl | omega) ?_) | refine SeqS.go cok ?_)
  refine (hz _).mono ?_
  rintro r _ - ⟨rfl, rfl⟩
  repeat (first | (refine QuG.keep ?_; first | refine QuG.upC cok 0 rfl rfl rfl rfl rfl rfl (by first | exact Nat.le_of_ble_eq_true rfl | omega) (by first | exact Nat.le_of_ble_eq_true rfl | omega) (by assumption) ?_) | refine SeqS.go cok ?_)
  refine W.loopF cok (by kernel_rfl) 0 (fun (p : Nat × Bool × List (Nat × Nat) × List (List Value) × Value × List Ent) e' S' => S' = ⟨I, ⟨b8, 24, 121, HL.updN z121 0 l⟩ :: ⟨wb, sz, T, c⟩ :: ⟨b5, (bvs a).length, 31, vc (bytesV a)⟩ :: (G ++ p.2.2.2.2.2)⟩ ∧ p.1 ≤ ss.length ∧ OwnL 125 2 p.2.2.2.2.1 p.2.2.2.1 p.2.2.2.2.2 ∧ L2 (SlotC I) dS p.2.2.2.1 p.2.2.1 ∧ p.2.2.1 ++ storeS k n p.2.1 (ss.drop p.1) = storeS k n false ss ∧
      slots [(0, ptr wb 0), (2, .slice ka kn kc), (3, .slice va vn vcp), (8, ptr b8 0), (9, p.2.2.2.2.1), (10, .bool p.2.1), (20, .slice ad vss.length cap), (21, .int .i64 (vss.length : Nat)), (22, .int .i64 (p.1 : Nat))] e') (fun p => ss.length - p.1) (0, false, [], [], .slice none 0 0, [])
    (Rel.perm (⟨b8, 24, 121, HL.updN z121 0 l⟩ :: ⟨wb, sz, T, c⟩ :: ⟨b5, (bvs a).length, 31, vc (bytesV a)⟩ :: (G ++ [])) [] (by (rw [List.append_nil, List.append_nil]; try exact List.Perm.refl _)) ⟨rfl, Nat.zero_le _, OwnL.nil _ _, L2.nil _ _, rfl, rfl, rfl, rfl, rfl, rfl, rfl, rfl, rfl, rfl, trivial⟩)
    (fun e' S' => ∃ laid out vo w M, S' = ⟨I, ⟨b8, 24, 121, HL.updN z121 0 l⟩ :: ⟨wb, sz, T, c⟩ :: ⟨b5, (bvs a).length, 31, vc (bytesV a)⟩ :: (G ++ M)⟩ ∧ OwnL 125 2 w vo M ∧ L2 (SlotC I) dS vo out ∧ out ++ (if laid then [] else [(k, n)]) = storeS k n false ss ∧ slots [(0, ptr wb 0), (2, .slice ka kn kc), (3, .slice va vn vcp), (8, ptr b8 0), (9, w), (10, .bool laid)] e') ?_ ?_
  · rintro e' S2 - ⟨laid, out, vo, w, M, rfl, hO, hL, hout, hsl⟩
    refine SeqS.slots cok _ hsl fun e => ?_
    have hol := congrArg List.length hout
    have hpl := (storeS_len k n ss false).1
    have hvo := hL.len
    rw [List.length_append] at hol
    cases laid
    · repeat (first | refine SeqS.go cok ?_ | refine CondS.t rfl ?_ | refine And.intro (fillOk_of (Eq.refl true)) ?_ | refine And.intro (Eq.refl true) ?_ | refine And.intro (by dsimp only; omega) ?_)
      intro tb
      skip
      refine OpG.keep ?_
      refine OpG.app1 cok (L := _ :: _ :: _ :: G) (M := M) (vss := vo) (el := [.slice ka kn kc, .slice va vn vcp]) rfl rfl rfl rfl rfl rfl rfl rfl rfl ?_ ?_ ?_ ?_ ?_ ?_
      · exact hO
      · exact Row.updN2 _ 0 _
      · exact rfl
      · exact hnew1
      · (try simp only [List.length_append, List.length_singleton]); omega
      intro w' M' hO'
      have hone' := hO'.one
      have hSl : SlotsI (fun x => I x ∨ x ∈ M') w' (storeS k n false ss) := by
        rw [← hout]
        have h2 := (hL.mono fun _ _ h => SlotC.up h sub_frz).snoc (SlotC.up hSn (sub_frz (Z := M')))
        exact ⟨_, hO'.row (fun x hx => .inr hx), h2.len, h2.at'⟩
      have hac2 := (hac.up (sub_frz (Z := M'))).setSlots hSl
      have h24b := hac2.len
      repeat (first | (refine OpG.keep ?_; first | refine OpG.upF cok 0 rfl rfl rfl rfl rfl rfl (by first | exact Nat.le_of_ble_eq_true rfl | omega) (by first | exact Nat.le_of_ble_eq_true rfl | omega) rfl (by first | rfl | assumption) ?_) | (refine QuG.keep ?_; first | refine QuG.upL cok 0 rfl rfl rfl rfl rfl rfl (by assumption) (by first | exact Nat.le_of_ble_eq_true rfl | omega) ?_) | refine SeqS.go cok ?_)
      refine CallG.rel ⟨[], M', ⟨wb, sz, T, c⟩ :: ⟨b8, 24, 121, HL.updN z121 0 (l.set 23 w')⟩ :: ⟨b5, (bvs a).length, 31, vc (bytesV a)⟩ :: G, _, perm_st, fun _ => .rfl, ?_⟩
      refine (yPut hsz (hN.up sub_frz) hac2 hlen).mono ?_
      rintro r _ hs ⟨J, w2, rfl, hw⟩
      skip
      exact Fin.drop1 _ G [_, _] ⟨J, w2, rfl, hw⟩
    · have hone' := hO.one
      have hSl : SlotsI (fun x => I x ∨ x ∈ M) w (storeS k n false ss) := by
        rw [← hout, if_pos rfl, List.append_nil]
        have h2 := hL.mono fun _ _ h => SlotC.up h (sub_frz (Z := M))
        exact ⟨_, hO.row (fun x hx => .inr hx), h2.len, h2.at'⟩
      have hac2 := (hac.up (sub_frz (Z := M))).setSlots hSl
      have h24b := hac2.len
      repeat (first | (refine OpG.keep ?_; first | refine OpG.upF cok 0 rfl rfl rfl rfl rfl rfl (by first | exact Nat.le_of_ble_eq_true rfl | omega) (by first | exact Nat.le_of_ble_eq_true rfl | omega) rfl (by first | rfl | assumption) ?_) | (refine QuG.keep ?_; first | refine QuG.upL cok 0 rfl rfl rfl rfl rfl rfl (by assumption) (by first | exact Nat.le_of_ble_eq_true rfl | omega) ?_) | refine SeqS.go cok ?_ | refine CondS.f rfl ?_)
      refine CallG.rel ⟨[], M, ⟨wb, sz, T, c⟩ :: ⟨b8, 24, 121, HL.updN z121 0 (l.set 23 w)⟩ :: ⟨b5, (bvs a).length, 31, vc (bytesV a)⟩ :: G, _, perm_st, fun _ => .rfl, ?_⟩
      refine (yPut hsz (hN.up sub_frz) hac2 hlen).mono ?_
      rintro r _ hs ⟨J, w2, rfl, hw⟩
      skip
      exact Fin.drop1 _ G [_, _] ⟨J, w2, rfl, hw⟩
  · rintro ⟨i, laid, out, vo, w, M⟩ e' S2 - ⟨hSt, hi, hO, hL, hout, hsl⟩
    dsimp only at hSt hi hO hL hout hsl
    subst hSt
    refine W.slots _ hsl fun e => ?_
    have hol := congrArg List.length hout
    have hpl := (storeS_len k n ss false).1
    have hvo := hL.len
    rw [List.length_append] at hol
    by_cases hlt : i < ss.length
    · obtain ⟨x, o, rfl, hx, hE⟩ := hR.some (by omega)
      have hsc := hel0 i hlt
      obtain ⟨tx, htx⟩ : ∃ tx, ss.getD i (0, 0) = tx := ⟨_, rfl⟩
      rw [drop_consS hlt, show ss.getD i dS = tx from htx] at hout
      rw [htx] at hsc
      obtain ⟨kv, vv, hel, m1, m2⟩ := hsc
      have hsc : SlotC I [kv, vv] tx := ⟨kv, vv, rfl, m1, m2⟩
      have hrd : ∀ G, Rd ⟨I, G⟩ x := fun _ => .inl hx
      have o1 := NatI.isl m1
      have o2 := NatI.isl m2
      have hone : ∀ x ∈ [kv, vv], one x = true := by intro x hx; simp at hx; rcases hx with rfl | rfl <;> assumption
      have hln : [kv, vv].length = 2 := rfl
      rw [storeS] at hout
      rcases Nat.lt_trichotomy tx.1 k with h | h | h
      · rw [decide_eq_false (show ¬ k ≤ tx.1 by omega), if_neg (show ¬ tx.1 = k by omega)] at hout
        cases laid
        · -- below: kept
          repeat (first | (refine QuG.keep ?_; first | refine QuG.elE cok _ (by assumption) (by first | assumption | exact ‹∀ G, Rd ⟨_, G⟩ _› _) (by assumption) rfl rfl rfl rfl rfl (by omega) ?_) | refine SeqS.go cok ?_ | refine And.intro (by omega) ?_ | (refine NatS.keep ?_; first | with_reducible refine NatS.nat ?_) | (refine CondS.keep ?_; first | refine CondS.d1 rfl (by omega) ?_))
          intro b12
          repeat (first | (refine OpG.keep ?_; first | refine OpG.upS cok 0 rfl rfl rfl rfl rfl (by assumption) (by first | assumption | exact one_bvs _) (by first | exact Nat.le_of_ble_eq_true rfl | omega) ?_) | refine SeqS.go cok ?_ | (refine QuG.keep ?_; first | refine QuG.l1 cok 0 rfl rfl rfl rfl rfl (by first | exact Nat.le_of_ble_eq_true rfl | omega | (dsimp only; omega) | (simp only [addS_eq, mulS_eq]; omega)) ?_))
          refine (nCmpL m1 hN2 h).mono ?_
          rintro r _ - ⟨rfl, rfl⟩
          repeat (first | (refine QuG.keep ?_; first | refine QuG.upL cok 0 rfl rfl rfl rfl rfl rfl (by assumption) (by first | exact Nat.le_of_ble_eq_true rfl | omega) ?_) | refine And.intro ⟨⟨by assumption, Nat.le_of_ble_eq_true rfl⟩, trivial⟩ ?_ | refine SeqS.go cok ?_ | refine GuardS.yes rfl ?_ | refine CondS.t rfl ?_ | refine CondS.f rfl ?_ | refine And.intro (by dsimp only; omega) ?_)
          intro tb2
          skip
          refine OpG.keep ?_
          refine OpG.app1 cok (L := _ :: _ :: _ :: _ :: G) (M := M) (vss := vo) (el := [kv, vv]) rfl rfl rfl rfl rfl rfl rfl rfl rfl ?_ ?_ ?_ ?_ ?_ ?_
          · exact hO
          · exact Row.updN2 _ 0 _
          · exact rfl
          · exact hone
          · (try simp only [List.length_append, List.length_singleton]); omega
          intro w' M' hO'
          repeat (first | refine SeqS.go cok ?_ | (refine ValS.keep ?_; first | (with_reducible refine ValS.kI64 ?_; first | (with_reducible refine ValS.addI64_L ?_ ?_ ; omega))))
          refine ⟨⟨i + 1, false, out ++ [tx], vo ++ [[kv, vv]], w', M'⟩, Rel.drop _ [_] ⟨rfl, hlt, hO', hL.snoc hsc, ?_, rfl, rfl, rfl, rfl, rfl, rfl, rfl, rfl, rfl, trivial⟩, by show ss.length - (i + 1) < ss.length - i; omega⟩
          rw [← hout, List.append_assoc]; rfl
        · skip
          repeat (first | (refine QuG.keep ?_; first | refine QuG.elE cok _ (by assumption) (by first | assumption | exact ‹∀ G, Rd ⟨_, G⟩ _› _) (by assumption) rfl rfl rfl rfl rfl (by omega) ?_) | refine SeqS.go cok ?_ | refine And.intro (by omega) ?_ | (refine NatS.keep ?_; first | with_reducible refine NatS.nat ?_) | (refine CondS.keep ?_; first | refine CondS.d1 rfl (by omega) ?_))
          intro b12
          repeat (first | (refine OpG.keep ?_; first | refine OpG.upS cok 0 rfl rfl rfl rfl rfl (by assumption) (by first | assumption | exact one_bvs _) (by first | exact Nat.le_of_ble_eq_true rfl | omega) ?_) | refine SeqS.go cok ?_ | (refine QuG.keep ?_; first | refine QuG.l1 cok 0 rfl rfl rfl rfl rfl (by first | exact Nat.le_of_ble_eq_true rfl | omega | (dsimp only; omega) | (simp only [addS_eq, mulS_eq]; omega)) ?_))
          refine (nCmpL m1 hN2 h).mono ?_
          rintro r _ - ⟨rfl, rfl⟩
          repeat (first | (refine QuG.keep ?_; first | refine QuG.upL cok 0 rfl rfl rfl rfl rfl rfl (by assumption) (by first | exact Nat.le_of_ble_eq_true rfl | omega) ?_) | refine And.intro ⟨⟨by assumption, Nat.le_of_ble_eq_true rfl⟩, trivial⟩ ?_ | refine SeqS.go cok ?_ | refine GuardS.no rfl ?_ | refine CondS.t rfl ?_ | refine CondS.f rfl ?_ | refine And.intro (by dsimp only; omega) ?_)
          intro tb2
          skip
          refine OpG.keep ?_
          refine OpG.app1 cok (L := _ :: _ :: _ :: _ :: G) (M := M) (vss := vo) (el := [kv, vv]) rfl rfl rfl rfl rfl rfl rfl rfl rfl ?_ ?_ ?_ ?_ ?_ ?_
          · exact hO
          · exact Row.updN2 _ 0 _
          · exact rfl
          · exact hone
          · (try simp only [List.length_append, List.length_singleton]); omega
          intro w' M' hO'
          repeat (first | refine SeqS.go cok ?_ | (refine ValS.keep ?_; first | (with_reducible refine ValS.kI64 ?_; first | (with_reducible refine ValS.addI64_L ?_ ?_ ; omega))))
          refine ⟨⟨i + 1, true, out ++ [tx], vo ++ [[kv, vv]], w', M'⟩, Rel.drop _ [_] ⟨rfl, hlt, hO', hL.snoc hsc, ?_, rfl, rfl, rfl, rfl, rfl, rfl, rfl, rfl, rfl, trivial⟩, by show ss.length - (i + 1) < ss.length - i; omega⟩
          rw [← hout, List.append_assoc]; rfl
      · rw [decide_eq_true (show k ≤ tx.1 by omega), if_pos h] at hout
        cases laid
        · skip
          repeat (first | (refine QuG.keep ?_; first | refine QuG.elE cok _ (by assumption) (by first | assumption | exact ‹∀ G, Rd ⟨_, G⟩ _› _) (by assumption) rfl rfl rfl rfl rfl (by omega) ?_) | refine SeqS.go cok ?_ | refine And.intro (by omega) ?_ | (refine NatS.keep ?_; first | with_reducible refine NatS.nat ?_) | (refine CondS.keep ?_; first | refine CondS.d1 rfl (by omega) ?_))
          intro b12
          repeat (first | (refine OpG.keep ?_; first | refine OpG.upS cok 0 rfl rfl rfl rfl rfl (by assumption) (by first | assumption | exact one_bvs _) (by first | exact Nat.le_of_ble_eq_true rfl | omega) ?_) | refine SeqS.go cok ?_ | (refine QuG.keep ?_; first | refine QuG.l1 cok 0 rfl rfl rfl rfl rfl (by first | exact Nat.le_of_ble_eq_true rfl | omega | (dsimp only; omega) | (simp only [addS_eq, mulS_eq]; omega)) ?_))
          refine (nCmpE m1 hN2 h).mono ?_
          rintro r _ - ⟨rfl, rfl⟩
          repeat (first | refine And.intro ⟨⟨by assumption, Nat.le_of_ble_eq_true rfl⟩, trivial⟩ ?_ | refine SeqS.go cok ?_ | refine GuardS.yes rfl ?_ | refine CondS.t rfl ?_ | refine And.intro (fillOk_of (Eq.refl true)) ?_ | refine And.intro (Eq.refl true) ?_ | refine And.intro (by dsimp only; omega) ?_)
          intro tb
          skip
          refine OpG.keep ?_
          refine OpG.app1 cok (L := _ :: _ :: _ :: _ :: G) (M := M) (vss := vo) (el := [.slice ka kn kc, .slice va vn vcp]) rfl rfl rfl rfl rfl rfl rfl rfl rfl ?_ ?_ ?_ ?_ ?_ ?_
          · exact hO
          · exact Row.updN2 _ 0 _
          · exact rfl
          · exact hnew1
          · (try simp only [List.length_append, List.length_singleton]); omega
          intro w' M' hO'
          repeat (first | refine SeqS.go cok ?_ | refine CondS.f rfl ?_ | (refine ValS.keep ?_; first | (with_reducible refine ValS.kI64 ?_; first | (with_reducible refine ValS.addI64_L ?_ ?_ ; omega))))
          refine ⟨⟨i + 1, true, out ++ [(k, n)], vo ++ [[.slice ka kn kc, .slice va vn vcp]], w', M'⟩, Rel.drop _ [_] ⟨rfl, hlt, hO', hL.snoc hSn, ?_, rfl, rfl, rfl, rfl, rfl, rfl, rfl, rfl, rfl, trivial⟩, by show ss.length - (i + 1) < ss.length - i; omega⟩
          rw [← hout, List.append_assoc]; rfl
        · skip
          repeat (first | (refine QuG.keep ?_; first | refine QuG.elE cok _ (by assumption) (by first | assumption | exact ‹∀ G, Rd ⟨_, G⟩ _› _) (by assumption) rfl rfl rfl rfl rfl (by omega) ?_) | refine SeqS.go cok ?_ | refine And.intro (by omega) ?_ | (refine NatS.keep ?_; first | with_reducible refine NatS.nat ?_) | (refine CondS.keep ?_; first | refine CondS.d1 rfl (by omega) ?_))
          intro b12
          repeat (first | (refine OpG.keep ?_; first | refine OpG.upS cok 0 rfl rfl rfl rfl rfl (by assumption) (by first | assumption | exact one_bvs _) (by first | exact Nat.le_of_ble_eq_true rfl | omega) ?_) | refine SeqS.go cok ?_ | (refine QuG.keep ?_; first | refine QuG.l1 cok 0 rfl rfl rfl rfl rfl (by first | exact Nat.le_of_ble_eq_true rfl | omega | (dsimp only; omega) | (simp only [addS_eq, mulS_eq]; omega)) ?_))
          refine (nCmpE m1 hN2 h).mono ?_
          rintro r _ - ⟨rfl, rfl⟩
          repeat (first | refine SeqS.go cok ?_ | refine GuardS.no rfl ?_ | refine CondS.f rfl ?_ | (refine ValS.keep ?_; first | (with_reducible refine ValS.kI64 ?_; first | (with_reducible refine ValS.addI64_L ?_ ?_ ; omega))))
          skip
          refine ⟨⟨i + 1, true, out, vo, w, M⟩, Rel.drop _ [_] ⟨rfl, hlt, hO, hL, ?_, rfl, rfl, rfl, rfl, rfl, rfl, rfl, rfl, rfl, trivial⟩, by show ss.length - (i + 1) < ss.length - i; omega⟩
          rw [← hout]; rfl
      · rw [decide_eq_true (show k ≤ tx.1 by omega), if_neg (show ¬ tx.1 = k by omega)] at hout
        cases laid
        · skip
          repeat (first | (refine QuG.keep ?_; first | refine QuG.elE cok _ (by assumption) (by first | assumption | exact ‹∀ G, Rd ⟨_, G⟩ _› _) (by assumption) rfl rfl rfl rfl rfl (by omega) ?_) | refine SeqS.go cok ?_ | refine And.intro (by omega) ?_ | (refine NatS.keep ?_; first | with_reducible refine NatS.nat ?_) | (refine CondS.keep ?_; first | refine CondS.d1 rfl (by omega) ?_))
          intro b12
          repeat (first | (refine OpG.keep ?_; first | refine OpG.upS cok 0 rfl rfl rfl rfl rfl (by assumption) (by first | assumption | exact one_bvs _) (by first | exact Nat.le_of_ble_eq_true rfl | omega) ?_) | refine SeqS.go cok ?_ | (refine QuG.keep ?_; first | refine QuG.l1 cok 0 rfl rfl rfl rfl rfl (by first | exact Nat.le_of_ble_eq_true rfl | omega | (dsimp only; omega) | (simp only [addS_eq, mulS_eq]; omega)) ?_))
          refine (nCmpG m1 hN2 h).mono ?_
          rintro r _ - ⟨rfl, rfl⟩
          repeat (first | refine And.intro ⟨⟨by assumption, Nat.le_of_ble_eq_true rfl⟩, trivial⟩ ?_ | refine SeqS.go cok ?_ | refine GuardS.yes rfl ?_ | refine CondS.t rfl ?_ | refine And.intro (fillOk_of (Eq.refl true)) ?_ | refine And.intro (Eq.refl true) ?_ | refine And.intro (by dsimp only; omega) ?_)
          intro tb
          skip
          refine OpG.keep ?_
          refine OpG.app1 cok (L := _ :: _ :: _ :: _ :: G) (M := M) (vss := vo) (el := [.slice ka kn kc, .slice va vn vcp]) rfl rfl rfl rfl rfl rfl rfl rfl rfl ?_ ?_ ?_ ?_ ?_ ?_
          · exact hO
          · exact Row.updN2 _ 0 _
          · exact rfl
          · exact hnew1
          · (try simp only [List.length_append, List.length_singleton]); omega
          intro w' M' hO'
          repeat (first | (refine QuG.keep ?_; first | refine QuG.upL cok 0 rfl rfl rfl rfl rfl rfl (by assumption) (by first | exact Nat.le_of_ble_eq_true rfl | omega) ?_) | refine And.intro ⟨⟨by assumption, Nat.le_of_ble_eq_true rfl⟩, trivial⟩ ?_ | refine SeqS.go cok ?_ | refine CondS.t rfl ?_ | refine And.intro (by dsimp only; omega) ?_)
          intro tb2
          skip
          refine OpG.keep ?_
          refine OpG.app1 cok (L := _ :: _ :: _ :: _ :: G) (M := M') (vss := vo ++ [[.slice ka kn kc, .slice va vn vcp]]) (el := [kv, vv]) rfl rfl rfl rfl rfl rfl rfl rfl rfl ?_ ?_ ?_ ?_ ?_ ?_
          · exact hO'
          · exact Row.updN2 _ 0 _
          · exact rfl
          · exact hone
          · (try simp only [List.length_append, List.length_singleton]); omega
          intro w2 M2 hO2
          repeat (first | refine SeqS.go cok ?_ | (refine ValS.keep ?_; first | (with_reducible refine ValS.kI64 ?_; first | (with_reducible refine ValS.addI64_L ?_ ?_ ; omega))))
          refine ⟨⟨i + 1, true, out ++ [(k, n)] ++ [tx], vo ++ [[.slice ka kn kc, .slice va vn vcp]] ++ [[kv, vv]], w2, M2⟩, Rel.drop _ [_] ⟨rfl, hlt, hO2, (hL.snoc hSn).snoc hsc, ?_, rfl, rfl, rfl, rfl, rfl, rfl, rfl, rfl, rfl, trivial⟩, by show ss.length - (i + 1) < ss.length - i; omega⟩
          rw [← hout, List.append_assoc, List.append_assoc]; rfl
        · skip
          repeat (first | (refine QuG.keep ?_; first | refine QuG.elE cok _ (by assumption) (by first | assumption | exact ‹∀ G, Rd ⟨_, G⟩ _› _) (by assumption) rfl rfl rfl rfl rfl (by omega) ?_) | refine SeqS.go cok ?_ | refine And.intro (by omega) ?_ | (refine NatS.keep ?_; first | with_reducible refine NatS.nat ?_) | (refine CondS.keep ?_; first | refine CondS.d1 rfl (by omega) ?_))
          intro b12
          repeat (first | (refine OpG.keep ?_; first | refine OpG.upS cok 0 rfl rfl rfl rfl rfl (by assumption) (by first | assumption | exact one_bvs _) (by first | exact Nat.le_of_ble_eq_true rfl | omega) ?_) | refine SeqS.go cok ?_ | (refine QuG.keep ?_; first | refine QuG.l1 cok 0 rfl rfl rfl rfl rfl (by first | exact Nat.le_of_ble_eq_true rfl | omega | (dsimp only; omega) | (simp only [addS_eq, mulS_eq]; omega)) ?_))
          refine (nCmpG m1 hN2 h).mono ?_
          rintro r _ - ⟨rfl, rfl⟩
          repeat (first | (refine QuG.keep ?_; first | refine QuG.upL cok 0 rfl rfl rfl rfl rfl rfl (by assumption) (by first | exact Nat.le_of_ble_eq_true rfl | omega) ?_) | refine And.intro ⟨⟨by assumption, Nat.le_of_ble_eq_true rfl⟩, trivial⟩ ?_ | refine SeqS.go cok ?_ | refine GuardS.no rfl ?_ | refine CondS.t rfl ?_ | refine CondS.f rfl ?_ | refine And.intro (by dsimp only; omega) ?_)
          intro tb2
          skip
          refine OpG.keep ?_
          refine OpG.app1 cok (L := _ :: _ :: _ :: _ :: G) (M := M) (vss := vo) (el := [kv, vv]) rfl rfl rfl rfl rfl rfl rfl rfl rfl ?_ ?_ ?_ ?_ ?_ ?_
          · exact hO
          · exact Row.updN2 _ 0 _
          · exact rfl
          · exact hone
          · (try simp only [List.length_append, List.length_singleton]); omega
          intro w' M' hO'
          repeat (first | refine SeqS.go cok ?_ | (refine ValS.keep ?_; first | (with_reducible refine ValS.kI64 ?_; first | (with_reducible refine ValS.addI64_L ?_ ?_ ; omega))))
          refine ⟨⟨i + 1, true, out ++ [tx], vo ++ [[kv, vv]], w', M'⟩, Rel.drop _ [_] ⟨rfl, hlt, hO', hL.snoc hsc, ?_, rfl, rfl, rfl, rfl, rfl, rfl, rfl, rfl, rfl, trivial⟩, by show ss.length - (i + 1) < ss.length - i; omega⟩
          rw [← hout, List.append_assoc]; rfl
    · rw [List.drop_of_length_le (by omega)] at hout
      repeat (first | refine SeqS.go cok ?_ | (refine CondS.keep ?_; first | refine CondS.d0 rfl (by omega) ?_))
      exact ⟨laid, out, vo, w, M, rfl, hO, hL, hout, rfl, rfl, rfl, rfl, rfl, rfl, trivial⟩
end Go.Proofs.YgvafwGreat
