import Derived.Test.YgvafwGreatY28
set_option maxRecDepth 100000
set_option maxHeartbeats 4000000
set_option linter.unusedVariables false
set_option linter.unusedSimpArgs false
-- v2
-- v4
-- v5
-- v6
-- v7
namespace Go.Proofs.YgvafwGreat
open Go.HL Go.Proofs

theorem perm_dc {x y z w : Ent} {G : List Ent} : (x :: y :: z :: w :: G).Perm ([] ++ ((x :: w :: G) ++ [y, z])) := by
  rw [List.nil_append, List.cons_append]
  refine List.Perm.cons _ ?_
  refine List.Perm.trans ?_ List.perm_append_comm
  exact List.Perm.refl _
theorem perm_dc2 {x y z w : Ent} {G : List Ent} : (y :: x :: z :: w :: G).Perm ([] ++ ((x :: w :: G) ++ [y, z])) := (List.Perm.swap _ _ _).trans perm_dc
/-- yp.State.destroyCost of an account without balance. -/
theorem yDestroyW {I : Ent → Prop} {G : List Ent} {sb ssz fb fsz : Nat} {Ts Tf : TypeId} {cs cf : Nat → Value} {al : List YA} {wl : List (List Nat)} {ns self a : List Nat} (hsz : 9 ≤ ssz) (hfz : 60 ≤ fsz) (hAc : AcctsI I (cs 0) al) (hW : RowI I 20 (cs 1) (wl.map bvs)) (hwl : ∀ x ∈ wl, AdOk x) (hK : StkI I (cf 8) ns) (hrow : Row cf 12 (bvs self)) (hA : AdOk self)
    (l1 : al.length < 2 ^ 19) (l2 : wl.length < 2 ^ 19) (l4 : ns.length < 2 ^ 30) (hbal : (getA al self).bal = 0) (ha : a = adN (argN ns 0)) (hm : a ∈ wl) :
    CallG Hvaf.prog 345 #[ptr sb 0, ptr fb 0] ⟨I, ⟨sb, ssz, Ts, cs⟩ :: ⟨fb, fsz, Tf, cf⟩ :: G⟩ fun r S' => ∃ J, S' = ⟨J, ⟨sb, ssz, Ts, cs⟩ :: ⟨fb, fsz, Tf, cf⟩ :: G⟩ ∧ NatI J r (5000) := by
  have hb20 := hA.bv
  have hl20 := hA.len
  have hT : AdOk a := by rw [ha]; exact adN_ok _
  have hbt := hT.bv
  have hlt := hT.len
  refine CallG.start (C := mkC Hvaf.prog) cok (args := [ptr sb 0, ptr fb 0]) Hvaf.func345 rfl Hvaf.ntmps345 (by simp) (by kernel_rfl) ?_
  repeat (first | refine SeqS.go cok ?_)
  refine callN (yNum (n := 5000) (by decide)) ?_
  intro rc I1 hs1 hNc
  repeat (first | refine SeqS.go cok ?_)
  refine CallG.focus 1 rfl ?_
  refine (yArg (i := 0) hfz (hK.up hs1) l4 (by decide)).mono ?_
  rintro kv _ - ⟨rfl, hk⟩
  skip
  refine (yAddrOf hk).mono ?_
  rw [show adN (if 0 < ns.length then ns.getD (ns.length - 1 - 0) 0 else 0) = a from ha.symm]
  rintro r _ - ⟨rfl, rfl⟩
  intro b6
  repeat (first | (refine QuG.keep ?_; first | refine QuG.upL cok 0 rfl rfl rfl rfl rfl rfl (by assumption) (by first | exact Nat.le_of_ble_eq_true rfl | omega) ?_) | (refine OpG.keep ?_; first | refine OpG.upS cok 0 rfl rfl rfl rfl rfl (by assumption) (by first | assumption | exact one_bvs _) (by first | exact Nat.le_of_ble_eq_true rfl | omega) ?_) | refine SeqS.go cok ?_ | refine W.drawI 3 cok [0, 1, 3, 0, 15, 31] [0, 1, 2, 3, 4, 5] [3] (by kernel_rfl) (by kernel_rfl) ?_)
  refine CallG.focus 2 rfl ?_
  have hiw := yIsWarm (I := I1) (G := ⟨b6, 20, 31, HL.updN z_int__u8_0 0 (bvs a)⟩ :: ⟨fb, fsz, Tf, cf⟩ :: G) (wb := sb) (sz := ssz) (T := Ts) (by omega) (hW.up hs1) hT hwl l2
  rw [decide_eq_true hm] at hiw
  refine (hiw).mono ?_
  rintro r _ - ⟨rfl, rfl⟩
  repeat (first | (refine QuG.keep ?_; first | refine QuG.upL cok 1 rfl rfl rfl rfl rfl rfl (by assumption) (by first | exact Nat.le_of_ble_eq_true rfl | omega) ?_) | refine SeqS.go cok ?_ | refine CondS.f rfl ?_ | (refine still_in ?_; first | refine still_drop (by decide) ?_) | refine W.drawI 5 cok [0, 1, 3, 0, 15, 0, 63] [0, 1, 2, 3, 4, 5, 6] [3] (by kernel_rfl) (by kernel_rfl) ?_)
  skip
  refine (yAccount (I := I1) (wb := sb) (sz := ssz) (T := Ts) (by omega) (hAc.up hs1) hT (by omega)).mono ?_
  rintro r _ - ⟨rfl, l, rfl, hac⟩
  have h24 := hac.len
  have hone := hac.one
  obtain ⟨nv, bv, cv, sv, g0, g1, g2, g3, n1, n2, n3, n4⟩ := hac.get
  have e0 : HL.updN z121 0 l 20 = nv := by rw [← g0]; exact updN_get (o := 0) (i := 20) (by omega)
  have e1 : HL.updN z121 0 l 21 = bv := by rw [← g1]; exact updN_get (o := 0) (i := 21) (by omega)
  have e2 : HL.updN z121 0 l 22 = cv := by rw [← g2]; exact updN_get (o := 0) (i := 22) (by omega)
  repeat (first | (refine still_in ?_; first | refine still_nil ?_ | refine still_drop (by decide) ?_))
  intro b7
  repeat (first | (refine OpG.keep ?_; first | refine OpG.upS cok 0 rfl rfl rfl rfl rfl (by assumption) (by first | assumption | exact one_bvs _) (by first | exact Nat.le_of_ble_eq_true rfl | omega) ?_) | refine SeqS.go cok ?_ | (refine still_in ?_; first | refine still_drop (by decide) ?_) | refine W.drawI 6 cok [0, 1, 3, 7, 15, 3, 35, 99, 227, 511, 1023, 2047, 4095, 8191] [0, 1, 2, 3, 4, 5, 6, 7, 8, 9, 10, 11, 12, 13] [8] (by kernel_rfl) (by kernel_rfl) ?_)
  have hem := yEmpty (I := I1) (G := ⟨sb, ssz, Ts, cs⟩ :: ⟨b6, 20, 31, HL.updN z_int__u8_0 0 (bvs a)⟩ :: ⟨fb, fsz, Tf, cf⟩ :: G) (b := b7) (sz := 24) (T := 121) (c := HL.updN z121 0 l) (by decide) (by rw [e0]; exact n1) (by rw [e1]; exact n2) (by rw [e2]; exact n3)
  generalize (decide ((getA al a).nonce = 0) && (decide ((getA al a).bal = 0) && decide ((getA al a).code.length = 0))) = em at hem
  cases em
  · refine (hem).mono ?_
    rintro r _ - ⟨rfl, rfl⟩
    repeat (first | refine SeqS.go cok ?_ | refine GuardS.no rfl ?_ | refine CondS.f rfl ?_)
    exact ⟨_, [], _, I1, perm_dc2, fun _ => by simp, I1, rfl, hNc⟩
  · refine (hem).mono ?_
    rintro r _ - ⟨rfl, rfl⟩
    repeat (first | (refine QuG.keep ?_; first | refine QuG.rowA cok 3 rfl rfl rfl rfl rfl (by assumption) (by assumption) (by first | exact Nat.le_of_ble_eq_true rfl | omega | (dsimp only; omega) | (simp only [addS_eq, mulS_eq]; omega)) ?_) | refine GuardS.yes rfl ?_)
    refine CallG.focus 1 rfl ?_
    refine (yAccount (I := I1) (wb := sb) (sz := ssz) (T := Ts) (by omega) (hAc.up hs1) hA (by omega)).mono ?_
    rintro r _ - ⟨rfl, l2, rfl, hac2⟩
    have h24b := hac2.len
    obtain ⟨nv2, bv2, cv2, sv2, q0, q1, q2, q3, o1, o2, o3, o4⟩ := hac2.get
    repeat (first | (refine QuG.keep ?_; first | refine QuG.fldE cok Hvaf.underlying121 rfl rfl rfl rfl (by first | omega | (simp; omega)) (by assumption) ?_) | refine GuardS.yes rfl ?_ | (refine still_in ?_; first | refine still_drop (by decide) ?_))
    refine (zT o2 hbal).mono ?_
    rintro r _ - ⟨rfl, rfl⟩
    repeat (first | refine SeqS.go cok ?_ | refine GuardS.yes rfl ?_ | refine CondS.f rfl ?_ | (refine still_in ?_; first | refine still_drop (by decide) ?_))
    exact ⟨_, [], _, I1, perm_dc, fun _ => by simp, I1, rfl, hNc⟩
/-- yp.State.destroyCost of an account without balance. -/
theorem yDestroyC {I : Ent → Prop} {G : List Ent} {sb ssz fb fsz : Nat} {Ts Tf : TypeId} {cs cf : Nat → Value} {al : List YA} {wl : List (List Nat)} {ns self a : List Nat} (hsz : 9 ≤ ssz) (hfz : 60 ≤ fsz) (hAc : AcctsI I (cs 0) al) (hW : RowI I 20 (cs 1) (wl.map bvs)) (hwl : ∀ x ∈ wl, AdOk x) (hK : StkI I (cf 8) ns) (hrow : Row cf 12 (bvs self)) (hA : AdOk self)
    (l1 : al.length < 2 ^ 19) (l2 : wl.length < 2 ^ 19) (l4 : ns.length < 2 ^ 30) (hbal : (getA al self).bal = 0) (ha : a = adN (argN ns 0)) (hm : a ∉ wl) :
    CallG Hvaf.prog 345 #[ptr sb 0, ptr fb 0] ⟨I, ⟨sb, ssz, Ts, cs⟩ :: ⟨fb, fsz, Tf, cf⟩ :: G⟩ fun r S' => ∃ J, S' = ⟨J, ⟨sb, ssz, Ts, cs⟩ :: ⟨fb, fsz, Tf, cf⟩ :: G⟩ ∧ NatI J r (5000 + 2600) := by
  have hb20 := hA.bv
  have hl20 := hA.len
  have hT : AdOk a := by rw [ha]; exact adN_ok _
  have hbt := hT.bv
  have hlt := hT.len
  refine CallG.start (C := mkC Hvaf.prog) cok (args := [ptr sb 0, ptr fb 0]) Hvaf.func345 rfl Hvaf.ntmps345 (by simp) (by kernel_rfl) ?_
  repeat (first | refine SeqS.go cok ?_)
  refine callN (yNum (n := 5000) (by decide)) ?_
  intro rc I1 hs1 hNc
  repeat (first | refine SeqS.go cok ?_)
  refine CallG.focus 1 rfl ?_
  refine (yArg (i := 0) hfz (hK.up hs1) l4 (by decide)).mono ?_
  rintro kv _ - ⟨rfl, hk⟩
  skip
  refine (yAddrOf hk).mono ?_
  rw [show adN (if 0 < ns.length then ns.getD (ns.length - 1 - 0) 0 else 0) = a from ha.symm]
  rintro r _ - ⟨rfl, rfl⟩
  intro b6
  repeat (first | (refine QuG.keep ?_; first | refine QuG.upL cok 0 rfl rfl rfl rfl rfl rfl (by assumption) (by first | exact Nat.le_of_ble_eq_true rfl | omega) ?_) | (refine OpG.keep ?_; first | refine OpG.upS cok 0 rfl rfl rfl rfl rfl (by assumption) (by first | assumption | exact one_bvs _) (by first | exact Nat.le_of_ble_eq_true rfl | omega) ?_) | refine SeqS.go cok ?_ | refine W.drawI 3 cok [0, 1, 3, 0, 15, 31] [0, 1, 2, 3, 4, 5] [3] (by kernel_rfl) (by kernel_rfl) ?_)
  refine CallG.focus 2 rfl ?_
  have hiw := yIsWarm (I := I1) (G := ⟨b6, 20, 31, HL.updN z_int__u8_0 0 (bvs a)⟩ :: ⟨fb, fsz, Tf, cf⟩ :: G) (wb := sb) (sz := ssz) (T := Ts) (by omega) (hW.up hs1) hT hwl l2
  rw [decide_eq_false hm] at hiw
  refine (hiw).mono ?_
  rintro r _ - ⟨rfl, rfl⟩
  repeat (first | refine SeqS.go cok ?_ | refine CondS.t rfl ?_ | (refine still_in ?_; first | refine still_drop (by decide) ?_))
  refine callN (yNum (n := 2600) (by decide)) ?_
  intro rd I2 hs2 hNd
  skip
  refine callN (nAdd (hNc.up hs2) hNd (by decide +kernel)) ?_
  intro re I3 hs3 hNe
  repeat (first | (refine QuG.keep ?_; first | refine QuG.upL cok 1 rfl rfl rfl rfl rfl rfl (by assumption) (by first | exact Nat.le_of_ble_eq_true rfl | omega) ?_) | refine SeqS.go cok ?_ | refine W.drawI 5 cok [0, 1, 3, 0, 15, 0, 63] [0, 1, 2, 3, 4, 5, 6] [3] (by kernel_rfl) (by kernel_rfl) ?_)
  refine (yAccount (I := I3) (wb := sb) (sz := ssz) (T := Ts) (by omega) (((hAc.up hs1).up hs2).up hs3) hT (by omega)).mono ?_
  rintro r _ - ⟨rfl, l, rfl, hac⟩
  have h24 := hac.len
  have hone := hac.one
  obtain ⟨nv, bv, cv, sv, g0, g1, g2, g3, n1, n2, n3, n4⟩ := hac.get
  have e0 : HL.updN z121 0 l 20 = nv := by rw [← g0]; exact updN_get (o := 0) (i := 20) (by omega)
  have e1 : HL.updN z121 0 l 21 = bv := by rw [← g1]; exact updN_get (o := 0) (i := 21) (by omega)
  have e2 : HL.updN z121 0 l 22 = cv := by rw [← g2]; exact updN_get (o := 0) (i := 22) (by omega)
  repeat (first | (refine still_in ?_; first | refine still_nil ?_ | refine still_drop (by decide) ?_))
  intro b7
  repeat (first | (refine OpG.keep ?_; first | refine OpG.upS cok 0 rfl rfl rfl rfl rfl (by assumption) (by first | assumption | exact one_bvs _) (by first | exact Nat.le_of_ble_eq_true rfl | omega) ?_) | refine SeqS.go cok ?_ | (refine still_in ?_; first | refine still_drop (by decide) ?_) | refine W.drawI 6 cok [0, 1, 3, 7, 15, 3, 35, 99, 227, 511, 1023, 2047, 4095, 8191] [0, 1, 2, 3, 4, 5, 6, 7, 8, 9, 10, 11, 12, 13] [8] (by kernel_rfl) (by kernel_rfl) ?_)
  have hem := yEmpty (I := I3) (G := ⟨sb, ssz, Ts, cs⟩ :: ⟨b6, 20, 31, HL.updN z_int__u8_0 0 (bvs a)⟩ :: ⟨fb, fsz, Tf, cf⟩ :: G) (b := b7) (sz := 24) (T := 121) (c := HL.updN z121 0 l) (by decide) (by rw [e0]; exact n1) (by rw [e1]; exact n2) (by rw [e2]; exact n3)
  generalize (decide ((getA al a).nonce = 0) && (decide ((getA al a).bal = 0) && decide ((getA al a).code.length = 0))) = em at hem
  cases em
  · refine (hem).mono ?_
    rintro r _ - ⟨rfl, rfl⟩
    repeat (first | refine SeqS.go cok ?_ | refine GuardS.no rfl ?_ | refine CondS.f rfl ?_)
    exact ⟨_, [], _, I3, perm_dc2, fun _ => by simp, I3, rfl, hNe⟩
  · refine (hem).mono ?_
    rintro r _ - ⟨rfl, rfl⟩
    repeat (first | (refine QuG.keep ?_; first | refine QuG.rowA cok 3 rfl rfl rfl rfl rfl (by assumption) (by assumption) (by first | exact Nat.le_of_ble_eq_true rfl | omega | (dsimp only; omega) | (simp only [addS_eq, mulS_eq]; omega)) ?_) | refine GuardS.yes rfl ?_)
    refine CallG.focus 1 rfl ?_
    refine (yAccount (I := I3) (wb := sb) (sz := ssz) (T := Ts) (by omega) (((hAc.up hs1).up hs2).up hs3) hA (by omega)).mono ?_
    rintro r _ - ⟨rfl, l2, rfl, hac2⟩
    have h24b := hac2.len
    obtain ⟨nv2, bv2, cv2, sv2, q0, q1, q2, q3, o1, o2, o3, o4⟩ := hac2.get
    repeat (first | (refine QuG.keep ?_; first | refine QuG.fldE cok Hvaf.underlying121 rfl rfl rfl rfl (by first | omega | (simp; omega)) (by assumption) ?_) | refine GuardS.yes rfl ?_ | (refine still_in ?_; first | refine still_drop (by decide) ?_))
    refine (zT o2 hbal).mono ?_
    rintro r _ - ⟨rfl, rfl⟩
    repeat (first | refine SeqS.go cok ?_ | refine GuardS.yes rfl ?_ | refine CondS.f rfl ?_ | (refine still_in ?_; first | refine still_drop (by decide) ?_))
    exact ⟨_, [], _, I3, perm_dc, fun _ => by simp, I3, rfl, hNe⟩
end Go.Proofs.YgvafwGreat
