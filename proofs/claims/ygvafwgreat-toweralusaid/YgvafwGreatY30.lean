import Derived.Test.YgvafwGreatY29
set_option maxRecDepth 100000
set_option maxHeartbeats 4000000
set_option linter.unusedVariables false
set_option linter.unusedSimpArgs false
-- v2
-- v4
-- v5
-- v6
-- v7
namespace Go.Proofs.YgvafwGreat
open Go.HL Go.Proofs

/-- yp.State.stores -/
theorem yStores {I : Ent → Prop} {G : List Ent} {sb ssz fb fsz rf k n : Nat} {Ts Tf : TypeId} {cs cf : Nat → Value} {al : List YA} {ml st : List TM} {ns self : List Nat} {kv nv : Value} {t : Nat × Nat × Nat} (hsz : 9 ≤ ssz) (hfz : 60 ≤ fsz) (hAc : AcctsI I (cs 0) al) (hMk : MarksI I (cs 2) ml) (hRf : NatI I (cs 3) rf) (hSt : TempsI I (cs 8) st) (hK : StkI I (cf 8) ns) (hrow : Row cf 12 (bvs self)) (hA : AdOk self)
    (l1 : al.length < 2 ^ 19) (l2 : ml.length < 2 ^ 18) (l3 : st.length < 2 ^ 19) (l4 : ns.length < 2 ^ 30) (l5 : (getA al self).slots.length < 2 ^ 18) (hNk : NatI I kv k) (hNn : NatI I nv n)
    (ht : t = sstN (valT (findT self (argN ns 0) st)) (loadS (getA al self).slots (argN ns 0)) (argN ns 1) (!(findT self (argN ns 0) ml).isSome)) (hm : t.2.2 ≤ rf) (hrb : rf + t.2.1 < NB) :
    CallG Hvaf.prog 245 #[ptr sb 0, ptr fb 0, kv, nv] ⟨I, ⟨sb, ssz, Ts, cs⟩ :: ⟨fb, fsz, Tf, cf⟩ :: G⟩ fun r S' => ∃ J w w2 w3, S' = ⟨J, ⟨sb, ssz, Ts, upd (upd (upd cs 3 w) 2 w2) 0 w3⟩ :: ⟨fb, fsz, Tf, cf⟩ :: G⟩ ∧ r = .bool true ∧ NatI J w (rf - t.2.2 + t.2.1) ∧
      MarksI J w2 (warmM (self, k, 0) ml) ∧ AcctsI J w3 (putA { getA al self with slots := storeS k n (decide (n = 0)) (getA al self).slots } al) := by
  have hb20 := hA.bv
  have hl20 := hA.len
  have hst := yStSstore (I := I) (G := G) (sb := sb) (fb := fb) (Ts := Ts) (Tf := Tf) hsz hfz hAc hMk hSt hK hrow hA l1 (by omega) l3 l4 (by omega)
  rw [← ht] at hst
  refine CallG.start (C := mkC Hvaf.prog) cok (args := [ptr sb 0, ptr fb 0, kv, nv]) Hvaf.func245 rfl Hvaf.ntmps245 (by simp) (by kernel_rfl) ?_
  repeat (first | refine SeqS.go cok ?_)
  refine hst.mono ?_
  rintro r _ hs0 ⟨J, c, p, m, rfl, rfl, h1, h2, h3⟩
  replace hs0 : HL.Sub I J := hs0
  repeat (first | refine SeqS.go cok ?_ | (refine QuG.keep ?_; first | refine QuG.l1 cok 0 rfl rfl rfl rfl rfl (by first | exact Nat.le_of_ble_eq_true rfl | omega | (dsimp only; omega) | (simp only [addS_eq, mulS_eq]; omega)) ?_))
  have hsub := nSub (G := ⟨sb, ssz, Ts, cs⟩ :: ⟨fb, fsz, Tf, cf⟩ :: G) (hRf.up hs0) h3
  rw [decide_eq_true hm] at hsub
  refine callS hsub fun w J2 hs2 hw => ?_
  repeat (first | refine SeqS.go cok ?_ | refine CondS.f rfl ?_)
  refine callN (nAdd hw (h2.up hs2) (by omega)) fun w' J3 hs3 hw' => ?_
  have ho := NatI.isl hw'
  repeat (first | (refine QuG.keep ?_; first | refine QuG.rowA cok 1 rfl rfl rfl rfl rfl (by assumption) (by assumption) (by first | exact Nat.le_of_ble_eq_true rfl | omega | (dsimp only; omega) | (simp only [addS_eq, mulS_eq]; omega)) ?_) | (refine OpG.keep ?_; first | refine OpG.s1 cok 0 rfl rfl rfl rfl rfl (by first | exact Nat.le_of_ble_eq_true rfl | omega | (dsimp only; omega) | (simp only [addS_eq, mulS_eq]; omega)) rfl (by assumption) ?_) | refine SeqS.go cok ?_ | refine W.drawI 6 cok [0, 1, 3, 0, 8, 24, 56, 0, 255] [0, 1, 2, 3, 4, 5, 6, 7, 8] [6] (by kernel_rfl) (by kernel_rfl) ?_)
  refine (yWarmSlot (I := J3) (wb := sb) (sz := ssz) (T := Ts) (c := upd cs 3 w') (G := ⟨fb, fsz, Tf, cf⟩ :: G) (by omega) (((hMk.up hs0).up hs2).up hs3) hA (((hNk.up hs0).up hs2).up hs3) l2).mono ?_
  rintro r _ hs4 ⟨J4, w2, rfl, hw2⟩
  replace hs4 : HL.Sub J3 J4 := hs4
  repeat (first | (refine QuG.keep ?_; first | refine QuG.rowA cok 1 rfl rfl rfl rfl rfl (by assumption) (by assumption) (by first | exact Nat.le_of_ble_eq_true rfl | omega | (dsimp only; omega) | (simp only [addS_eq, mulS_eq]; omega)) ?_) | refine SeqS.go cok ?_ | (refine still_in ?_; first | refine still_drop (by decide) ?_) | refine W.drawI 7 cok [0, 1, 3, 0, 8, 24, 56, 0, 0, 511] [0, 1, 2, 3, 4, 5, 6, 7, 8, 9] [6] (by kernel_rfl) (by kernel_rfl) ?_)
  refine (yStore (I := J4) (wb := sb) (sz := ssz) (T := Ts) (c := upd (upd cs 3 w') 2 w2) (G := ⟨fb, fsz, Tf, cf⟩ :: G) (by omega) ((((hAc.up hs0).up hs2).up hs3).up hs4) hA ((((hNk.up hs0).up hs2).up hs3).up hs4) ((((hNn.up hs0).up hs2).up hs3).up hs4) l1 l5).mono ?_
  rintro r _ hs5 ⟨J5, w3, rfl, hw3⟩
  replace hs5 : HL.Sub J4 J5 := hs5
  repeat (first | refine SeqS.go cok ?_ | (refine still_in ?_; first | refine still_drop (by decide) ?_))
  exact Fin.same ⟨J5, w', w2, w3, rfl, rfl, (hw'.up hs4).up hs5, hw2.up hs5, hw3⟩
end Go.Proofs.YgvafwGreat
