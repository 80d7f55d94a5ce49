import Derived.Test.YgvafwGreatY26
import Derived.Test.YgvafwGreatY27
set_option maxRecDepth 100000
set_option maxHeartbeats 4000000
set_option linter.unusedVariables false
set_option linter.unusedSimpArgs false
-- v2
-- v4
-- v5
-- v6
-- v7
namespace Go.HL
theorem QuG.rowA {C : Cfg} {e : Env} {S : St} {ty : TypeId} {q : Value → Prop} {t : TypeId} {a : Operand} {ti : TI} {b b' o sz : Nat} {T : TypeId} {c : Nat → Value} {vs : List Value} (hC : C.Ok) (k : Nat) (hx : S.G[k]? = some ⟨b, sz, T, c⟩) (hD : C.D t = some ti) (hk : isAggK ti = true) (ha : ev e a = ptr b' o) (hb : b = b') (hr : Row c o vs) (hl : vs.length = ti.size) (ho : o + ti.size ≤ sz) (h : q (.agg vs.toArray)) : QuG C.P (.load t a) ty e S q :=
  QuG.rowE hC (x := ⟨b, sz, T, c⟩) hr (.inr (List.mem_of_getElem? hx)) hD hk ha hb rfl hl ho h
end Go.HL
namespace Go.Proofs.YgvafwGreat
open Go.HL Go.Proofs

theorem callSst {P : Program} {f : FuncId} {args : Array Value} {I : Ent → Prop} {G : List Ent} {t : Nat × Nat × Nat} {K : Post} (h : CallG P f args ⟨I, G⟩ (SstP G t))
    (k : ∀ c p m J, Sub I J → NatI J c t.1 → NatI J p t.2.1 → NatI J m t.2.2 → K (.tuple #[c, p, m]) ⟨J, G⟩) : CallG P f args ⟨I, G⟩ K := by
  refine h.mono ?_
  rintro r ⟨J, G'⟩ hs ⟨h1, c, p, m, rfl, h2, h3, h4⟩
  dsimp only at h1 hs h2 h3 h4
  subst h1
  exact k c p m J hs h2 h3 h4
theorem _root_.Go.HL.CallG.args3 {P : Program} {f : FuncId} {S : St} {K : Post} {a b c a' b' c' : Value} (h1 : a = a') (h2 : b = b') (h3 : c = c') (k : CallG P f #[a', b', c'] S K) : CallG P f #[a, b, c] S K := by subst h1 h2 h3; exact k
def argN (ns : List Nat) (i : Nat) : Nat := if i < ns.length then ns.getD (ns.length - 1 - i) 0 else 0
def valT (o : Option TM) : Nat := (o.map (·.2.2)).getD 0
/-- yp.State.sstore -/
theorem yStSstore {I : Ent → Prop} {G : List Ent} {sb ssz fb fsz : Nat} {Ts Tf : TypeId} {cs cf : Nat → Value} {al : List YA} {ml st : List TM} {ns self : List Nat} (hsz : 9 ≤ ssz) (hfz : 60 ≤ fsz) (hAc : AcctsI I (cs 0) al) (hMk : MarksI I (cs 2) ml) (hSt : TempsI I (cs 8) st) (hK : StkI I (cf 8) ns) (hrow : Row cf 12 (bvs self)) (hA : AdOk self)
    (l1 : al.length < 2 ^ 19) (l2 : ml.length < 2 ^ 19) (l3 : st.length < 2 ^ 19) (l4 : ns.length < 2 ^ 30) (l5 : (getA al self).slots.length < 2 ^ 19) :
    CallG Hvaf.prog 344 #[ptr sb 0, ptr fb 0] ⟨I, ⟨sb, ssz, Ts, cs⟩ :: ⟨fb, fsz, Tf, cf⟩ :: G⟩ fun r S' => ∃ J c p m, S' = ⟨J, ⟨sb, ssz, Ts, cs⟩ :: ⟨fb, fsz, Tf, cf⟩ :: G⟩ ∧ r = .tuple #[c, p, m] ∧
      NatI J c (sstN (valT (findT self (argN ns 0) st)) (loadS (getA al self).slots (argN ns 0)) (argN ns 1) (!(findT self (argN ns 0) ml).isSome)).1 ∧ NatI J p (sstN (valT (findT self (argN ns 0) st)) (loadS (getA al self).slots (argN ns 0)) (argN ns 1) (!(findT self (argN ns 0) ml).isSome)).2.1 ∧
      NatI J m (sstN (valT (findT self (argN ns 0) st)) (loadS (getA al self).slots (argN ns 0)) (argN ns 1) (!(findT self (argN ns 0) ml).isSome)).2.2 := by
  have hb20 := hA.bv
  have hl20 := hA.len
  have a0 := fun (G : List Ent) => yArg (I := I) (G := G) (fb := fb) (T := Tf) (i := 0) hfz hK l4 (by decide)
  have a1 := fun (G : List Ent) => yArg (I := I) (G := G) (fb := fb) (T := Tf) (i := 1) hfz hK l4 (by decide)
  refine CallG.start (C := mkC Hvaf.prog) cok (args := [ptr sb 0, ptr fb 0]) Hvaf.func344 rfl Hvaf.ntmps344 (by simp) (by kernel_rfl) ?_
  repeat (first | refine SeqS.go cok ?_)
  refine CallG.focus 1 rfl ?_
  refine (a0 _).mono ?_
  rintro kv _ - ⟨rfl, hk⟩
  repeat (first | (refine QuG.keep ?_; first | refine QuG.rowA cok 0 rfl rfl rfl rfl rfl (by assumption) (by assumption) (by first | exact Nat.le_of_ble_eq_true rfl | omega | (dsimp only; omega) | (simp only [addS_eq, mulS_eq]; omega)) ?_) | refine SeqS.go cok ?_ | refine W.drawI 2 cok [0, 1, 3, 0, 8, 24, 56, 0, 255, 511, 1023] [0, 1, 2, 3, 4, 5, 6, 7, 8, 9, 10] [6] (by kernel_rfl) (by kernel_rfl) ?_)
  refine CallG.focus 1 rfl ?_
  refine (yIsWarmSlot (wb := sb) (T := Ts) (G := ⟨fb, fsz, Tf, cf⟩ :: G) (sz := ssz) (by omega) hMk hA hk l2).mono ?_
  rintro r _ - ⟨rfl, rfl⟩
  repeat (first | (refine QuG.keep ?_; first | refine QuG.rowA cok 1 rfl rfl rfl rfl rfl (by assumption) (by assumption) (by first | exact Nat.le_of_ble_eq_true rfl | omega | (dsimp only; omega) | (simp only [addS_eq, mulS_eq]; omega)) ?_) | refine SeqS.go cok ?_ | (refine still_in ?_; first | refine still_drop (by decide) ?_) | refine W.drawI 3 cok [0, 0, 2, 6, 14, 0, 63, 0, 128, 384, 0, 1024, 3072, 7168, 0, 32767, 0, 131071, 0, 524287, 1048575, 1048575, 1048575, 8388607, 16777215, 33554431] [0, 1, 2, 3, 4, 5, 7, 8, 9, 10, 11, 12, 13, 14, 16, 18, 6, 15, 17, 19, 20, 21, 22, 23, 24, 25] [4, 13] (by kernel_rfl) (by kernel_rfl) ?_)
  refine (yOrig hsz hSt hA hk l3).mono ?_
  rintro ov _ - ⟨rfl, ho⟩
  repeat (first | (refine still_in ?_; first | refine still_nil ?_ | refine still_drop (by decide) ?_ | (refine still_keep (by decide) rfl ?_ ?_; first | exact QuV.of (QuG.rowA cok 1 rfl rfl rfl rfl rfl (by assumption) (by assumption) (by first | exact Nat.le_of_ble_eq_true rfl | omega | (dsimp only; omega)) rfl))))
  refine (yLoad (sz := ssz) (by omega) hAc hA hk l1 l5).mono ?_
  rintro vv _ - ⟨rfl, hv⟩
  repeat (first | (refine still_in ?_; first | refine still_nil ?_ | refine still_drop (by decide) ?_))
  refine CallG.focus 1 rfl ?_
  refine (a1 _).mono ?_
  rintro nv _ - ⟨rfl, hn⟩
  repeat (first | (refine still_in ?_; first | refine still_nil ?_ | refine still_drop (by decide) ?_))
  refine callSst (ySstore ho hv hn) fun c p m J hs h1 h2 h3 => ?_
  repeat (first | refine SeqS.go cok ?_ | (refine still_in ?_; first | refine still_drop (by decide) ?_))
  exact Fin.focus 1 rfl (Fin.same ⟨J, c, p, m, rfl, rfl, h1, h2, h3⟩)
end Go.Proofs.YgvafwGreat
