import Derived.Test.YgvafwGreatHLy
import Derived.LoopN
set_option linter.unusedVariables false
set_option linter.unusedSimpArgs false
namespace Go.HL
def fillB (n : Nat) : List (Nat × Nat × Value) → Bool
  | [] => true
  | (o, z, v) :: rest => (Nat.beq v.cells.size z && Nat.ble (o + z) n) && fillB n rest
theorem fillOk_of {n : Nat} : ∀ {l : List (Nat × Nat × Value)}, fillB n l = true → fillOk n l
  | [], _ => trivial
  | (o, z, v) :: rest, h => by
    simp only [fillB, Bool.and_eq_true] at h
    exact ⟨⟨Nat.eq_of_beq_eq_true h.1.1, Nat.le_of_ble_eq_true h.1.2⟩, fillOk_of h.2⟩
section
variable {C : Cfg} {e : Env} {S : St} {ty : TypeId} {q : Value → Prop} {K : Post} {b' b sz o : Nat} {T t : TypeId} {c : Nat → Value} {a v : Operand} {i : TI} {vs : List Value} {u : Value}
/-- So many rounds of a loop. -/
def RW (C : Cfg) (n : Nat) (c : Code) (Q : HPost) : Nat → Env → St → Prop
  | 0, _, _ => False
  | m + 1, e, S => W C n c (thenQ (fun e S => RW C n c Q m e S) Q) e S
theorem rounds_mono {P : Program} {c0 : Code} {Q Q' : Exit → Act → World → Prop} (hq : ∀ x a w, Q x a w → Q' x a w) : ∀ (m : Nat) (a : Act) (w : World), Code.rounds P c0 Q m a w → Code.rounds P c0 Q' m a w
  | 0, _, _, h => h
  | m + 1, a, w, h => wp_mono h fun x a' w' q => by
      cases x <;> simp only [Exit.then] at q ⊢
      case normal => exact rounds_mono hq m a' w' q
      all_goals exact hq _ _ _ q
theorem RW.rounds {n : Nat} {c0 : Code} {Q : HPost} (hC : C.Ok) (hok : codeOk n c0 = true) (F : Fr) : ∀ (m : Nat) (e : Env) (S : St), RW C n c0 Q m e S → ∀ (a : Act) (w : World), Sim n a e → Holds S F w →
    Code.rounds C.P c0 (fun x a' w' => ∃ e' S', Sim n a' e' ∧ Holds S' F w' ∧ Sub S.I S'.I ∧ Q x e' S') m a w
  | 0, _, _, h, _, _, _, _ => h.elim
  | m + 1, e, S, h, a, w, s, hw => by
    have hg := W_sound hC c0 _ e S hok h
    refine wp_mono (hg.run F a w s hw) ?_
    rintro x a' w' ⟨e', S', s', hh, hs, q⟩
    cases x <;> simp only [thenQ, Exit.then] at q ⊢
    case normal => exact rounds_mono (fun x a w ⟨e2, S2, s2, hh2, hs2, q2⟩ => ⟨e2, S2, s2, hh2, hs.trans hs2, q2⟩) m _ _ (RW.rounds hC hok F m e' S' q a' w' s' hh)
    all_goals exact ⟨e', S', s', hh, hs, q⟩
theorem W.rounds {n : Nat} {c0 : Code} {Q : HPost} (hC : C.Ok) (hok : codeOk n c0 = true) (m : Nat) (h : RW C n c0 Q m e S) : GW C.P n (.loop c0) e S Q :=
  ⟨fun F a w s hw => wp_loop_rounds m (RW.rounds hC hok F m e S h a w s hw)⟩
theorem W.drawI {n : Nat} {ops : Array Oper} (id : Nat) (hC : C.Ok) {Q : HPost} (msk ord rd : List Nat) (hok : drawOk n ops msk ord = true) (hal : allocB C.D ops = true)
    (h : drawE C ops msk rd (fun e S => Q .normal e S) ord [] e S) : GW C.P n (.region id ops true) e S Q := W.draw hC msk ord rd hok hal h
/-! Loads and stores in one's own blocks, with the block's parts named. -/
theorem QuG.l1 (hC : C.Ok) (k : Nat) (hx : S.G[k]? = some ⟨b, sz, T, c⟩) (hD : C.D t = some i) (hk : isAggK i = false) (ha : ev e a = ptr b' o) (hb : b = b') (ho : o < sz) (h : q (c o)) : QuG C.P (.load t a) ty e S q :=
  QuG.ldw hC k hx hD hk ha hb ho h
theorem QuG.lN (hC : C.Ok) (k : Nat) (hx : S.G[k]? = some ⟨b, sz, T, c⟩) (hD : C.D t = some i) (hk : isAggK i = true) (ha : ev e a = ptr b' o) (hb : b = b') (ho : o + i.size ≤ sz) (h : q (.agg (cellsFrom c o i.size).toArray)) : QuG C.P (.load t a) ty e S q :=
  QuG.ldwN hC k hx hD hk ha hb ho h
theorem QuV.of {P : Program} {op : Op} (h : QuG P op ty e S fun w => w = u) : QuV P op ty e S u := by
  obtain ⟨v, h1, h2⟩ := h.out
  subst h2
  exact ⟨h1⟩
theorem QuV.l1 (hC : C.Ok) (k : Nat) (hx : S.G[k]? = some ⟨b, sz, T, c⟩) (hD : C.D t = some i) (hk : isAggK i = false) (ha : ev e a = ptr b' o) (hb : b = b') (ho : o < sz) (h : c o = u) : QuV C.P (.load t a) ty e S u :=
  QuV.of (QuG.l1 hC k hx hD hk ha hb ho h)
theorem QuV.lN (hC : C.Ok) (k : Nat) (hx : S.G[k]? = some ⟨b, sz, T, c⟩) (hD : C.D t = some i) (hk : isAggK i = true) (ha : ev e a = ptr b' o) (hb : b = b') (ho : o + i.size ≤ sz) (h : .agg (cellsFrom c o i.size).toArray = u) : QuV C.P (.load t a) ty e S u :=
  QuV.of (QuG.lN hC k hx hD hk ha hb ho h)
theorem QuV.bs (hC : C.Ok) {x : Ent} {z j : Nat} {ds : List Nat} (hbs : Bs x o ds) (hx : Rd S x) (hD : C.D t = some i) (hk : isAggK i = false) (ha : ev e a = ptr x.b (addS o (mulS j z))) (hz : z = 1) (hj : j < ds.length) (h : .int .u8 (ds.getD j 0 : Nat) = u) : QuV C.P (.load t a) ty e S u :=
  QuV.of (QuG.bs hC hbs hx hD hk ha hz hj h)
theorem still_nil {P : Program} {ops : Array Oper} {f : Nat × Env × Value → Bool} {X : Prop} (h : X) : stillE P ops S (List.filter f []) X := h
theorem bit_beq (m k : Nat) : m.testBit k = Nat.beq (m / 2 ^ k % 2) 1 := by
  rw [Nat.testBit_eq_decide_div_mod_eq, Bool.eq_iff_iff, decide_eq_true_eq]
  exact ⟨fun h => by rw [h]; rfl, Nat.eq_of_beq_eq_true⟩
theorem still_drop {P : Program} {ops : Array Oper} {msk : List Nat} {n k : Nat} {f : Env} {v : Value} {l : List (Nat × Env × Value)} {X : Prop} (hf : Nat.beq (msk.getD n 0 / 2 ^ k % 2) 1 = true) (h : stillE P ops S (List.filter (fun p => !(msk.getD n 0).testBit p.1) l) X) : stillE P ops S (List.filter (fun p => !(msk.getD n 0).testBit p.1) ((k, f, v) :: l)) X := by
  rw [List.filter_cons_of_neg (by show ¬ (!(msk.getD n 0).testBit k) = true; rw [bit_beq, hf]; exact Bool.false_ne_true)]; exact h
theorem still_keep {P : Program} {ops : Array Oper} {msk : List Nat} {n k : Nat} {f : Env} {v : Value} {l : List (Nat × Env × Value)} {X : Prop} {o : Oper} (hf : Nat.beq (msk.getD n 0 / 2 ^ k % 2) 1 = false) (ho : ops[k]? = some o) (hq : QuV P o.op o.type f S v) (h : stillE P ops S (List.filter (fun p => !(msk.getD n 0).testBit p.1) l) X) : stillE P ops S (List.filter (fun p => !(msk.getD n 0).testBit p.1) ((k, f, v) :: l)) X := by
  rw [List.filter_cons_of_pos (by show (!(msk.getD n 0).testBit k) = true; rw [bit_beq, hf]; rfl)]
  exact ⟨by simp only [ho]; exact hq, h⟩
theorem still_in {P : Program} {ops : Array Oper} {l : List (Nat × Env × Value)} {X : Prop} (h : stillE P ops S l X) : stillE P ops S l X := h
theorem LdG.of1 {p : Value} {k : Value → Prop} {x : Ent} (hC : C.Ok) (hD : C.D t = some i) (hk : isAggK i = false) (ha : p = ptr b o) (hx : Rd S x) (hb : x.b = b) (ho : o < x.sz) (h : k (x.c o)) : LdG C.P t p S k := by
  refine ⟨_, fun F w hw => ?_, h⟩
  subst hb
  have hc := (hw.rd hx).cell ho
  simp only [ha, ptr, asAddr, loadVar, Sem.run_bind, Sem.run_pure, Result.andThen, (hC.tab t i hD).isAgg w, hk, Bool.false_eq_true, if_false, Go.load, Sem.run, hc]
theorem LdG.lN {p : Value} {k : Value → Prop} (hC : C.Ok) (n : Nat) (hx : S.G[n]? = some ⟨b, sz, T, c⟩) (hD : C.D t = some i) (hk : isAggK i = true) (ha : p = ptr b' o) (hb : b = b') (ho : o + i.size ≤ sz) (h : k (.agg (cellsFrom c o i.size).toArray)) : LdG C.P t p S k :=
  LdG.ofN hC hD hk ha (Rd.own n hx) hb ho h
theorem LdG.l1 {p : Value} {k : Value → Prop} (hC : C.Ok) (n : Nat) (hx : S.G[n]? = some ⟨b, sz, T, c⟩) (hD : C.D t = some i) (hk : isAggK i = false) (ha : p = ptr b' o) (hb : b = b') (ho : o < sz) (h : k (c o)) : LdG C.P t p S k :=
  LdG.of1 hC hD hk ha (Rd.own n hx) hb ho h
theorem LdG.keep {P : Program} {p : Value} {k : Value → Prop} (h : LdG P t p S k) : LdG P t p S k := h
theorem OpG.s1 (hC : C.Ok) (k : Nat) (hx : S.G[k]? = some ⟨b, sz, T, c⟩) (hD : C.D t = some i) (hi : i.size = 1) (ha : ev e a = ptr b' o) (hb : b = b') (ho : o < sz) (hv : ev e v = u) (h1 : one u = true) (h : K undef ⟨S.I, S.G.set k ⟨b, sz, T, upd c o u⟩⟩) : OpG C.P (.store t a v) ty e S K :=
  OpG.store1 hC k hx hD hi ha hb ho (by rw [hv]; exact h1) (by rw [hv]; exact h)
theorem OpG.sL (hC : C.Ok) (k : Nat) (hx : S.G[k]? = some ⟨b, sz, T, c⟩) (hD : C.D t = some i) (ha : ev e a = ptr b' o) (hb : b = b') (hv : ev e v = .agg vs.toArray) (hl : vs.length = i.size) (h1 : vs.all one = true) (ho : o + i.size ≤ sz)
    (h : K undef ⟨S.I, S.G.set k ⟨b, sz, T, updN c o vs⟩⟩) : OpG C.P (.store t a v) ty e S K :=
  OpG.storeL hC k hx hD ha hb hv hl h1 ho h
theorem OpG.s1E (hC : C.Ok) (k o' : Nat) (hx : S.G[k]? = some ⟨b, sz, T, c⟩) (hD : C.D t = some i) (hi : i.size = 1) (ha : ev e a = ptr b' o) (hb : b = b') (hoo : o = o') (ho : o' < sz) (hv : ev e v = u) (h1 : one u = true) (h : K undef ⟨S.I, S.G.set k ⟨b, sz, T, upd c o' u⟩⟩) : OpG C.P (.store t a v) ty e S K := by
  subst hoo; exact OpG.s1 hC k hx hD hi ha hb ho hv h1 h
theorem OpG.rowX (hC : C.Ok) (k o' : Nat) (vs : List Value) (hx : S.G[k]? = some ⟨b, sz, T, c⟩) (hD : C.D t = some i) (ha : ev e a = ptr b' o) (hb : b = b') (hoo : o = o') (hv : ev e v = .agg vs.toArray) (hl : vs.length = i.size) (ho : o' + i.size ≤ sz) (h1 : ∀ u ∈ vs, one u = true)
    (h : K undef ⟨S.I, S.G.set k ⟨b, sz, T, HL.updN c o' vs⟩⟩) : OpG C.P (.store t a v) ty e S K := OpG.rowE hC k o' vs hx hD ha hb hoo hv hl ho h1 h
end
section
variable {q : Value → Prop} {a b n : Nat}
theorem ValS.addWU64_L (h : q (.int .u64 (((a + (OfNat.ofNat n : Nat)) % 18446744073709551616 : Nat) : Int))) : ValS (.int .u64 (IntKind.wrap .u64 ((a : Int) + (OfNat.ofNat n : Int)))) q := ValS.addWU64 (b := OfNat.ofNat n) h
theorem ValS.addWU64_M (h : q (.int .u64 ((((OfNat.ofNat n : Nat) + b) % 18446744073709551616 : Nat) : Int))) : ValS (.int .u64 (IntKind.wrap .u64 ((OfNat.ofNat n : Int) + (b : Int)))) q := ValS.addWU64 (a := OfNat.ofNat n) h
theorem ValS.mulWU64_L (h : q (.int .u64 ((a * (OfNat.ofNat n : Nat) % 18446744073709551616 : Nat) : Int))) : ValS (.int .u64 (IntKind.wrap .u64 ((a : Int) * (OfNat.ofNat n : Int)))) q := ValS.mulWU64 (b := OfNat.ofNat n) h
theorem ValS.mulWU64_M (h : q (.int .u64 (((OfNat.ofNat n : Nat) * b % 18446744073709551616 : Nat) : Int))) : ValS (.int .u64 (IntKind.wrap .u64 ((OfNat.ofNat n : Int) * (b : Int)))) q := ValS.mulWU64 (a := OfNat.ofNat n) h
theorem ValS.addWU8_L (h : q (.int .u8 (((a + (OfNat.ofNat n : Nat)) % 256 : Nat) : Int))) : ValS (.int .u8 (IntKind.wrap .u8 ((a : Int) + (OfNat.ofNat n : Int)))) q := ValS.addWU8 (b := OfNat.ofNat n) h
theorem ValS.addWU8_M (h : q (.int .u8 ((((OfNat.ofNat n : Nat) + b) % 256 : Nat) : Int))) : ValS (.int .u8 (IntKind.wrap .u8 ((OfNat.ofNat n : Int) + (b : Int)))) q := ValS.addWU8 (a := OfNat.ofNat n) h
theorem ValS.mulWU8_L (h : q (.int .u8 ((a * (OfNat.ofNat n : Nat) % 256 : Nat) : Int))) : ValS (.int .u8 (IntKind.wrap .u8 ((a : Int) * (OfNat.ofNat n : Int)))) q := ValS.mulWU8 (b := OfNat.ofNat n) h
theorem ValS.mulWU8_M (h : q (.int .u8 (((OfNat.ofNat n : Nat) * b % 256 : Nat) : Int))) : ValS (.int .u8 (IntKind.wrap .u8 ((OfNat.ofNat n : Int) * (b : Int)))) q := ValS.mulWU8 (a := OfNat.ofNat n) h
theorem ValS.addWU16_L (h : q (.int .u16 (((a + (OfNat.ofNat n : Nat)) % 65536 : Nat) : Int))) : ValS (.int .u16 (IntKind.wrap .u16 ((a : Int) + (OfNat.ofNat n : Int)))) q := ValS.addWU16 (b := OfNat.ofNat n) h
theorem ValS.addWU16_M (h : q (.int .u16 ((((OfNat.ofNat n : Nat) + b) % 65536 : Nat) : Int))) : ValS (.int .u16 (IntKind.wrap .u16 ((OfNat.ofNat n : Int) + (b : Int)))) q := ValS.addWU16 (a := OfNat.ofNat n) h
theorem ValS.mulWU16_L (h : q (.int .u16 ((a * (OfNat.ofNat n : Nat) % 65536 : Nat) : Int))) : ValS (.int .u16 (IntKind.wrap .u16 ((a : Int) * (OfNat.ofNat n : Int)))) q := ValS.mulWU16 (b := OfNat.ofNat n) h
theorem ValS.mulWU16_M (h : q (.int .u16 (((OfNat.ofNat n : Nat) * b % 65536 : Nat) : Int))) : ValS (.int .u16 (IntKind.wrap .u16 ((OfNat.ofNat n : Int) * (b : Int)))) q := ValS.mulWU16 (a := OfNat.ofNat n) h
theorem ValS.addWU32_L (h : q (.int .u32 (((a + (OfNat.ofNat n : Nat)) % 4294967296 : Nat) : Int))) : ValS (.int .u32 (IntKind.wrap .u32 ((a : Int) + (OfNat.ofNat n : Int)))) q := ValS.addWU32 (b := OfNat.ofNat n) h
theorem ValS.addWU32_M (h : q (.int .u32 ((((OfNat.ofNat n : Nat) + b) % 4294967296 : Nat) : Int))) : ValS (.int .u32 (IntKind.wrap .u32 ((OfNat.ofNat n : Int) + (b : Int)))) q := ValS.addWU32 (a := OfNat.ofNat n) h
theorem ValS.mulWU32_L (h : q (.int .u32 ((a * (OfNat.ofNat n : Nat) % 4294967296 : Nat) : Int))) : ValS (.int .u32 (IntKind.wrap .u32 ((a : Int) * (OfNat.ofNat n : Int)))) q := ValS.mulWU32 (b := OfNat.ofNat n) h
theorem ValS.mulWU32_M (h : q (.int .u32 (((OfNat.ofNat n : Nat) * b % 4294967296 : Nat) : Int))) : ValS (.int .u32 (IntKind.wrap .u32 ((OfNat.ofNat n : Int) * (b : Int)))) q := ValS.mulWU32 (a := OfNat.ofNat n) h
end
end Go.HL
