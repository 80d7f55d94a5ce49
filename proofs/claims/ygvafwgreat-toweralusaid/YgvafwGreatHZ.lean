import Derived.Test.YgvafwGreatHY
import Derived.Test.YgvafwGreatHS
set_option linter.unusedVariables false
set_option linter.unusedSimpArgs false
namespace Go.HL
open Go.Proofs
section
variable {C : Cfg} {n : Nat} {ty : TypeId} {e : Env} {S : St} {K : Post} {q : Value → Prop}
/-- append(s, nil...) is s. -/
theorem OpG.appendNil (hC : C.Ok) {s x : Operand} {ts tx : TypeId} {i i2 j : TI} {len cap b o : Nat} (hD : C.D ts = some i) (hk : i.kind = 4) (hj : C.D i.elem = some j) (hD2 : C.D tx = some i2) (hk2 : i2.kind = 4)
    (hs : ev e s = sl b o len cap) (hx : ev e x = .slice none 0 0) (hroom : len ≤ cap) (h : K (sl b o len cap) S) :
    OpG C.P (.call ⟨.builtin .append, #[s, x], #[ts, tx]⟩) ty e S K := by
  refine ⟨fun F w hw => ?_⟩
  have hok := (hC.tab ts i hD).desc
  unfold descOk at hok; rw [hk] at hok; simp only at hok
  have hok2 := (hC.tab tx i2 hD2).desc
  unfold descOk at hok2; rw [hk2] at hok2; simp only at hok2
  have hsz := (hC.tab i.elem j hj).sizeOf w
  simp only [sl] at hs h
  have hr : len + 0 ≤ cap := hroom
  simp only [execOp, resolve, invoke, builtin, Builtin.append_, List.map_toArray, List.map_cons, List.map_nil, List.getElem?_toArray, List.getElem?_cons_zero, List.getElem?_cons_succ, hs, hx, Builtin.lenOf, run_underlying hok, run_underlying hok2, Sem.run_bind, Sem.run_pure, Result.andThen, hsz, hr, Bool.false_eq_true, if_false, if_true, Bool.not_false, Builtin.firstCells, Nat.zero_mul, storeCells, OpUpon]
  exact ⟨_, hw, .refl _, h⟩
end
end Go.HL
