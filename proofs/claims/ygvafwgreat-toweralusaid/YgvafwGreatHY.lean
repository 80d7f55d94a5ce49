import Derived.Test.YgvafwGreatHR
set_option linter.unusedVariables false
set_option linter.unusedSimpArgs false
namespace Go.HL
section
variable {C : Cfg} {n : Nat} {ty : TypeId} {e : Env} {S : St} {K : Post} {q : Value → Prop}
/-- append(s, x...) where s has no room (its capacity is its length): a new block. -/
theorem OpG.appendNewB (hC : C.Ok) {s x : Operand} {ts tx : TypeId} {i i2 j : TI} {len cap m : Nat} {y : Ent} {sv : Value} {cs : Nat → Value} (hD : C.D ts = some i) (hk : i.kind = 4) (hj : C.D i.elem = some j) (hjs : 0 < j.size) (hD2 : C.D tx = some i2) (hk2 : i2.kind = 4)
    {b' o' mc : Nat} (hs : ev e s = sv) (hsv : ∃ a, sv = .slice a len cap) (hold : ∀ (F : Fr) (w : World), Holds S F w → (Builtin.firstCells j.size len sv).run C.P w = .ok (cellsFrom cs 0 (mulS len j.size)).toArray w)
    (hx : ev e x = sl b' o' m mc) (hy : Rd S y) (hb' : y.b = b') (ho' : o' + mulS m j.size ≤ y.sz) (hroom : cap < len + m) (hbig : (2 * (len + m) + 1024) * j.bytes ≤ 2 ^ 48) (hbig2 : len + m < 2 ^ 62)
    (h : ∀ b2 cap2 c2, len + m ≤ cap2 → cap2 < 2 ^ 63 → (∀ p, p < mulS len j.size → c2 p = cs p) → (∀ p, p < mulS m j.size → c2 (mulS len j.size + p) = y.c (o' + p)) → K (sl b2 0 (len + m) cap2) ⟨S.I, ⟨b2, mulS cap2 j.size, i.elem, c2⟩ :: S.G⟩) :
    OpG C.P (.call ⟨.builtin .append, #[s, x], #[ts, tx]⟩) ty e S K := by
  simp only [mulS_eq] at *
  refine ⟨fun F w hw => ?_⟩
  subst hb'
  obtain ⟨a, rfl⟩ := hsv
  have hok := (hC.tab ts i hD).desc
  unfold descOk at hok; rw [hk] at hok; simp only at hok
  have hok2 := (hC.tab tx i2 hD2).desc
  unfold descOk at hok2; rw [hk2] at hok2; simp only at hok2
  obtain ⟨inf, x1, x2, x3⟩ := (hC.tab i.elem j hj).typeInfo w
  obtain ⟨z, z1, z2, z3⟩ := (hC.tab i.elem j hj).zeroValue w
  have hsz := (hC.tab i.elem j hj).sizeOf w
  have hfc := firstCells_run (P := C.P) hw hy (l := m) (c := mc) ho' j.size m rfl
  have hnc := nextcap_le (len + m) cap hroom
  have g1 : ¬ len + m ≤ cap := by omega
  have g2 : ¬ ((len + m : Nat) : Int) > IntKind.i64.max := by
    have : IntKind.i64.max = 9223372036854775807 := by decide
    rw [this]; omega
  have g3 : ¬ Builtin.nextslicecap (len + m) cap * inf.bytes > 2 ^ 48 := by
    rw [x3]
    have : Builtin.nextslicecap (len + m) cap * j.bytes ≤ (2 * (len + m) + 1024) * j.bytes := Nat.mul_le_mul_right _ hnc
    omega
  simp only [sl] at hx hfc
  simp only [execOp, resolve, invoke, builtin, Builtin.append_, List.map_toArray, List.map_cons, List.map_nil, List.getElem?_toArray, List.getElem?_cons_zero, List.getElem?_cons_succ, hs, hx, Builtin.lenOf, run_underlying hok, run_underlying hok2, Sem.run_bind, Sem.run_pure, Result.andThen, hsz, x1, g1, g2, g3, if_false, false_and, Bool.false_eq_true, choose, Sem.run, Question.forced, Question.cut, asRoom]
  generalize hT : w.tape w.drawn (Question.appendCap (len + m) cap i.elem) % (2 ^ 63 - (len + m)) = T
  have hw1 : Holds S F ({ w with drawn := w.drawn + 1 } : World) := hw.drew rfl rfl rfl rfl
  generalize hW : ({ w with drawn := w.drawn + 1 } : World) = w1 at hw1 ⊢
  obtain ⟨inf', y1, _, _⟩ := (hC.tab i.elem j hj).typeInfo w1
  obtain ⟨z', z1', z2', z3'⟩ := (hC.tab i.elem j hj).zeroValue w1
  have hfc1 := firstCells_run (P := C.P) hw1 hy (l := m) (c := mc) ho' j.size m rfl
  simp only [sl] at hfc1
  simp only [y1, hold F w1 hw1, Bool.not_false, if_true, hfc1, z1', newRow, newObj, Sem.run_bind, Sem.run, Sem.run_pure, Result.andThen, OpUpon]
  have hsub : len + m + T - (len + m) = T := by omega
  rw [hsub]
  have hlen : (Builtin.zeroCells z'.cells T).size = T * j.size := by simp [Builtin.zeroCells, z2']
  have hp := hw1.push (arr := (cellsFrom cs 0 (len * j.size)).toArray ++ (cellsFrom y.c o' (m * j.size)).toArray ++ Builtin.zeroCells z'.cells T) (T := i.elem)
    (c := fun p => ((cellsFrom cs 0 (len * j.size)).toArray ++ (cellsFrom y.c o' (m * j.size)).toArray ++ Builtin.zeroCells z'.cells T).getD p undef) (fun p hp => getD_some _ p hp)
  have hsize : ((cellsFrom cs 0 (len * j.size)).toArray ++ (cellsFrom y.c o' (m * j.size)).toArray ++ Builtin.zeroCells z'.cells T).size = (len + m + T) * j.size := by
    simp only [Array.size_append, List.size_toArray, cellsFrom_length, hlen, Nat.add_mul]
  rw [hsize] at hp
  refine ⟨_, hp, .refl _, h _ _ _ (by omega) (by have := Nat.mod_lt (w.tape w.drawn (Question.appendCap (len + m) cap i.elem)) (show 0 < 2 ^ 63 - (len + m) by omega); rw [hT] at this; omega) (fun p hp => ?_) (fun p hp => ?_)⟩
  · have := cellsFrom_get cs 0 (len * j.size) p hp
    simp only [Array.getD_eq_getD_getElem?]
    rw [Array.getElem?_append_left (by simp; omega), Array.getElem?_append_left (by simpa using hp)]
    simp [this]
  · have := cellsFrom_get y.c o' (m * j.size) p hp
    simp only [Array.getD_eq_getD_getElem?]
    rw [Array.getElem?_append_left (by simp; omega), Array.getElem?_append_right (by simp)]
    simp [this]


end
end Go.HL
