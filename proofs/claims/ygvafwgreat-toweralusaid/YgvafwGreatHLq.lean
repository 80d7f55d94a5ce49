import Derived.Test.YgvafwGreatHLp
set_option linter.unusedVariables false
set_option linter.unusedSimpArgs false
namespace Go.HL
section
variable {C : Cfg} {n : Nat} {ty : TypeId} {e : Env} {S : St} {K : Post} {q : Value → Prop}

theorem asRoom (P : Program) (b : Nat) (w : World) : (askRoom b).run P w = .ok () w := by
  unfold askRoom; split <;> simp [mark, Sem.run]

theorem firstCells_run {P : Program} {S : St} {F : Fr} {w : World} (hw : Holds S F w) {y : Ent} (hy : Rd S y) {o l c m : Nat} (ho : o + m ≤ y.sz) (size k : Nat) (hm : k * size = m) :
    (Builtin.firstCells size k (sl y.b o l c)).run P w = .ok (cellsFrom y.c o m).toArray w := by
  subst hm
  simp only [Builtin.firstCells, sl, loadCells_run (hw.rd hy) (k * size) o ho]

/-- copy(dst, src): from a block that can be read into one's own. -/
theorem OpG.copy (hC : C.Ok) {ad as : Operand} {td ts : TypeId} {i j : TI} {b o dl dc b' o' slen sc : Nat} {x y : Ent} (k : Nat) (hx : S.G[k]? = some x) (hy : Rd S y) (hD : C.D td = some i) (hk : i.kind = 4) (hj : C.D i.elem = some j)
    (hd : ev e ad = sl b o dl dc) (hs : ev e as = sl b' o' slen sc) (hb : x.b = b) (hb' : y.b = b') (ho : o + mulS (Nat.min slen dl) j.size ≤ x.sz) (ho' : o' + mulS (Nat.min slen dl) j.size ≤ y.sz) (h1 : ∀ p, p < mulS (Nat.min slen dl) j.size → one (y.c (o' + p)) = true)
    (h : K (.int .i64 (Nat.min slen dl : Nat)) ⟨S.I, S.G.set k ⟨x.b, x.sz, x.T, updN x.c o (cellsFrom y.c o' (mulS (Nat.min slen dl) j.size))⟩⟩) : OpG C.P (.call ⟨.builtin .copy, #[ad, as], #[td, ts]⟩) ty e S K := by
  simp only [mulS_eq] at *
  refine ⟨fun F w hw => ?_⟩
  subst hb; subst hb'
  have hok := (hC.tab td i hD).desc
  unfold descOk at hok; rw [hk] at hok; simp only at hok
  have hsz := (hC.tab i.elem j hj).sizeOf w
  have hfc := firstCells_run (P := C.P) hw hy (l := slen) (c := sc) ho' j.size (Nat.min slen dl) rfl
  obtain ⟨w', hr, hh⟩ := storeCells_run (P := C.P) (F := F) (cellsFrom y.c o' (Nat.min slen dl * j.size)) 0 w S x k o hw hx (by simpa using ho) (by
    intro v hv
    obtain ⟨p, hp⟩ := List.mem_iff_getElem?.1 hv
    have hlt : p < Nat.min slen dl * j.size := by have := (List.getElem?_eq_some_iff.1 hp).1; simpa using this
    rw [cellsFrom_get _ _ _ _ hlt] at hp
    cases hp; exact h1 p hlt)
  simp only [Nat.add_zero] at hh
  simp only [sl] at hd hs hfc
  simp only [execOp, resolve, invoke, builtin, Builtin.copy_, List.map_toArray, List.map_cons, List.map_nil, List.getElem?_toArray, List.getElem?_cons_zero, List.getElem?_cons_succ, hd, hs, Builtin.lenOf, run_underlying hok, Sem.run_bind, Sem.run_pure, Result.andThen, hsz, hfc, hr, OpUpon, goInt]
  exact ⟨_, hh, .refl _, h⟩

/-- copy from nothing. -/
theorem OpG.copy0 (hC : C.Ok) {ad as : Operand} {td ts : TypeId} {i j : TI} {a : Option Addr} {dl dc sc : Nat} (hD : C.D td = some i) (hk : i.kind = 4) (hj : C.D i.elem = some j)
    (hd : ev e ad = .slice a dl dc) (hs : ev e as = .slice none 0 sc) (h : K (.int .i64 0) S) : OpG C.P (.call ⟨.builtin .copy, #[ad, as], #[td, ts]⟩) ty e S K := by
  refine ⟨fun F w hw => ?_⟩
  have hok := (hC.tab td i hD).desc
  unfold descOk at hok; rw [hk] at hok; simp only at hok
  have hsz := (hC.tab i.elem j hj).sizeOf w
  have hm : Nat.min 0 dl = 0 := Nat.zero_min _
  cases a <;> simp only [execOp, resolve, invoke, builtin, Builtin.copy_, List.map_toArray, List.map_cons, List.map_nil, List.getElem?_toArray, List.getElem?_cons_zero, List.getElem?_cons_succ, hd, hs, Builtin.lenOf, Builtin.firstCells, hm, run_underlying hok, Sem.run_bind, Sem.run_pure, Result.andThen, hsz, storeCells, OpUpon, goInt] <;> exact ⟨_, hw, .refl _, h⟩

theorem growBy_le (need : Nat) : ∀ (r c : Nat), c ≤ 2 * need + 1024 → Builtin.growBy need r c ≤ 2 * need + 1024 := by
  intro r; induction r with
  | zero => intro c h; exact h
  | succ r ih =>
    intro c h
    simp only [Builtin.growBy]
    split
    · exact h
    · exact ih _ (by omega)
theorem nextcap_le (need cap : Nat) (h : cap < need) : Builtin.nextslicecap need cap ≤ 2 * need + 1024 := by
  unfold Builtin.nextslicecap
  split
  · omega
  · split
    · omega
    · exact growBy_le _ _ _ (by omega)

theorem getD_some (arr : Array Value) (p : Nat) (h : p < arr.size) : arr[p]? = some (arr.getD p undef) := by simp [Array.getD, h]

theorem cellsFrom_append_get {c : Nat → Value} {o m : Nat} {r : List Value} {i : Nat} : (cellsFrom c o m ++ r)[i]? = if i < m then some (c (o + i)) else r[i - m]? := by
  split
  · rename_i h; rw [List.getElem?_append_left (by simpa using h), cellsFrom_get _ _ _ _ h]
  · rename_i h; rw [List.getElem?_append_right (by simpa using Nat.le_of_not_lt h)]; simp

/-- append(s, x...) where s has no room (its capacity is its length): a new block. -/
theorem OpG.appendNew (hC : C.Ok) {s x : Operand} {ts tx : TypeId} {i i2 j : TI} {len cap m : Nat} {y : Ent} {sv : Value} {cs : Nat → Value} (hD : C.D ts = some i) (hk : i.kind = 4) (hj : C.D i.elem = some j) (hjs : 0 < j.size) (hD2 : C.D tx = some i2) (hk2 : i2.kind = 4)
    {b' o' mc : Nat} (hs : ev e s = sv) (hsv : ∃ a, sv = .slice a len cap) (hold : ∀ (F : Fr) (w : World), Holds S F w → (Builtin.firstCells j.size len sv).run C.P w = .ok (cellsFrom cs 0 (mulS len j.size)).toArray w)
    (hx : ev e x = sl b' o' m mc) (hy : Rd S y) (hb' : y.b = b') (ho' : o' + mulS m j.size ≤ y.sz) (hroom : cap < len + m) (hbig : (2 * (len + m) + 1024) * j.bytes ≤ 2 ^ 48) (hbig2 : len + m < 2 ^ 62)
    (h : ∀ b2 cap2 c2, len + m ≤ cap2 → (∀ p, p < mulS len j.size → c2 p = cs p) → (∀ p, p < mulS m j.size → c2 (mulS len j.size + p) = y.c (o' + p)) → K (sl b2 0 (len + m) cap2) ⟨S.I, ⟨b2, mulS cap2 j.size, i.elem, c2⟩ :: S.G⟩) :
    OpG C.P (.call ⟨.builtin .append, #[s, x], #[ts, tx]⟩) ty e S K := by
  simp only [mulS_eq] at *
  refine ⟨fun F w hw => ?_⟩
  subst hb'
  obtain ⟨a, rfl⟩ := hsv
  have hok := (hC.tab ts i hD).desc
  unfold descOk at hok; rw [hk] at hok; simp only at hok
  have hok2 := (hC.tab tx i2 hD2).desc
  unfold descOk at hok2; rw [hk2] at hok2; simp only at hok2
  obtain ⟨inf, x1, x2, x3⟩ := (hC.tab i.elem j hj).typeInfo w
  obtain ⟨z, z1, z2, z3⟩ := (hC.tab i.elem j hj).zeroValue w
  have hsz := (hC.tab i.elem j hj).sizeOf w
  have hfc := firstCells_run (P := C.P) hw hy (l := m) (c := mc) ho' j.size m rfl
  have hnc := nextcap_le (len + m) cap hroom
  have g1 : ¬ len + m ≤ cap := by omega
  have g2 : ¬ ((len + m : Nat) : Int) > IntKind.i64.max := by
    have : IntKind.i64.max = 9223372036854775807 := by decide
    rw [this]; omega
  have g3 : ¬ Builtin.nextslicecap (len + m) cap * inf.bytes > 2 ^ 48 := by
    rw [x3]
    have : Builtin.nextslicecap (len + m) cap * j.bytes ≤ (2 * (len + m) + 1024) * j.bytes := Nat.mul_le_mul_right _ hnc
    omega
  simp only [sl] at hx hfc
  simp only [execOp, resolve, invoke, builtin, Builtin.append_, List.map_toArray, List.map_cons, List.map_nil, List.getElem?_toArray, List.getElem?_cons_zero, List.getElem?_cons_succ, hs, hx, Builtin.lenOf, run_underlying hok, run_underlying hok2, Sem.run_bind, Sem.run_pure, Result.andThen, hsz, x1, g1, g2, g3, if_false, false_and, Bool.false_eq_true, choose, Sem.run, Question.forced, Question.cut, asRoom]
  generalize hT : w.tape w.drawn (Question.appendCap (len + m) cap i.elem) % (2 ^ 63 - (len + m)) = T
  have hw1 : Holds S F ({ w with drawn := w.drawn + 1 } : World) := hw.drew rfl rfl rfl rfl
  generalize hW : ({ w with drawn := w.drawn + 1 } : World) = w1 at hw1 ⊢
  obtain ⟨inf', y1, _, _⟩ := (hC.tab i.elem j hj).typeInfo w1
  obtain ⟨z', z1', z2', z3'⟩ := (hC.tab i.elem j hj).zeroValue w1
  have hfc1 := firstCells_run (P := C.P) hw1 hy (l := m) (c := mc) ho' j.size m rfl
  simp only [sl] at hfc1
  simp only [y1, hold F w1 hw1, Bool.not_false, if_true, hfc1, z1', newRow, newObj, Sem.run_bind, Sem.run, Sem.run_pure, Result.andThen, OpUpon]
  have hsub : len + m + T - (len + m) = T := by omega
  rw [hsub]
  have hlen : (Builtin.zeroCells z'.cells T).size = T * j.size := by simp [Builtin.zeroCells, z2']
  have hp := hw1.push (arr := (cellsFrom cs 0 (len * j.size)).toArray ++ (cellsFrom y.c o' (m * j.size)).toArray ++ Builtin.zeroCells z'.cells T) (T := i.elem)
    (c := fun p => ((cellsFrom cs 0 (len * j.size)).toArray ++ (cellsFrom y.c o' (m * j.size)).toArray ++ Builtin.zeroCells z'.cells T).getD p undef) (fun p hp => getD_some _ p hp)
  have hsize : ((cellsFrom cs 0 (len * j.size)).toArray ++ (cellsFrom y.c o' (m * j.size)).toArray ++ Builtin.zeroCells z'.cells T).size = (len + m + T) * j.size := by
    simp only [Array.size_append, List.size_toArray, cellsFrom_length, hlen, Nat.add_mul]
  rw [hsize] at hp
  refine ⟨_, hp, .refl _, h _ _ _ (by omega) (fun p hp => ?_) (fun p hp => ?_)⟩
  · have := cellsFrom_get cs 0 (len * j.size) p hp
    simp only [Array.getD_eq_getD_getElem?]
    rw [Array.getElem?_append_left (by simp; omega), Array.getElem?_append_left (by simpa using hp)]
    simp [this]
  · have := cellsFrom_get y.c o' (m * j.size) p hp
    simp only [Array.getD_eq_getD_getElem?]
    rw [Array.getElem?_append_left (by simp; omega), Array.getElem?_append_right (by simp)]
    simp [this]

/-- append(s, x...) where there is room. -/
theorem OpG.appendRoom (hC : C.Ok) {s x : Operand} {ts tx : TypeId} {i i2 j : TI} {len cap m b o : Nat} {y z : Ent} (k : Nat) (hz : S.G[k]? = some z) (hD : C.D ts = some i) (hk : i.kind = 4) (hj : C.D i.elem = some j) (hD2 : C.D tx = some i2) (hk2 : i2.kind = 4)
    {b' o' mc : Nat} (hs : ev e s = sl b o len cap) (hb : z.b = b) (hx : ev e x = sl b' o' m mc) (hy : Rd S y) (hb' : y.b = b') (ho' : o' + mulS m j.size ≤ y.sz) (hroom : len + m ≤ cap) (ho : o + mulS (len + m) j.size ≤ z.sz) (h1 : ∀ p, p < mulS m j.size → one (y.c (o' + p)) = true)
    (h : K (sl b o (len + m) cap) ⟨S.I, S.G.set k ⟨z.b, z.sz, z.T, updN z.c (o + mulS len j.size) (cellsFrom y.c o' (mulS m j.size))⟩⟩) :
    OpG C.P (.call ⟨.builtin .append, #[s, x], #[ts, tx]⟩) ty e S K := by
  simp only [mulS_eq] at *
  refine ⟨fun F w hw => ?_⟩
  subst hb; subst hb'
  have hok := (hC.tab ts i hD).desc
  unfold descOk at hok; rw [hk] at hok; simp only at hok
  have hok2 := (hC.tab tx i2 hD2).desc
  unfold descOk at hok2; rw [hk2] at hok2; simp only at hok2
  have hsz := (hC.tab i.elem j hj).sizeOf w
  have hfc := firstCells_run (P := C.P) hw hy (l := m) (c := mc) ho' j.size m rfl
  obtain ⟨w', hr, hh⟩ := storeCells_run (P := C.P) (F := F) (cellsFrom y.c o' (m * j.size)) 0 w S z k (o + len * j.size) hw hz (by simp [Nat.add_mul] at ho ⊢; omega) (by
    intro v hv
    obtain ⟨p, hp⟩ := List.mem_iff_getElem?.1 hv
    have hlt : p < m * j.size := by have := (List.getElem?_eq_some_iff.1 hp).1; simpa using this
    rw [cellsFrom_get _ _ _ _ hlt] at hp
    cases hp; exact h1 p hlt)
  simp only [Nat.add_zero] at hh
  simp only [sl] at hs hx hfc h
  simp only [execOp, resolve, invoke, builtin, Builtin.append_, List.map_toArray, List.map_cons, List.map_nil, List.getElem?_toArray, List.getElem?_cons_zero, List.getElem?_cons_succ, hs, hx, Builtin.lenOf, run_underlying hok, run_underlying hok2, Sem.run_bind, Sem.run_pure, Result.andThen, hsz, hroom, Bool.false_eq_true, if_false, if_true, Bool.not_false, hfc, add_addr, hr, OpUpon]
  exact ⟨_, hh, .refl _, h⟩
end
end Go.HL
