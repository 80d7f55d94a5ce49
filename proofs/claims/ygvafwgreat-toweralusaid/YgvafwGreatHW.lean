import Derived.Test.YgvafwGreatHV
set_option maxRecDepth 100000
set_option maxHeartbeats 1000000
set_option linter.unusedVariables false
set_option linter.unusedSimpArgs false
namespace Go.HL
open Go.Proofs
section
variable {C : Cfg} {e : Env} {S : St} {K : Post} {ty : TypeId}
theorem zeroC_get {j : TI} {z : Value} (z2 : z.cells.size = j.size) (z3 : ∀ p, p < j.size → z.cells[p]? = some (j.zero p)) (hjs : j.size = 1) (n p : Nat) (hp : p < n) : (Builtin.zeroCells z.cells n)[p]? = some (j.zero 0) := by
  unfold Builtin.zeroCells
  rw [range_map_get (n * z.cells.size) z.cells j.zero (by rw [z2]; exact z3) (fun _ => by rw [z2, hjs]; decide) p (by simp [z2, hjs]; exact hp), z2, hjs, Nat.mod_one]
/-- append(s, make([]T, m)...) where s has no room: a new block; the elements are of one cell. -/
theorem OpG.appendZ (hC : C.Ok) {s x : Operand} {ts tx : TypeId} {i i2 j : TI} {len cap m : Nat} {kx : IntKind} {sv : Value} {cs : Nat → Value} (hD : C.D ts = some i) (hk : i.kind = 4) (hj : C.D i.elem = some j) (hjs : j.size = 1) (hD2 : C.D tx = some i2) (hk2 : i2.kind = 1)
    (hs : ev e s = sv) (hsv : ∃ a, sv = .slice a len cap) (hold : ∀ (F : Fr) (w : World), Holds S F w → (Builtin.firstCells j.size len sv).run C.P w = .ok (cellsFrom cs 0 len).toArray w)
    (hx : ev e x = .int kx (m : Nat)) (hm : 0 < m) (hroom : cap < len + m) (hbig : (2 * (len + m) + 1024) * j.bytes ≤ 2 ^ 48) (hbig2 : len + m < 2 ^ 62)
    (h : ∀ b2 cap2 c2, len + m ≤ cap2 → (∀ p, p < len → c2 p = cs p) → (∀ p, p < m → c2 (len + p) = j.zero 0) → K (sl b2 0 (len + m) cap2) ⟨S.I, ⟨b2, mulS cap2 j.size, i.elem, c2⟩ :: S.G⟩) :
    OpG C.P (.call ⟨.builtin .append, #[s, x], #[ts, tx]⟩) ty e S K := by
  simp only [mulS_eq] at *
  refine ⟨fun F w hw => ?_⟩
  obtain ⟨a, rfl⟩ := hsv
  have hok := (hC.tab ts i hD).desc
  unfold descOk at hok; rw [hk] at hok; simp only at hok
  have hok2 := (hC.tab tx i2 hD2).desc
  unfold descOk at hok2; rw [hk2] at hok2; simp only at hok2
  obtain ⟨inf, x1, x2, x3⟩ := (hC.tab i.elem j hj).typeInfo w
  obtain ⟨z, z1, z2, z3⟩ := (hC.tab i.elem j hj).zeroValue w
  have hsz := (hC.tab i.elem j hj).sizeOf w
  have hnc := nextcap_le (len + m) cap hroom
  have g1 : ¬ len + m ≤ cap := by omega
  have g2 : ¬ ((len + m : Nat) : Int) > IntKind.i64.max := by
    have : IntKind.i64.max = 9223372036854775807 := by decide
    rw [this]; omega
  have g3 : ¬ Builtin.nextslicecap (len + m) cap * inf.bytes > 2 ^ 48 := by
    rw [x3]
    have : Builtin.nextslicecap (len + m) cap * j.bytes ≤ (2 * (len + m) + 1024) * j.bytes := Nat.mul_le_mul_right _ hnc
    omega
  have e1 : IntKind.wrap .i64 (m : Int) = m := wrap_i64 m (by omega) (by omega)
  have g4 : ¬ ((m : Int) < 0) := by omega
  have g5 : ¬ ((m : Int) * (inf.bytes : Int) > 2 ^ 48) := by
    rw [x3]
    have h1 : m * j.bytes ≤ (2 * (len + m) + 1024) * j.bytes := Nat.mul_le_mul_right _ (by omega)
    have h2 : ((m * j.bytes : Nat) : Int) ≤ 2 ^ 48 := by exact_mod_cast Nat.le_trans h1 hbig
    rw [Int.natCast_mul] at h2; omega
  have g6 : ¬ (m * j.size = 0) := by rw [hjs]; omega
  have hmt : (m : Int).toNat = m := Int.toNat_natCast m
  simp only [execOp, resolve, invoke, builtin, Builtin.append_, List.map_toArray, List.map_cons, List.map_nil, List.getElem?_toArray, List.getElem?_cons_zero, List.getElem?_cons_succ, hs, hx, run_underlying hok, run_underlying hok2, Sem.run_bind, Sem.run_pure, Result.andThen, hsz, x1, if_true, asInt, asIntOf, e1, g4, g5, hmt, g1, g2, g3, if_false, false_and, Bool.false_eq_true, choose, Sem.run, Question.forced, Question.cut, asRoom]
  generalize hT : w.tape w.drawn (Question.appendCap (len + m) cap i.elem) % (2 ^ 63 - (len + m)) = T
  have hw1 : Holds S F ({ w with drawn := w.drawn + 1 } : World) := hw.drew rfl rfl rfl rfl
  generalize hW : ({ w with drawn := w.drawn + 1 } : World) = w1 at hw1 ⊢
  obtain ⟨inf', y1, _, _⟩ := (hC.tab i.elem j hj).typeInfo w1
  obtain ⟨z', z1', z2', z3'⟩ := (hC.tab i.elem j hj).zeroValue w1
  simp only [y1, hold F w1 hw1, Bool.not_true, Bool.false_eq_true, if_false, g6, z1', newRow, newObj, Sem.run_bind, Sem.run, Sem.run_pure, Result.andThen, OpUpon]
  have hsub : len + m + T - (len + m) = T := by omega
  rw [hsub]
  have hlen : (Builtin.zeroCells z'.cells T).size = T := by simp [Builtin.zeroCells, z2', hjs]
  have hlen2 : (Builtin.zeroCells z'.cells m).size = m := by simp [Builtin.zeroCells, z2', hjs]
  have hp := hw1.push (arr := (cellsFrom cs 0 len).toArray ++ Builtin.zeroCells z'.cells m ++ Builtin.zeroCells z'.cells T) (T := i.elem)
    (c := fun p => ((cellsFrom cs 0 len).toArray ++ Builtin.zeroCells z'.cells m ++ Builtin.zeroCells z'.cells T).getD p undef) (fun p hp => getD_some _ p hp)
  have hsize : ((cellsFrom cs 0 len).toArray ++ Builtin.zeroCells z'.cells m ++ Builtin.zeroCells z'.cells T).size = (len + m + T) * j.size := by
    simp only [Array.size_append, List.size_toArray, cellsFrom_length, hlen, hlen2, hjs, Nat.mul_one]
  rw [hsize] at hp
  refine ⟨_, hp, .refl _, h _ _ _ (by omega) (fun p hp => ?_) (fun p hp => ?_)⟩
  · have := cellsFrom_get cs 0 len p hp
    simp only [Array.getD_eq_getD_getElem?]
    rw [Array.getElem?_append_left (by simp [hlen2]; omega), Array.getElem?_append_left (by simpa using hp)]
    simp [this]
  · have := zeroC_get z2' z3' hjs m p hp
    simp only [Array.getD_eq_getD_getElem?]
    rw [Array.getElem?_append_left (by simp [hlen2]; omega), Array.getElem?_append_right (by simp)]
    simp [this]
/-- clear of nothing. -/
theorem OpG.clear0 (hC : C.Ok) {a : Operand} {t : TypeId} {i : TI} {ad : Option Addr} {cp : Nat} (hD : C.D t = some i) (hk : i.kind = 4) (ha : ev e a = .slice ad 0 cp) (h : K (.tuple #[]) S) : OpG C.P (.call ⟨.builtin .clear, #[a], #[t]⟩) ty e S K := by
  refine ⟨fun F w hw => ?_⟩
  have hd := (hC.tab t i hD).desc
  unfold descOk at hd; rw [hk] at hd; simp only at hd
  cases ad with
  | none =>
    simp only [execOp, resolve, invoke, builtin, Builtin.clear_, List.map_toArray, List.map_cons, List.map_nil, List.getElem?_toArray, List.getElem?_cons_zero, ha, run_underlying hd, Sem.run_bind, Sem.run_pure, Result.andThen, OpUpon]
    exact ⟨_, hw, .refl _, h⟩
  | some b =>
    simp only [execOp, resolve, invoke, builtin, Builtin.clear_, List.map_toArray, List.map_cons, List.map_nil, List.getElem?_toArray, List.getElem?_cons_zero, ha, run_underlying hd, Sem.run_bind, Sem.run_pure, Result.andThen, OpUpon]
    exact ⟨_, hw, .refl _, h⟩
/-- append(s, make([]T, m)...) where there is room. -/
theorem OpG.appendZR (hC : C.Ok) {s x : Operand} {ts tx : TypeId} {i i2 j : TI} {len cap m b o : Nat} {kx : IntKind} {z : Ent} (k : Nat) (hz : S.G[k]? = some z) (hD : C.D ts = some i) (hk : i.kind = 4) (hj : C.D i.elem = some j) (hjs : j.size = 1) (hby : j.bytes ≤ 16) (hone : one (j.zero 0) = true) (hD2 : C.D tx = some i2) (hk2 : i2.kind = 1)
    (hs : ev e s = sl b o len cap) (hb : z.b = b) (hx : ev e x = .int kx (m : Nat)) (hm : 0 < m) (hm2 : m < 2 ^ 40) (hroom : len + m ≤ cap) (ho : o + (len + m) ≤ z.sz)
    (h : K (sl b o (len + m) cap) ⟨S.I, S.G.set k ⟨z.b, z.sz, z.T, updN z.c (o + len) (List.replicate m (j.zero 0))⟩⟩) :
    OpG C.P (.call ⟨.builtin .append, #[s, x], #[ts, tx]⟩) ty e S K := by
  refine ⟨fun F w hw => ?_⟩
  subst hb
  have hok := (hC.tab ts i hD).desc
  unfold descOk at hok; rw [hk] at hok; simp only at hok
  have hok2 := (hC.tab tx i2 hD2).desc
  unfold descOk at hok2; rw [hk2] at hok2; simp only at hok2
  obtain ⟨inf, x1, x2, x3⟩ := (hC.tab i.elem j hj).typeInfo w
  obtain ⟨zv, z1, z2, z3⟩ := (hC.tab i.elem j hj).zeroValue w
  have hsz := (hC.tab i.elem j hj).sizeOf w
  have hzl : (Builtin.zeroCells zv.cells m).toList = List.replicate m (j.zero 0) := by
    apply List.ext_getElem?
    intro p
    by_cases hp : p < m
    · rw [Array.getElem?_toList, zeroC_get z2 z3 hjs m p hp, List.getElem?_replicate, if_pos hp]
    · rw [Array.getElem?_toList, Array.getElem?_eq_none (by simp [Builtin.zeroCells, z2, hjs]; omega), List.getElem?_replicate, if_neg hp]
  obtain ⟨w', hr, hh⟩ := storeCells_run (P := C.P) (F := F) (List.replicate m (j.zero 0)) 0 w S z k (o + len) hw hz (by simp; omega) (by
    intro v hv
    rw [List.eq_of_mem_replicate hv]; exact hone)
  simp only [Nat.add_zero] at hh
  have e1 : IntKind.wrap .i64 (m : Int) = m := wrap_i64 m (by omega) (by omega)
  have g4 : ¬ ((m : Int) < 0) := by omega
  have g5 : ¬ ((m : Int) * (inf.bytes : Int) > 2 ^ 48) := by
    rw [x3]
    have h1 : m * j.bytes ≤ 2 ^ 40 * 16 := Nat.mul_le_mul (by omega) hby
    have h2 : ((m * j.bytes : Nat) : Int) ≤ 2 ^ 48 := by exact_mod_cast Nat.le_trans h1 (by decide)
    rw [Int.natCast_mul] at h2; omega
  have g6 : ¬ (m * j.size = 0) := by rw [hjs]; omega
  have hmt : (m : Int).toNat = m := Int.toNat_natCast m
  have hl1 : len * j.size = len := by rw [hjs, Nat.mul_one]
  simp only [sl] at hs h
  simp only [execOp, resolve, invoke, builtin, Builtin.append_, List.map_toArray, List.map_cons, List.map_nil, List.getElem?_toArray, List.getElem?_cons_zero, List.getElem?_cons_succ, hs, hx, run_underlying hok, run_underlying hok2, Sem.run_bind, Sem.run_pure, Result.andThen, hsz, x1, if_true, asInt, asIntOf, e1, g4, g5, g6, hmt, hroom, z1, hzl, hl1, Bool.not_true, Bool.false_eq_true, if_false, add_addr, hr, OpUpon]
  exact ⟨_, hh, .refl _, h⟩
end
end Go.HL
