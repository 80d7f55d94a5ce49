import Derived.Test.YgvafwGreatHLu
import Derived.DeepKeys
import Derived.Laws.BytesString
import Derived.Laws.Externs
set_option linter.unusedVariables false
set_option linter.unusedSimpArgs false
namespace Go.HL

/-- A row of numbers of one kind. -/
def ivs (k : IntKind) (ds : List Nat) : List Value := ds.map fun d => .int k (d : Nat)
@[simp] theorem ivs_length (k : IntKind) (ds : List Nat) : (ivs k ds).length = ds.length := by simp [ivs]
theorem ivs_getD (k : IntKind) (ds : List Nat) (i : Nat) (h : i < ds.length) : (ivs k ds).getD i undef = .int k (ds.getD i 0 : Nat) := by
  simp [ivs, List.getD_eq_getElem?_getD, h]
theorem ivs_one (k : IntKind) (ds : List Nat) : ∀ u ∈ ivs k ds, one u = true := by
  intro u hu; obtain ⟨d, _, rfl⟩ := List.mem_map.1 hu; rfl
theorem bvs_ivs (ds : List Nat) : bvs ds = ivs .u8 ds := rfl

theorem part_int {P : Program} {el : TypeId} {j : TI} (hj : TIok P el j) (hk : j.kind = 1) (k : IntKind) (xs : List Nat) (i : Nat) (hi : i < xs.length) (w : World) :
    (part el (ivs k xs).toArray i).run P w = .ok (.int k (xs.getD i 0 : Nat)) w := by
  have h1 := hj.isAgg w
  have h2 : isAggK j = false := by simp [isAggK, hk]
  rw [h2] at h1
  have h3 : (ivs k xs)[i]? = some (.int k (xs.getD i 0 : Nat)) := by simp [ivs, List.getD_eq_getElem?_getD, hi]
  simp [part, Sem.run_bind, h1, Result.andThen, h3]

theorem eqItems_ints {P : Program} {el : TypeId} {j : TI} (hj : TIok P el j) (hk : j.kind = 1) (k : IntKind) (xs ys : List Nat) (hl : xs.length = ys.length) (d : Nat) (w : World) : ∀ is : List Nat, (∀ i ∈ is, i < xs.length) →
    (Op.eqItems (d + 1) el 1 (ivs k xs).toArray (ivs k ys).toArray is).run P w = .ok (is.all fun i => xs.getD i 0 == ys.getD i 0) w := by
  intro is
  induction is with
  | nil => intro _; simp [Op.eqItems]
  | cons i is ih =>
    intro h
    have hi := h i (by simp)
    have e1 := part_int hj hk k xs i hi w
    have e2 := part_int hj hk k ys i (by omega) w
    have hd := hj.desc
    unfold descOk at hd; rw [hk] at hd; simp only at hd
    have e3 : (Op.equalIn (d + 1) el (.int k (xs.getD i 0 : Nat)) (.int k (ys.getD i 0 : Nat))).run P w = .ok (((xs.getD i 0 : Nat) : Int) == ((ys.getD i 0 : Nat) : Int)) w := run_equalIn_int w d el k _ _ _ hd
    simp only [Op.eqItems, Nat.mul_one, Sem.run_bind, e1, e2, e3, Result.andThen, List.all_cons]
    by_cases hc : xs.getD i 0 = ys.getD i 0
    · rw [hc]; simp; simpa using ih (fun x hx => h x (by simp [hx]))
    · have : ¬ ((xs.getD i 0 : Nat) : Int) = ((ys.getD i 0 : Nat) : Int) := by omega
      have h1 : (((xs.getD i 0 : Nat) : Int) == ((ys.getD i 0 : Nat) : Int)) = false := by simpa using this
      have h2 : (xs.getD i 0 == ys.getD i 0) = false := by simpa using hc
      rw [h1, h2]; simp

theorem all_range_eq (xs ys : List Nat) (hl : xs.length = ys.length) : ((List.range xs.length).all fun i => xs.getD i 0 == ys.getD i 0) = decide (xs = ys) := by
  rw [Bool.eq_iff_iff]
  simp only [List.all_eq_true, List.mem_range, beq_iff_eq, decide_eq_true_eq]
  constructor
  · intro h
    apply List.ext_getElem hl
    intro i h1 h2
    have := h i h1
    simpa [List.getD_eq_getElem?_getD, h1, h2] using this
  · rintro rfl i _; rfl

section
variable {C : Cfg} {ty : TypeId} {e : Env} {S : St} {K : Post} {q : Value → Prop}

theorem equal_ints (hC : C.Ok) {t : TypeId} {i j : TI} (hD : C.D t = some i) (hk : i.kind = 5) (hj : C.D i.elem = some j) (hjk : j.kind = 1) (hs : j.size = 1) {xs ys : List Nat} (k : IntKind) (lx : xs.length = i.len) (ly : ys.length = i.len) (w : World) :
    (Op.equal t (.agg (ivs k xs).toArray) (.agg (ivs k ys).toArray)).run C.P w = .ok (decide (xs = ys)) w := by
  have hd := (hC.tab t i hD).desc
  unfold descOk at hd; rw [hk] at hd; simp only at hd
  obtain ⟨inf, h1, h2, _⟩ := (hC.tab i.elem j hj).info
  have hc : C.P.cellsOf i.elem = 1 := by simp [Program.cellsOf, h1, h2, hs]
  have := run_equalIn_array (P := C.P) w 9999 (ivs k xs).toArray (ivs k ys).toArray hd h1
  unfold Op.equal Op.maxDepth
  rw [this, hc, ← lx, eqItems_ints (hC.tab i.elem j hj) hjk k xs ys (by omega) 9998 w _ (by simp), all_range_eq xs ys (by omega)]

/-- Two arrays of numbers. -/
theorem QuG.eqA (hC : C.Ok) {t u : TypeId} {x y : Operand} {i j : TI} {xs ys : List Nat} (k : IntKind) (hD : C.D t = some i) (hk : i.kind = 5) (hj : C.D i.elem = some j) (hjk : j.kind = 1) (hs : j.size = 1) (hg : C.P.eqGuardType C.P.depth t = false)
    (hx : ev e x = .agg (ivs k xs).toArray) (hy : ev e y = .agg (ivs k ys).toArray) (lx : xs.length = i.len) (ly : ys.length = i.len) (h : q (.bool (decide (xs = ys)))) : QuG C.P (.binOp .eql t x y u) ty e S q := by
  refine .mk' (fun F w _ => ?_) h
  have h1 := run_eqGuard_agg (P := C.P) w .eql t x y (ivs k xs).toArray (ivs k ys).toArray hg
  have h2 := equal_ints hC hD hk hj hjk hs k lx ly w
  simp only [execOp, hx, hy, Sem.run_bind, h1, Result.andThen, binOp, h2, Sem.run_pure]
theorem QuG.neA (hC : C.Ok) {t u : TypeId} {x y : Operand} {i j : TI} {xs ys : List Nat} (k : IntKind) (hD : C.D t = some i) (hk : i.kind = 5) (hj : C.D i.elem = some j) (hjk : j.kind = 1) (hs : j.size = 1) (hg : C.P.eqGuardType C.P.depth t = false)
    (hx : ev e x = .agg (ivs k xs).toArray) (hy : ev e y = .agg (ivs k ys).toArray) (lx : xs.length = i.len) (ly : ys.length = i.len) (h : q (.bool (!decide (xs = ys)))) : QuG C.P (.binOp .neq t x y u) ty e S q := by
  refine .mk' (fun F w _ => ?_) h
  have h1 := run_eqGuard_agg (P := C.P) w .neq t x y (ivs k xs).toArray (ivs k ys).toArray hg
  have h2 := equal_ints hC hD hk hj hjk hs k lx ly w
  simp only [execOp, hx, hy, Sem.run_bind, h1, Result.andThen, binOp, h2, Sem.run_pure]

/-- Two truth values. -/
theorem QuG.eqB (hC : C.Ok) {t u : TypeId} {x y : Operand} {i : TI} {a b : Bool} (hD : C.D t = some i) (hk : i.kind = 0) (hx : ev e x = .bool a) (hy : ev e y = .bool b) (h : q (.bool (a == b))) : QuG C.P (.binOp .eql t x y u) ty e S q := by
  have hd := (hC.tab t i hD).desc
  unfold descOk at hd; rw [hk] at hd; simp only at hd
  refine .mk' (fun F w _ => ?_) h
  have h1 : (Op.equal t (.bool a) (.bool b)).run C.P w = .ok (a == b) w := run_equalIn_bool w 9999 t a b hd
  have h2 : (eqGuard .eql t x y (.bool a) (.bool b)).run C.P w = .ok () w := rfl
  simp only [execOp, hx, hy, Sem.run_bind, h2, Result.andThen, binOp, h1, Sem.run_pure]
theorem QuG.neB (hC : C.Ok) {t u : TypeId} {x y : Operand} {i : TI} {a b : Bool} (hD : C.D t = some i) (hk : i.kind = 0) (hx : ev e x = .bool a) (hy : ev e y = .bool b) (h : q (.bool (a != b))) : QuG C.P (.binOp .neq t x y u) ty e S q := by
  have hd := (hC.tab t i hD).desc
  unfold descOk at hd; rw [hk] at hd; simp only at hd
  refine .mk' (fun F w _ => ?_) h
  have h1 : (Op.equal t (.bool a) (.bool b)).run C.P w = .ok (a == b) w := run_equalIn_bool w 9999 t a b hd
  have h2 : (eqGuard .neq t x y (.bool a) (.bool b)).run C.P w = .ok () w := rfl
  simp only [execOp, hx, hy, Sem.run_bind, h2, Result.andThen, binOp, h1, Sem.run_pure]
  rfl

/-- An element of an array that is a value. -/
theorem QuG.ixA (hC : C.Ok) {t : TypeId} {x ix : Operand} {i j : TI} {xs : List Nat} {k k' : IntKind} {n : Nat} (hD : C.D t = some i) (hk : i.kind = 5) (hj : C.D i.elem = some j) (hjk : j.kind = 1) (hs : j.size = 1)
    (hx : ev e x = .agg (ivs k xs).toArray) (hix : ev e ix = .int k' (n : Nat)) (lx : xs.length = i.len) (hn : n < i.len) (h : q (.int k (xs.getD n 0 : Nat))) : QuG C.P (.index t x ix) ty e S q := by
  have hd := (hC.tab t i hD).desc
  unfold descOk at hd; rw [hk] at hd; simp only at hd
  refine .mk' (fun F w _ => ?_) h
  have h1 := part_int (hC.tab i.elem j hj) hjk k xs n (by omega) w
  have h2 := (hC.tab i.elem j hj).sizeOf w
  have h3 : (n : Int) < (i.len : Int) := by omega
  have h4 : (0 ≤ (n : Int) ∧ (n : Int) < (i.len : Int)) := ⟨by omega, h3⟩
  simp only [execOp, hx, hix, Instr.index, asIntOf, run_underlying hd, Sem.run_bind, Result.andThen, h4, and_self, if_true, h2, hs, Int.toNat_natCast, Nat.mul_one, h1, Sem.run_pure]
/-- A byte of a string. -/
theorem QuG.ixS (hC : C.Ok) {t : TypeId} {x ix : Operand} {i : TI} {s : ByteArray} {k' : IntKind} {n : Nat} {b : UInt8} (hD : C.D t = some i) (hk : i.kind = 2)
    (hx : ev e x = .string s) (hix : ev e ix = .int k' (n : Nat)) (hb : s[n]? = some b) (h : q (.int .u8 (b.toNat : Nat))) : QuG C.P (.index t x ix) ty e S q := by
  have hd := (hC.tab t i hD).desc
  unfold descOk at hd; rw [hk] at hd; simp only at hd
  refine .mk' (fun F w _ => ?_) h
  simp [execOp, hx, hix, Instr.index, asIntOf, run_underlying hd, Sem.run_bind, Result.andThen, hb]

/-- A function without a text. -/
theorem OpG.ext {f : FuncId} {fn : Func} {en : Array Value → Sem Value} {args : Array Operand} {tys : Array TypeId} {v : Value} (hf : C.P.funcs[f]? = some fn) (hname : (fn.name == "runtime.NumGoroutine") = false)
    (hb : fn.body.isNone = true) (hn : Extern.findNext fn = none) (he : Extern.find fn = some en) (hr : ∀ w, (en (args.toList.map (ev e)).toArray).run C.P w = .ok v w) (h : K v S) : OpG C.P (.call ⟨.value (.func f), args, tys⟩) ty e S K := by
  refine ⟨fun F w hw => ?_⟩
  have ha : args.map (ev e) = (args.toList.map (ev e)).toArray := by rw [← Array.toList_map]
  have h1 := run_callFunc_extern hf hname hb hn he (args.toList.map (ev e)).toArray w
  rw [hr w] at h1
  simp only [execOp, resolve, ev, Deferred.ofValue, Sem.run_bind, Sem.run_pure, Result.andThen, invoke, ha, Array.append_empty, Array.empty_append]
  simp only [Result.andThen] at h1
  rw [h1]
  exact ⟨S, hw, .refl _, h⟩

def sub64Entry : Array Value → Sem Value := fun args => do
  let (x, y, b) ← Extern.MathBitsCarry.three "Sub64" args
  pure (Extern.MathBitsCarry.pair ((x + Extern.MathBitsCarry.m64 - y - b) % Extern.MathBitsCarry.m64) (if x < y + b then 1 else 0))

theorem run_add64N {P : Program} (x y c : Nat) (hc : c ≤ 1) (w : World) :
    (add64Entry #[.int .u64 (x : Nat), .int .u64 (y : Nat), .int .u64 (c : Nat)]).run P w = .ok (.tuple #[.int .u64 ((x + y + c) % 18446744073709551616 : Nat), .int .u64 ((x + y + c) / 18446744073709551616 : Nat)]) w := by
  have : c = 0 ∨ c = 1 := by omega
  rcases this with rfl | rfl <;> rfl
theorem run_sub64N {P : Program} (x y c : Nat) (hc : c ≤ 1) (w : World) :
    (sub64Entry #[.int .u64 (x : Nat), .int .u64 (y : Nat), .int .u64 (c : Nat)]).run P w = .ok (.tuple #[.int .u64 ((x + 18446744073709551616 - y - c) % 18446744073709551616 : Nat), .int .u64 ((if x < y + c then 1 else 0 : Nat) : Int)]) w := by
  have : c = 0 ∨ c = 1 := by omega
  rcases this with rfl | rfl <;> rfl

/-- clear of a row. -/
theorem OpG.clear (hC : C.Ok) {a : Operand} {t : TypeId} {i j : TI} {b o n c : Nat} {x : Ent} (k : Nat) (hx : S.G[k]? = some x) (hD : C.D t = some i) (hk : i.kind = 4) (hj : C.D i.elem = some j) (hz : ∀ p, p < j.size → one (j.zero p) = true) (ha : ev e a = sl b o n c) (hb : x.b = b) (ho : o + mulS n j.size ≤ x.sz)
    (h : K (.tuple #[]) ⟨S.I, S.G.set k ⟨x.b, x.sz, x.T, updN x.c o ((List.range (mulS n j.size)).map (zc j))⟩⟩) : OpG C.P (.call ⟨.builtin .clear, #[a], #[t]⟩) ty e S K := by
  simp only [mulS_eq] at *
  refine ⟨fun F w hw => ?_⟩
  subst hb
  have hd := (hC.tab t i hD).desc
  unfold descOk at hd; rw [hk] at hd; simp only at hd
  obtain ⟨z, z1, z2, z3⟩ := (hC.tab i.elem j hj).zeroValue w
  by_cases hn : n = 0
  · subst hn
    have e0 : updN x.c o ((List.range (0 * j.size)).map (zc j)) = x.c := by simp [updN_nil]
    rw [e0] at h
    have e1 : S.G.set k ⟨x.b, x.sz, x.T, x.c⟩ = S.G := by
      obtain ⟨hlt, hx⟩ := List.getElem?_eq_some_iff.1 hx
      rw [← hx]; exact List.set_getElem_self hlt
    rw [e1] at h
    simp only [sl] at ha
    simp only [execOp, resolve, invoke, builtin, Builtin.clear_, List.map_toArray, List.map_cons, List.map_nil, List.getElem?_toArray, List.getElem?_cons_zero, ha, run_underlying hd, Sem.run_bind, Sem.run_pure, Result.andThen, OpUpon]
    exact ⟨_, hw, .refl _, h⟩
  · have hzc : (Builtin.zeroCells z.cells n).toList = (List.range (n * j.size)).map (zc j) := by
      apply List.ext_getElem?
      intro p
      by_cases hp : p < n * j.size
      · have hpos : 0 < j.size := Nat.pos_of_ne_zero fun h0 => by simp [h0] at hp
        have := range_map_get (n * z.cells.size) z.cells j.zero (by rw [z2]; exact z3) (fun _ => by rw [z2]; exact hpos) p (by simp [z2]; exact hp)
        rw [Array.getElem?_toList]
        unfold Builtin.zeroCells
        rw [this, z2, List.getElem?_map, List.getElem?_range hp]
        simp [zc_eq]
      · rw [List.getElem?_eq_none (by simp [Builtin.zeroCells, z2]; omega), List.getElem?_eq_none (by simp; omega)]
    obtain ⟨w', hr, hh⟩ := storeCells_run (P := C.P) (F := F) ((List.range (n * j.size)).map (zc j)) 0 w S x k o hw hx (by simpa using ho) (by
      intro v hv
      obtain ⟨p, hp, rfl⟩ := List.mem_map.1 hv
      rw [zc_eq]
      have hpos : 0 < j.size := Nat.pos_of_ne_zero fun h0 => by simp [h0] at hp
      exact hz _ (Nat.mod_lt _ hpos))
    simp only [Nat.add_zero] at hh
    have hn2 : ∃ m, n = m + 1 := ⟨n - 1, by omega⟩
    obtain ⟨m, rfl⟩ := hn2
    simp only [sl] at ha
    simp only [execOp, resolve, invoke, builtin, Builtin.clear_, List.map_toArray, List.map_cons, List.map_nil, List.getElem?_toArray, List.getElem?_cons_zero, ha, run_underlying hd, Sem.run_bind, Sem.run_pure, Result.andThen, z1, hzc, hr, OpUpon]
    exact ⟨_, hh, .refl _, h⟩

/-- The bytes of a slice as a string. -/
def strOf (ds : List Nat) : ByteArray := ds.foldl (fun r n => r.push (UInt8.ofNat n)) ByteArray.empty
theorem strOf_data (ds : List Nat) (s : ByteArray) : (ds.foldl (fun r n => r.push (UInt8.ofNat n)) s).data.toList = s.data.toList ++ ds.map UInt8.ofNat := by
  induction ds generalizing s with
  | nil => simp
  | cons d ds ih => rw [List.foldl_cons, ih]; simp [ByteArray.push]
theorem baToList (s : ByteArray) : s.toList = s.data.toList := by
  have loop : ∀ (k : Nat) (i : Nat) (r : List UInt8), s.size - i = k → ByteArray.toList.loop s i r = r.reverse ++ s.data.toList.drop i := by
    intro k
    induction k with
    | zero =>
      intro i r hk
      rw [ByteArray.toList.loop.eq_def]
      rw [if_neg (by omega), List.drop_of_length_le (by have : s.data.toList.length = s.size := rfl; omega)]; simp
    | succ k ih =>
      intro i r hk
      rw [ByteArray.toList.loop.eq_def]
      have hi : i < s.data.toList.length := by have : s.data.toList.length = s.size := rfl; omega
      rw [if_pos (by omega), ih (i + 1) _ (by omega), List.drop_eq_getElem_cons hi]
      have : s.get! i = s.data.toList[i] := by
        have h2 : i < s.data.size := by simpa using hi
        simp [ByteArray.get!, getElem!_pos s.data i h2]
      simp [this]
  have := loop _ 0 [] rfl
  unfold ByteArray.toList
  rw [this]; simp
theorem strOf_list (ds : List Nat) : (strOf ds).toList = ds.map UInt8.ofNat := by
  rw [baToList, strOf, strOf_data]; rfl

theorem QuG.str (hC : C.Ok) {s d : TypeId} {a : Operand} {i j k : TI} {b o n cap : Nat} {ds : List Nat} {x : Ent} (hr : Row x.c o (bvs ds)) (hx : Rd S x) (hs : C.D s = some i) (hk : i.kind = 4) (hj : C.D i.elem = some j) (hjk : j.kind = 1) (hju : j.ik = .u8) (hd : C.D d = some k) (hdk : k.kind = 2) (ha : ev e a = sl b o n cap) (hb : x.b = b) (hn : ds.length = n) (ho : o + n ≤ x.sz)
    (h : q (.string (strOf ds))) : QuG C.P (.convert s d a) ty e S q := by
  subst hb; subst hn
  have h1 := (hC.tab s i hs).desc
  unfold descOk at h1; rw [hk] at h1; simp only at h1
  have h2 := (hC.tab i.elem j hj).desc
  unfold descOk at h2; rw [hjk] at h2; simp only [hju] at h2
  have h3 := (hC.tab d k hd).desc
  unfold descOk at h3; rw [hdk] at h3; simp only at h3
  refine .mk' (fun F w hw => ?_) h
  have h4 := loadCells_run (P := C.P) (hw.rd hx) ds.length o ho
  rw [hr.cells (by simp)] at h4
  have h5 : (bvs ds) = (ds.map (fun d : Nat => (d : Int))).map (Value.int .u8) := by simp [bvs]
  rw [h5] at h4
  have h6 := run_bytesToString w ⟨x.b, o, none⟩ ds.length cap _ h4
  have h7 := run_convert_bytes_string w s d i.elem (some ⟨x.b, o, none⟩) ds.length cap h1 h2 h3
  simp only [sl] at ha
  simp only [execOp, ha, Sem.run_bind, h7, h6, Result.andThen, Sem.run_pure, List.foldl_map, Int.toNat_natCast]
  rfl
theorem QuG.str0 (hC : C.Ok) {s d : TypeId} {a : Operand} {i j k : TI} {n cap : Nat} (hs : C.D s = some i) (hk : i.kind = 4) (hj : C.D i.elem = some j) (hjk : j.kind = 1) (hju : j.ik = .u8) (hd : C.D d = some k) (hdk : k.kind = 2) (ha : ev e a = .slice none n cap)
    (h : q (.string (strOf []))) : QuG C.P (.convert s d a) ty e S q := by
  have h1 := (hC.tab s i hs).desc
  unfold descOk at h1; rw [hk] at h1; simp only at h1
  have h2 := (hC.tab i.elem j hj).desc
  unfold descOk at h2; rw [hjk] at h2; simp only [hju] at h2
  have h3 := (hC.tab d k hd).desc
  unfold descOk at h3; rw [hdk] at h3; simp only at h3
  refine .mk' (fun F w hw => ?_) h
  have h7 := run_convert_bytes_string w s d i.elem none n cap h1 h2 h3
  simp [execOp, ha, Sem.run_bind, h7, Conv.bytesToString, Result.andThen, Sem.run_pure, strOf]

def ltL : List Nat → List Nat → Bool
  | _, [] => false
  | [], _ :: _ => true
  | a :: x, b :: y => decide (a < b) || (a == b && ltL x y)
theorem bytesLess_ltL : ∀ (x y : List Nat), (∀ d ∈ x, d < 256) → (∀ d ∈ y, d < 256) → Op.bytesLess (x.map UInt8.ofNat) (y.map UInt8.ofNat) = ltL x y
  | [], [], _, _ => by simp [Op.bytesLess, ltL]
  | _ :: _, [], _, _ => by simp [Op.bytesLess, ltL]
  | [], _ :: _, _, _ => by simp [Op.bytesLess, ltL]
  | a :: x, b :: y, hx, hy => by
    have ha := hx a (by simp)
    have hb := hy b (by simp)
    simp only [List.map_cons, Op.bytesLess, ltL, bytesLess_ltL x y (fun d h => hx d (by simp [h])) (fun d h => hy d (by simp [h]))]
    have e1 : (UInt8.ofNat a < UInt8.ofNat b) ↔ a < b := by
      rw [UInt8.lt_iff_toNat_lt]; simp; omega
    have e2 : (UInt8.ofNat a == UInt8.ofNat b) = (a == b) := by
      rw [Bool.eq_iff_iff]; simp only [beq_iff_eq]
      rw [← UInt8.toNat_inj]; simp; omega
    simp only [e1, e2]
theorem map_u8_inj {x y : List Nat} (hx : ∀ d ∈ x, d < 256) (hy : ∀ d ∈ y, d < 256) : (x.map UInt8.ofNat == y.map UInt8.ofNat) = decide (x = y) := by
  rw [Bool.eq_iff_iff]; simp only [beq_iff_eq, decide_eq_true_eq]
  constructor
  · intro h
    induction x generalizing y with
    | nil => cases y <;> simp_all
    | cons a x ih =>
      cases y with
      | nil => simp at h
      | cons b y =>
        simp only [List.map_cons, List.cons.injEq] at h
        have ha := hx a (by simp)
        have hb := hy b (by simp)
        have : a = b := by
          have := congrArg UInt8.toNat h.1
          simp at this; omega
        rw [this, ih (fun d h => hx d (by simp [h])) (fun d h => hy d (by simp [h])) h.2]
  · rintro rfl; rfl

theorem QuG.strLt {P : Program} {t u : TypeId} {x y : Operand} {a b : List Nat} (hx : ev e x = .string (strOf a)) (hy : ev e y = .string (strOf b)) (ha : ∀ d ∈ a, d < 256) (hb : ∀ d ∈ b, d < 256) (h : q (.bool (ltL a b))) : QuG P (.binOp .lss t x y u) ty e S q := by
  refine .mk' (fun F w _ => ?_) h
  simp [execOp, hx, hy, Sem.run_bind, eqGuard, Result.andThen, binOp, Op.stringOp, strOf_list, bytesLess_ltL a b ha hb]
theorem QuG.strGe {P : Program} {t u : TypeId} {x y : Operand} {a b : List Nat} (hx : ev e x = .string (strOf a)) (hy : ev e y = .string (strOf b)) (ha : ∀ d ∈ a, d < 256) (hb : ∀ d ∈ b, d < 256) (h : q (.bool (!ltL a b))) : QuG P (.binOp .geq t x y u) ty e S q := by
  refine .mk' (fun F w _ => ?_) h
  simp [execOp, hx, hy, Sem.run_bind, eqGuard, Result.andThen, binOp, Op.stringOp, strOf_list, bytesLess_ltL a b ha hb]
theorem QuG.strEq {P : Program} {t u : TypeId} {x y : Operand} {a b : List Nat} (hx : ev e x = .string (strOf a)) (hy : ev e y = .string (strOf b)) (ha : ∀ d ∈ a, d < 256) (hb : ∀ d ∈ b, d < 256) (h : q (.bool (decide (a = b)))) : QuG P (.binOp .eql t x y u) ty e S q := by
  refine .mk' (fun F w _ => ?_) h
  simp only [execOp, hx, hy, Sem.run_bind, eqGuard, Result.andThen, binOp, Op.stringOp, strOf_list, map_u8_inj ha hb]
  simp
end
end Go.HL
