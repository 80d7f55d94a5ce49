import Derived.Test.YgvafwGreatHLq
set_option linter.unusedVariables false
set_option linter.unusedSimpArgs false
namespace Go.HL
/-! ### Numbers -/
theorem wrapI64 (n : Int) (h0 : -9223372036854775808 ≤ n) (h1 : n < 9223372036854775808) : IntKind.wrap .i64 n = n := by
  have e : IntKind.bits .i64 = 64 := rfl
  have e2 : IntKind.signed .i64 = true := rfl
  unfold IntKind.wrap
  simp only [e, e2, Bool.true_and, ge_iff_le, decide_eq_true_eq]
  split <;> omega
theorem wrapI32 (n : Int) (h0 : -2147483648 ≤ n) (h1 : n < 2147483648) : IntKind.wrap .i32 n = n := by
  have e : IntKind.bits .i32 = 32 := rfl
  have e2 : IntKind.signed .i32 = true := rfl
  unfold IntKind.wrap
  simp only [e, e2, Bool.true_and, ge_iff_le, decide_eq_true_eq]
  split <;> omega
theorem wrapI8 (n : Int) (h0 : -128 ≤ n) (h1 : n < 128) : IntKind.wrap .i8 n = n := by
  have e : IntKind.bits .i8 = 8 := rfl
  have e2 : IntKind.signed .i8 = true := rfl
  unfold IntKind.wrap
  simp only [e, e2, Bool.true_and, ge_iff_le, decide_eq_true_eq]
  split <;> omega
theorem wrapU64 (n : Int) : IntKind.wrap .u64 n = n % 18446744073709551616 := by
  have e : IntKind.bits .u64 = 64 := rfl
  have e2 : IntKind.signed .u64 = false := rfl
  unfold IntKind.wrap
  simp only [e, e2, Bool.false_and, Bool.false_eq_true, if_false]; rfl
theorem wrapU32 (n : Int) : IntKind.wrap .u32 n = n % 4294967296 := by
  have e : IntKind.bits .u32 = 32 := rfl
  have e2 : IntKind.signed .u32 = false := rfl
  unfold IntKind.wrap
  simp only [e, e2, Bool.false_and, Bool.false_eq_true, if_false]; rfl
theorem wrapU16 (n : Int) : IntKind.wrap .u16 n = n % 65536 := by
  have e : IntKind.bits .u16 = 16 := rfl
  have e2 : IntKind.signed .u16 = false := rfl
  unfold IntKind.wrap
  simp only [e, e2, Bool.false_and, Bool.false_eq_true, if_false]; rfl
theorem wrapU8 (n : Int) : IntKind.wrap .u8 n = n % 256 := by
  have e : IntKind.bits .u8 = 8 := rfl
  have e2 : IntKind.signed .u8 = false := rfl
  unfold IntKind.wrap
  simp only [e, e2, Bool.false_and, Bool.false_eq_true, if_false]; rfl

theorem ishr_nat {k : IntKind} (x s : Nat) (h : s ≤ k.bits) : ishr k (x : Int) (s : Int) = ((x / 2 ^ s : Nat) : Int) := by
  unfold ishr
  have : min ((s : Int).toNat) k.bits = s := by simp [h]
  rw [this]
  have e : ((2 : Int) ^ s) = ((2 ^ s : Nat) : Int) := by simp
  rw [e, Int.fdiv_eq_ediv_of_nonneg _ (Int.natCast_nonneg _)]
  simp
theorem ishl_nat {k : IntKind} (x s : Nat) (h : s ≤ k.bits) : ishl k (x : Int) (s : Int) = k.wrap ((x * 2 ^ s : Nat) : Int) := by
  unfold ishl
  have : min ((s : Int).toNat) k.bits = s := by simp [h]
  rw [this]; simp
theorem iand_nat {k : IntKind} (x y : Nat) (hx : x < 2 ^ k.bits) (hy : y < 2 ^ k.bits) (hs : k.signed = false) : iand k (x : Int) (y : Int) = ((x &&& y : Nat) : Int) := by
  unfold iand
  have e1 : (BitVec.ofInt k.bits (x : Int)) = BitVec.ofNat k.bits x := by simp
  have e2 : (BitVec.ofInt k.bits (y : Int)) = BitVec.ofNat k.bits y := by simp
  rw [e1, e2, BitVec.toNat_and, BitVec.toNat_ofNat, BitVec.toNat_ofNat, Nat.mod_eq_of_lt hx, Nat.mod_eq_of_lt hy]
  unfold IntKind.wrap
  simp only [hs, Bool.false_and, Bool.false_eq_true, if_false]
  have : x &&& y < 2 ^ k.bits := Nat.and_lt_two_pow _ hy
  rw [show ((2 : Int) ^ k.bits) = ((2 ^ k.bits : Nat) : Int) by simp, ← Int.natCast_emod, Nat.mod_eq_of_lt this]
theorem ior_nat {k : IntKind} (x y : Nat) (hx : x < 2 ^ k.bits) (hy : y < 2 ^ k.bits) (hs : k.signed = false) : ior k (x : Int) (y : Int) = ((x ||| y : Nat) : Int) := by
  unfold ior
  have e1 : (BitVec.ofInt k.bits (x : Int)) = BitVec.ofNat k.bits x := by simp
  have e2 : (BitVec.ofInt k.bits (y : Int)) = BitVec.ofNat k.bits y := by simp
  rw [e1, e2, BitVec.toNat_or, BitVec.toNat_ofNat, BitVec.toNat_ofNat, Nat.mod_eq_of_lt hx, Nat.mod_eq_of_lt hy]
  unfold IntKind.wrap
  simp only [hs, Bool.false_and, Bool.false_eq_true, if_false]
  have : x ||| y < 2 ^ k.bits := Nat.or_lt_two_pow hx hy
  rw [show ((2 : Int) ^ k.bits) = ((2 ^ k.bits : Nat) : Int) by simp, ← Int.natCast_emod, Nat.mod_eq_of_lt this]
theorem ixor_nat {k : IntKind} (x y : Nat) (hx : x < 2 ^ k.bits) (hy : y < 2 ^ k.bits) (hs : k.signed = false) : ixor k (x : Int) (y : Int) = ((x ^^^ y : Nat) : Int) := by
  unfold ixor
  have e1 : (BitVec.ofInt k.bits (x : Int)) = BitVec.ofNat k.bits x := by simp
  have e2 : (BitVec.ofInt k.bits (y : Int)) = BitVec.ofNat k.bits y := by simp
  rw [e1, e2, BitVec.toNat_xor, BitVec.toNat_ofNat, BitVec.toNat_ofNat, Nat.mod_eq_of_lt hx, Nat.mod_eq_of_lt hy]
  unfold IntKind.wrap
  simp only [hs, Bool.false_and, Bool.false_eq_true, if_false]
  have : x ^^^ y < 2 ^ k.bits := Nat.xor_lt_two_pow hx hy
  rw [show ((2 : Int) ^ k.bits) = ((2 ^ k.bits : Nat) : Int) by simp, ← Int.natCast_emod, Nat.mod_eq_of_lt this]

@[simp] theorem mulS_one (n : Nat) : mulS n 1 = n := rfl
@[simp] theorem addS_zero (n : Nat) : addS 0 n = n := rfl
theorem vint {k : IntKind} {a b : Int} (h : a = b) : Value.int k a = .int k b := by rw [h]

/-! ### A loop that is left in one way -/
def loopQ {σ : Type} (J : σ → Env → St → Prop) (μ : σ → Nat) (s : σ) (x : Nat) (E : Env → St → Prop) (Q : HPost) : HPost
  | .normal, e, S => ∃ s2, J s2 e S ∧ μ s2 < μ s
  | .exit i, e, S => bif Nat.beq i x then E e S else Q (.exit i) e S
  | y, e, S => Q y e S
theorem W.loopE {C : Cfg} {n : Nat} (hC : C.Ok) {e : Env} {S : St} {Q : HPost} {σ : Type} {c : Code} (hok : codeOk n c = true) (x : Nat) (J : σ → Env → St → Prop) (μ : σ → Nat) (s0 : σ) (h0 : J s0 e S) (E : Env → St → Prop)
    (cont : ∀ e' S', Sub S.I S'.I → E e' S' → Q (.exit x) e' S')
    (round : ∀ s e' S', Sub S.I S'.I → J s e' S' → W C n c (loopQ J μ s x E Q) e' S') : GW C.P n (.loop c) e S Q := by
  refine .loop J μ s0 h0 fun s e' S' hs hJ => (W_sound hC c _ e' S' hok (round s e' S' hs hJ)).mono fun y e2 S2 hs2 q => ?_
  cases y with
  | exit i =>
    simp only [thenQ]
    simp only [loopQ] at q
    cases hi : Nat.beq i x with
    | false => rw [hi] at q; exact q
    | true => rw [hi] at q; have : i = x := Nat.eq_of_beq_eq_true hi; subst this; exact cont e2 S2 (hs.trans hs2) q
  | _ => exact q

/-! ### Rows of bytes -/
/-- The bytes 'ds' stand in block x from o on. -/
def Bs (x : Ent) (o : Nat) (ds : List Nat) : Prop := o + ds.length ≤ x.sz ∧ ∀ i, i < ds.length → x.c (o + i) = .int .u8 (ds.getD i 0 : Nat)
/-- A slice of bytes that can be read. -/
def Byt (S : St) (v : Value) (ds : List Nat) : Prop :=
  (∀ d ∈ ds, d < 256) ∧ ds.length < 2 ^ 47 ∧ ∃ a cap, v = .slice a ds.length cap ∧ ds.length ≤ cap ∧ cap < 2 ^ 63 ∧ ((a = none ∧ ds = [] ∧ cap = 0) ∨ ∃ x o, a = some ⟨x.b, o, none⟩ ∧ Rd S x ∧ Bs x o ds)
def val : List Nat → Nat
  | [] => 0
  | d :: ds => d + 256 * val ds
def Norm (ds : List Nat) : Prop := ds = [] ∨ ds.getD (ds.length - 1) 0 ≠ 0
/-- A natural number of the specification's: nobody writes it any more. -/
def NatI (I : Ent → Prop) (v : Value) (n : Nat) : Prop := ∃ ds, Byt ⟨I, []⟩ v ds ∧ Norm ds ∧ val ds = n ∧ ds.length ≤ 80

theorem Rd.mono {S S' : St} {x : Ent} (h : Rd S x) (hI : Sub S.I S'.I) (hG : ∀ x ∈ S.G, x ∈ S'.G) : Rd S' x := h.imp (hI x) (hG x)
theorem Byt.mono {S S' : St} {v : Value} {ds : List Nat} (h : Byt S v ds) (hI : Sub S.I S'.I) (hG : ∀ x ∈ S.G, x ∈ S'.G) : Byt S' v ds := by
  obtain ⟨h1, h2, h3⟩ := h
  obtain ⟨a, cap, e1, e2, e3, e4⟩ := h3
  exact ⟨h1, h2, a, cap, e1, e2, e3, e4.imp id fun ⟨x, o, a, d, f⟩ => ⟨x, o, a, d.mono hI hG, f⟩⟩
theorem NatI.mono {I J : Ent → Prop} {v : Value} {n : Nat} (h : NatI I v n) (hs : Sub I J) : NatI J v n := by
  obtain ⟨ds, a, b, c⟩ := h
  exact ⟨ds, a.mono hs (by simp), b, c⟩
theorem NatI.byt {I : Ent → Prop} {v : Value} {n : Nat} (h : NatI I v n) (G : List Ent) : ∃ ds, Byt ⟨I, G⟩ v ds ∧ Norm ds ∧ val ds = n ∧ ds.length ≤ 80 := by
  obtain ⟨ds, a, b, c⟩ := h
  exact ⟨ds, a.mono (.refl _) (by simp), b, c⟩

theorem val_append (a b : List Nat) : val (a ++ b) = val a + 256 ^ a.length * val b := by
  induction a with
  | nil => simp [val]
  | cons d a ih => simp only [List.cons_append, val, ih, List.length_cons, Nat.pow_succ]; rw [Nat.mul_add, ← Nat.add_assoc, ← Nat.mul_assoc, Nat.mul_comm 256 (256 ^ a.length)]
theorem val_lt (a : List Nat) (h : ∀ d ∈ a, d < 256) : val a < 256 ^ a.length := by
  induction a with
  | nil => simp [val]
  | cons d a ih =>
    have h1 := ih (fun x hx => h x (by simp [hx]))
    have h2 := h d (by simp)
    simp only [val, List.length_cons, Nat.pow_succ]; omega
theorem val_zeros (a : List Nat) (h : ∀ d ∈ a, d = 0) : val a = 0 := by
  induction a with
  | nil => rfl
  | cons d a ih => simp only [val]; rw [h d (by simp), ih (fun x hx => h x (by simp [hx]))]
/-- The least part of a row that bears its number. -/
structure Trim (ds : List Nat) (k : Nat) : Prop where
  le : k ≤ ds.length
  zero : ∀ i, k ≤ i → i < ds.length → ds.getD i 0 = 0
  top : k = 0 ∨ ds.getD (k - 1) 0 ≠ 0
theorem Trim.val {ds : List Nat} {k : Nat} (h : Trim ds k) : HL.val (ds.take k) = HL.val ds := by
  conv => rhs; rw [← List.take_append_drop k ds]
  rw [val_append, val_zeros (ds.drop k)]
  · simp
  · intro d hd
    obtain ⟨i, hi⟩ := List.mem_iff_getElem?.1 hd
    rw [List.getElem?_drop] at hi
    have hlt := (List.getElem?_eq_some_iff.1 hi).1
    have := h.zero (k + i) (by omega) hlt
    rw [List.getD_eq_getElem?_getD, hi] at this
    simpa using this
theorem Trim.norm {ds : List Nat} {k : Nat} (h : Trim ds k) : Norm (ds.take k) := by
  have hle := h.le
  rcases h.top with h0 | h0
  · left; simp [h0]
  · by_cases hk : k = 0
    · left; simp [hk]
    · right
      have : (ds.take k).length = k := by simp; omega
      rw [this]
      simpa [List.getD_eq_getElem?_getD, List.getElem?_take, show k - 1 < k by omega] using h0
theorem Byt.lt {S : St} {v : Value} {ds : List Nat} (h : Byt S v ds) : ∀ d ∈ ds, d < 256 := h.1
theorem getD_lt {ds : List Nat} (h : ∀ d ∈ ds, d < 256) (i : Nat) : ds.getD i 0 < 256 := by
  rw [List.getD_eq_getElem?_getD]
  cases hi : ds[i]? with
  | none => simp
  | some d => simpa using h d (List.mem_of_getElem? hi)
theorem Bs.take {x : Ent} {o : Nat} {ds : List Nat} (h : Bs x o ds) (k : Nat) : Bs x o (ds.take k) := by
  obtain ⟨h1, h2⟩ := h
  refine ⟨by simp; omega, fun i hi => ?_⟩
  simp only [List.length_take] at hi
  rw [h2 i (by omega)]
  simp [List.getD_eq_getElem?_getD, List.getElem?_take, show i < k by omega]
theorem Byt.some {S : St} {a : Option Addr} {n cap : Nat} {ds : List Nat} (h : Byt S (.slice a n cap) ds) (hpos : 0 < ds.length) : ∃ x o, a = some ⟨x.b, o, none⟩ ∧ Rd S x ∧ Bs x o ds := by
  obtain ⟨_, _, a', cap', h1, _, _, h2⟩ := h
  cases h1
  rcases h2 with ⟨_, h, _⟩ | h
  · simp [h] at hpos
  · exact h
theorem Byt.form {S : St} {v : Value} {ds : List Nat} (h : Byt S v ds) : ∃ a cap, v = .slice a ds.length cap ∧ ds.length ≤ cap ∧ cap < 2 ^ 63 ∧ Byt S (.slice a ds.length cap) ds := by
  obtain ⟨h1, h2, a, cap, h3, h4, h5, h6⟩ := h
  exact ⟨a, cap, h3, h4, h5, h1, h2, a, cap, rfl, h4, h5, h6⟩
theorem Byt.cut {S : St} {a : Option Addr} {n cap k : Nat} {ds : List Nat} (h : Byt S (.slice a n cap) ds) (hk : k ≤ ds.length) : Byt S (.slice a k k) (ds.take k) := by
  obtain ⟨h1, h2, a', cap', h3, h4, h5, h6⟩ := h
  cases h3
  have hlen : (ds.take k).length = k := by simp; omega
  refine ⟨fun d hm => h1 d (List.mem_of_mem_take hm), by omega, a, k, by rw [hlen], by omega, by omega, ?_⟩
  rcases h6 with ⟨ha, hd, hc⟩ | ⟨x, o, ha, hx, hb⟩
  · subst hd; left; exact ⟨ha, by simp, by simp at hk; omega⟩
  · right; exact ⟨x, o, ha, hx, hb.take k⟩
theorem Byt.nil (S : St) : Byt S (.slice none 0 0) [] := ⟨by simp, by decide, none, 0, rfl, by simp, by decide, .inl ⟨rfl, rfl, rfl⟩⟩
theorem NatI.zero (I : Ent → Prop) : NatI I (.slice none 0 0) 0 := ⟨[], Byt.nil _, .inl rfl, rfl, by simp⟩
theorem Trim.ex (ds : List Nat) : ∃ k, Trim ds k := by
  have : ∀ n, n ≤ ds.length → (∀ i, n ≤ i → i < ds.length → ds.getD i 0 = 0) → ∃ k, Trim ds k := by
    intro n; induction n with
    | zero => intro h1 h2; exact ⟨0, by omega, h2, .inl rfl⟩
    | succ n ih =>
      intro h1 h2
      by_cases h : ds.getD n 0 = 0
      · refine ih (by omega) fun i hi hl => ?_
        by_cases hin : i = n
        · subst hin; exact h
        · exact h2 i (by omega) hl
      · exact ⟨n + 1, by omega, h2, .inr (by simpa using h)⟩
  exact this ds.length (Nat.le_refl _) (fun i h1 h2 => by omega)
theorem getD_le_val (ds : List Nat) (i : Nat) : 256 ^ i * ds.getD i 0 ≤ val ds := by
  induction ds generalizing i with
  | nil => simp
  | cons d ds ih =>
    cases i with
    | zero => simp [val]
    | succ i => have := ih i; simp only [val, List.getD_cons_succ, Nat.pow_succ]; rw [Nat.mul_assoc, Nat.mul_comm 256, ← Nat.mul_assoc, Nat.mul_comm _ 256]; omega
/-- The specification's numbers stay below 2^640. -/
def NB : Nat := 256 ^ 80
theorem NB_lt {n : Nat} (h : n < 256 ^ 72) : n < NB := Nat.lt_of_lt_of_le h (Nat.pow_le_pow_right (by decide) (by decide))
/-- A number below 2^640 has at most 80 digits. -/
theorem Norm.len {ds : List Nat} (h : Norm ds) (hv : val ds < NB) : ds.length ≤ 80 := by
  rcases h with rfl | h
  · simp
  · refine Nat.le_of_not_lt fun hl => ?_
    have h1 := getD_le_val ds (ds.length - 1)
    have h2 : 256 ^ 80 ≤ 256 ^ (ds.length - 1) := Nat.pow_le_pow_right (by omega) (by omega)
    have h3 : 256 ^ (ds.length - 1) * 1 ≤ 256 ^ (ds.length - 1) * ds.getD (ds.length - 1) 0 := Nat.mul_le_mul_left _ (Nat.pos_of_ne_zero h)
    have h4 : val ds < 256 ^ 80 := hv
    generalize (256 : Nat) ^ 80 = u at *
    generalize (256 : Nat) ^ (ds.length - 1) = w at *
    omega
theorem Trim.lt {ds : List Nat} {k : Nat} (h : Trim ds k) (hk : k ≠ 0) : ds.getD (k - 1) 0 ≠ 0 := h.top.resolve_left hk
end Go.HL
