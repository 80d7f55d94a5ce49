import Derived.Test.YgvafwGreatHLs
set_option linter.unusedVariables false
set_option linter.unusedSimpArgs false
namespace Go.HL
section
variable {q : Value → Prop} {a b : Nat}
theorem NatS.nat {r : Nat → Prop} (h : r a) : NatS (a : Int) r := ⟨Int.natCast_nonneg a, h⟩
theorem NatS.lit {n : Nat} {r : Nat → Prop} (h : r (OfNat.ofNat n)) : NatS (OfNat.ofNat n : Int) r := NatS.nat (a := OfNat.ofNat n) h
theorem NatS.int {i : Int} {r : Nat → Prop} (n : Nat) (hi : i = n) (h : r n) : NatS i r := by subst hi; exact NatS.nat h
theorem NatS.keep {i : Int} {r : Nat → Prop} (h : NatS i r) : NatS i r := h
theorem ValS.to {v u : Value} (h : v = u) (hq : q u) : ValS v q := ⟨by rw [h]; exact hq⟩
theorem ValS.sl0 {b o h m z : Nat} (hq : q (.slice (some ⟨b, o, none⟩) h m)) : ValS (.slice (some ⟨b, if m = 0 then o else addS o (mulS 0 z), none⟩) (h - 0) (m - 0)) q :=
  ⟨by have : (if m = 0 then o else addS o (mulS 0 z)) = o := by simp [addS_eq, mulS_eq]
      rw [this]; exact hq⟩
theorem ValS.slN {b o h m z l : Nat} (hl : l < m) (hq : q (.slice (some ⟨b, addS o (mulS l z), none⟩) (h - l) (m - l))) : ValS (.slice (some ⟨b, if m = l then o else addS o (mulS l z), none⟩) (h - l) (m - l)) q :=
  ⟨by rw [if_neg (by omega)]; exact hq⟩
theorem ValS.any {v : Value} (hq : q v) : ValS v q := ⟨hq⟩
theorem ValS.keep {v : Value} (h : ValS v q) : ValS v q := h
theorem ValS.kU8 {x : Int} (h : ValS (.int .u8 x) q) : ValS (.int .u8 x) q := h
theorem ValS.kU16 {x : Int} (h : ValS (.int .u16 x) q) : ValS (.int .u16 x) q := h
theorem ValS.kU32 {x : Int} (h : ValS (.int .u32 x) q) : ValS (.int .u32 x) q := h
theorem ValS.kU64 {x : Int} (h : ValS (.int .u64 x) q) : ValS (.int .u64 x) q := h
theorem ValS.kI8 {x : Int} (h : ValS (.int .i8 x) q) : ValS (.int .i8 x) q := h
theorem ValS.kI16 {x : Int} (h : ValS (.int .i16 x) q) : ValS (.int .i16 x) q := h
theorem ValS.kI32 {x : Int} (h : ValS (.int .i32 x) q) : ValS (.int .i32 x) q := h
theorem ValS.kI64 {x : Int} (h : ValS (.int .i64 x) q) : ValS (.int .i64 x) q := h
theorem QuG.keep {P : Program} {op : Op} {ty : TypeId} {e : Env} {S : St} (h : QuG P op ty e S q) : QuG P op ty e S q := h
theorem OpG.keep {P : Program} {op : Op} {ty : TypeId} {e : Env} {S : St} {K : Post} (h : OpG P op ty e S K) : OpG P op ty e S K := h
theorem wrapI16 (n : Int) (h0 : -32768 ≤ n) (h1 : n < 32768) : IntKind.wrap .i16 n = n := by
  have e : IntKind.bits .i16 = 16 := rfl
  have e2 : IntKind.signed .i16 = true := rfl
  unfold IntKind.wrap
  simp only [e, e2, Bool.true_and, ge_iff_le, decide_eq_true_eq]
  split <;> omega
theorem fdiv_min_shr {k : IntKind} (h : b ≤ k.bits) : ishr k (a : Int) (b : Int) = ((a / 2 ^ b : Nat) : Int) := ishr_nat a b h
theorem ValS.remN {k : IntKind} (h : q (.int k ((a % b : Nat) : Int))) : ValS (.int k ((a : Int).tmod (b : Int))) q := ⟨by rw [Int.tmod_eq_emod_of_nonneg (Int.natCast_nonneg a), ← Int.natCast_emod]; exact h⟩
theorem ValS.minN {k : IntKind} (h : q (.int k ((min a b : Nat) : Int))) : ValS (.int k (if (b : Int) < (a : Int) then (b : Int) else (a : Int))) q :=
  ⟨by have : (if (b : Int) < (a : Int) then (b : Int) else (a : Int)) = ((min a b : Nat) : Int) := by split <;> omega
      rw [this]; exact h⟩
theorem ValS.maxN {k : IntKind} (h : q (.int k ((max a b : Nat) : Int))) : ValS (.int k (if (b : Int) > (a : Int) then (b : Int) else (a : Int))) q :=
  ⟨by have : (if (b : Int) > (a : Int) then (b : Int) else (a : Int)) = ((max a b : Nat) : Int) := by split <;> omega
      rw [this]; exact h⟩

theorem ValS.addU8 (hb : a + b < 256) (h : q (.int .u8 ((a + b : Nat) : Int))) : ValS (.int .u8 (IntKind.wrap .u8 ((a : Int) + (b : Int)))) q := ⟨by
  have e : (IntKind.wrap .u8 ((a : Int) + (b : Int))) = ((a + b : Nat) : Int) := by rw [wrapU8]; omega
  rw [e]; exact h⟩
theorem ValS.subU8 (hb : b ≤ a) (hc : a < 256) (h : q (.int .u8 ((a - b : Nat) : Int))) : ValS (.int .u8 (IntKind.wrap .u8 ((a : Int) - (b : Int)))) q := ⟨by
  have e : (IntKind.wrap .u8 ((a : Int) - (b : Int))) = ((a - b : Nat) : Int) := by rw [wrapU8]; omega
  rw [e]; exact h⟩
theorem ValS.mulU8 (hb : a * b < 256) (h : q (.int .u8 ((a * b : Nat) : Int))) : ValS (.int .u8 (IntKind.wrap .u8 ((a : Int) * (b : Int)))) q := ⟨by
  have e : (IntKind.wrap .u8 ((a : Int) * (b : Int))) = ((a * b : Nat) : Int) := by rw [← Int.natCast_mul]; generalize a * b = m at *; rw [wrapU8]; omega
  rw [e]; exact h⟩
theorem ValS.convU8 (hb : a < 256) (h : q (.int .u8 ((a : Nat) : Int))) : ValS (.int .u8 (IntKind.wrap .u8 (a : Int))) q := ⟨by
  have e : (IntKind.wrap .u8 (a : Int)) = ((a : Nat) : Int) := by rw [wrapU8]; omega
  rw [e]; exact h⟩
theorem ValS.quoU8 (hb : a < 256) (h : q (.int .u8 ((a / b : Nat) : Int))) : ValS (.int .u8 (IntKind.wrap .u8 ((a : Int).tdiv (b : Int)))) q := ⟨by
  have e : (IntKind.wrap .u8 ((a : Int).tdiv (b : Int))) = ((a / b : Nat) : Int) := by have := Nat.div_le_self a b; rw [Int.tdiv_eq_ediv_of_nonneg (Int.natCast_nonneg a), ← Int.natCast_ediv]; generalize a / b = m at *; rw [wrapU8]; omega
  rw [e]; exact h⟩
theorem ValS.shrU8 (hb : b ≤ 8) (h : q (.int .u8 ((a / 2 ^ b : Nat) : Int))) : ValS (.int .u8 (ishr .u8 (a : Int) (b : Int))) q := ⟨by rw [ishr_nat (k := .u8) a b hb]; exact h⟩
theorem ValS.shlU8 (hs : b ≤ 8) (hb : a * 2 ^ b < 256) (h : q (.int .u8 ((a * 2 ^ b : Nat) : Int))) : ValS (.int .u8 (ishl .u8 (a : Int) (b : Int))) q := ⟨by
  have e : (ishl .u8 (a : Int) (b : Int)) = ((a * 2 ^ b : Nat) : Int) := by rw [ishl_nat (k := .u8) a b hs]; generalize a * 2 ^ b = m at *; rw [wrapU8]; omega
  rw [e]; exact h⟩
theorem ValS.addWU8  (h : q (.int .u8 (((a + b) % 256 : Nat) : Int))) : ValS (.int .u8 (IntKind.wrap .u8 ((a : Int) + (b : Int)))) q := ⟨by
  have e : (IntKind.wrap .u8 ((a : Int) + (b : Int))) = (((a + b) % 256 : Nat) : Int) := by rw [wrapU8]; omega
  rw [e]; exact h⟩
theorem ValS.subWU8 (hb : b ≤ 256) (h : q (.int .u8 (((a + 256 - b) % 256 : Nat) : Int))) : ValS (.int .u8 (IntKind.wrap .u8 ((a : Int) - (b : Int)))) q := ⟨by
  have e : (IntKind.wrap .u8 ((a : Int) - (b : Int))) = (((a + 256 - b) % 256 : Nat) : Int) := by rw [wrapU8]; omega
  rw [e]; exact h⟩
theorem ValS.mulWU8  (h : q (.int .u8 ((a * b % 256 : Nat) : Int))) : ValS (.int .u8 (IntKind.wrap .u8 ((a : Int) * (b : Int)))) q := ⟨by
  have e : (IntKind.wrap .u8 ((a : Int) * (b : Int))) = ((a * b % 256 : Nat) : Int) := by rw [← Int.natCast_mul]; generalize a * b = m at *; rw [wrapU8]; omega
  rw [e]; exact h⟩
theorem ValS.convWU8  (h : q (.int .u8 ((a % 256 : Nat) : Int))) : ValS (.int .u8 (IntKind.wrap .u8 (a : Int))) q := ⟨by
  have e : (IntKind.wrap .u8 (a : Int)) = ((a % 256 : Nat) : Int) := by rw [wrapU8]; omega
  rw [e]; exact h⟩
theorem ValS.shlWU8 (hs : b ≤ 8) (h : q (.int .u8 ((a * 2 ^ b % 256 : Nat) : Int))) : ValS (.int .u8 (ishl .u8 (a : Int) (b : Int))) q := ⟨by
  have e : (ishl .u8 (a : Int) (b : Int)) = ((a * 2 ^ b % 256 : Nat) : Int) := by rw [ishl_nat (k := .u8) a b hs]; generalize a * 2 ^ b = m at *; rw [wrapU8]; omega
  rw [e]; exact h⟩
theorem ValS.andU8 (ha : a < 256) (hb : b < 256) (h : q (.int .u8 ((a &&& b : Nat) : Int))) : ValS (.int .u8 (iand .u8 (a : Int) (b : Int))) q := ⟨by
  have e : (iand .u8 (a : Int) (b : Int)) = ((a &&& b : Nat) : Int) := by exact iand_nat a b ha hb rfl
  rw [e]; exact h⟩
theorem ValS.orU8 (ha : a < 256) (hb : b < 256) (h : q (.int .u8 ((a ||| b : Nat) : Int))) : ValS (.int .u8 (ior .u8 (a : Int) (b : Int))) q := ⟨by
  have e : (ior .u8 (a : Int) (b : Int)) = ((a ||| b : Nat) : Int) := by exact ior_nat a b ha hb rfl
  rw [e]; exact h⟩
theorem ValS.xorU8 (ha : a < 256) (hb : b < 256) (h : q (.int .u8 ((a ^^^ b : Nat) : Int))) : ValS (.int .u8 (ixor .u8 (a : Int) (b : Int))) q := ⟨by
  have e : (ixor .u8 (a : Int) (b : Int)) = ((a ^^^ b : Nat) : Int) := by exact ixor_nat a b ha hb rfl
  rw [e]; exact h⟩
theorem ValS.notU8 (ha : a < 256) (h : q (.int .u8 ((255 - a : Nat) : Int))) : ValS (.int .u8 (ixor .u8 (if IntKind.signed .u8 then -1 else IntKind.max .u8) (a : Int))) q := ⟨by
  have e : (ixor .u8 (if IntKind.signed .u8 then -1 else IntKind.max .u8) (a : Int)) = ((255 - a : Nat) : Int) := by
    have e0 : (if IntKind.signed .u8 then (-1 : Int) else IntKind.max .u8) = ((255 : Nat) : Int) := rfl
    rw [e0, ixor_nat (k := .u8) _ a (by decide) ha rfl]
    have e1 : (255 : Nat) ^^^ a = 255 - a := by
      have := BitVec.toNat_not (x := BitVec.ofNat 8 a)
      rw [← BitVec.allOnes_xor] at this
      have h2 : a % 256 = a := Nat.mod_eq_of_lt ha
      simpa [h2] using this
    rw [e1]
  rw [e]; exact h⟩
theorem ValS.negWU8 (hb : a ≤ 256) (h : q (.int .u8 (((256 - a) % 256 : Nat) : Int))) : ValS (.int .u8 (IntKind.wrap .u8 (0 - (a : Int)))) q := ⟨by
  have e : (IntKind.wrap .u8 (0 - (a : Int))) = (((256 - a) % 256 : Nat) : Int) := by rw [wrapU8]; omega
  rw [e]; exact h⟩
theorem ValS.addU16 (hb : a + b < 65536) (h : q (.int .u16 ((a + b : Nat) : Int))) : ValS (.int .u16 (IntKind.wrap .u16 ((a : Int) + (b : Int)))) q := ⟨by
  have e : (IntKind.wrap .u16 ((a : Int) + (b : Int))) = ((a + b : Nat) : Int) := by rw [wrapU16]; omega
  rw [e]; exact h⟩
theorem ValS.subU16 (hb : b ≤ a) (hc : a < 65536) (h : q (.int .u16 ((a - b : Nat) : Int))) : ValS (.int .u16 (IntKind.wrap .u16 ((a : Int) - (b : Int)))) q := ⟨by
  have e : (IntKind.wrap .u16 ((a : Int) - (b : Int))) = ((a - b : Nat) : Int) := by rw [wrapU16]; omega
  rw [e]; exact h⟩
theorem ValS.mulU16 (hb : a * b < 65536) (h : q (.int .u16 ((a * b : Nat) : Int))) : ValS (.int .u16 (IntKind.wrap .u16 ((a : Int) * (b : Int)))) q := ⟨by
  have e : (IntKind.wrap .u16 ((a : Int) * (b : Int))) = ((a * b : Nat) : Int) := by rw [← Int.natCast_mul]; generalize a * b = m at *; rw [wrapU16]; omega
  rw [e]; exact h⟩
theorem ValS.convU16 (hb : a < 65536) (h : q (.int .u16 ((a : Nat) : Int))) : ValS (.int .u16 (IntKind.wrap .u16 (a : Int))) q := ⟨by
  have e : (IntKind.wrap .u16 (a : Int)) = ((a : Nat) : Int) := by rw [wrapU16]; omega
  rw [e]; exact h⟩
theorem ValS.quoU16 (hb : a < 65536) (h : q (.int .u16 ((a / b : Nat) : Int))) : ValS (.int .u16 (IntKind.wrap .u16 ((a : Int).tdiv (b : Int)))) q := ⟨by
  have e : (IntKind.wrap .u16 ((a : Int).tdiv (b : Int))) = ((a / b : Nat) : Int) := by have := Nat.div_le_self a b; rw [Int.tdiv_eq_ediv_of_nonneg (Int.natCast_nonneg a), ← Int.natCast_ediv]; generalize a / b = m at *; rw [wrapU16]; omega
  rw [e]; exact h⟩
theorem ValS.shrU16 (hb : b ≤ 16) (h : q (.int .u16 ((a / 2 ^ b : Nat) : Int))) : ValS (.int .u16 (ishr .u16 (a : Int) (b : Int))) q := ⟨by rw [ishr_nat (k := .u16) a b hb]; exact h⟩
theorem ValS.shlU16 (hs : b ≤ 16) (hb : a * 2 ^ b < 65536) (h : q (.int .u16 ((a * 2 ^ b : Nat) : Int))) : ValS (.int .u16 (ishl .u16 (a : Int) (b : Int))) q := ⟨by
  have e : (ishl .u16 (a : Int) (b : Int)) = ((a * 2 ^ b : Nat) : Int) := by rw [ishl_nat (k := .u16) a b hs]; generalize a * 2 ^ b = m at *; rw [wrapU16]; omega
  rw [e]; exact h⟩
theorem ValS.addWU16  (h : q (.int .u16 (((a + b) % 65536 : Nat) : Int))) : ValS (.int .u16 (IntKind.wrap .u16 ((a : Int) + (b : Int)))) q := ⟨by
  have e : (IntKind.wrap .u16 ((a : Int) + (b : Int))) = (((a + b) % 65536 : Nat) : Int) := by rw [wrapU16]; omega
  rw [e]; exact h⟩
theorem ValS.subWU16 (hb : b ≤ 65536) (h : q (.int .u16 (((a + 65536 - b) % 65536 : Nat) : Int))) : ValS (.int .u16 (IntKind.wrap .u16 ((a : Int) - (b : Int)))) q := ⟨by
  have e : (IntKind.wrap .u16 ((a : Int) - (b : Int))) = (((a + 65536 - b) % 65536 : Nat) : Int) := by rw [wrapU16]; omega
  rw [e]; exact h⟩
theorem ValS.mulWU16  (h : q (.int .u16 ((a * b % 65536 : Nat) : Int))) : ValS (.int .u16 (IntKind.wrap .u16 ((a : Int) * (b : Int)))) q := ⟨by
  have e : (IntKind.wrap .u16 ((a : Int) * (b : Int))) = ((a * b % 65536 : Nat) : Int) := by rw [← Int.natCast_mul]; generalize a * b = m at *; rw [wrapU16]; omega
  rw [e]; exact h⟩
theorem ValS.convWU16  (h : q (.int .u16 ((a % 65536 : Nat) : Int))) : ValS (.int .u16 (IntKind.wrap .u16 (a : Int))) q := ⟨by
  have e : (IntKind.wrap .u16 (a : Int)) = ((a % 65536 : Nat) : Int) := by rw [wrapU16]; omega
  rw [e]; exact h⟩
theorem ValS.shlWU16 (hs : b ≤ 16) (h : q (.int .u16 ((a * 2 ^ b % 65536 : Nat) : Int))) : ValS (.int .u16 (ishl .u16 (a : Int) (b : Int))) q := ⟨by
  have e : (ishl .u16 (a : Int) (b : Int)) = ((a * 2 ^ b % 65536 : Nat) : Int) := by rw [ishl_nat (k := .u16) a b hs]; generalize a * 2 ^ b = m at *; rw [wrapU16]; omega
  rw [e]; exact h⟩
theorem ValS.andU16 (ha : a < 65536) (hb : b < 65536) (h : q (.int .u16 ((a &&& b : Nat) : Int))) : ValS (.int .u16 (iand .u16 (a : Int) (b : Int))) q := ⟨by
  have e : (iand .u16 (a : Int) (b : Int)) = ((a &&& b : Nat) : Int) := by exact iand_nat a b ha hb rfl
  rw [e]; exact h⟩
theorem ValS.orU16 (ha : a < 65536) (hb : b < 65536) (h : q (.int .u16 ((a ||| b : Nat) : Int))) : ValS (.int .u16 (ior .u16 (a : Int) (b : Int))) q := ⟨by
  have e : (ior .u16 (a : Int) (b : Int)) = ((a ||| b : Nat) : Int) := by exact ior_nat a b ha hb rfl
  rw [e]; exact h⟩
theorem ValS.xorU16 (ha : a < 65536) (hb : b < 65536) (h : q (.int .u16 ((a ^^^ b : Nat) : Int))) : ValS (.int .u16 (ixor .u16 (a : Int) (b : Int))) q := ⟨by
  have e : (ixor .u16 (a : Int) (b : Int)) = ((a ^^^ b : Nat) : Int) := by exact ixor_nat a b ha hb rfl
  rw [e]; exact h⟩
theorem ValS.notU16 (ha : a < 65536) (h : q (.int .u16 ((65535 - a : Nat) : Int))) : ValS (.int .u16 (ixor .u16 (if IntKind.signed .u16 then -1 else IntKind.max .u16) (a : Int))) q := ⟨by
  have e : (ixor .u16 (if IntKind.signed .u16 then -1 else IntKind.max .u16) (a : Int)) = ((65535 - a : Nat) : Int) := by
    have e0 : (if IntKind.signed .u16 then (-1 : Int) else IntKind.max .u16) = ((65535 : Nat) : Int) := rfl
    rw [e0, ixor_nat (k := .u16) _ a (by decide) ha rfl]
    have e1 : (65535 : Nat) ^^^ a = 65535 - a := by
      have := BitVec.toNat_not (x := BitVec.ofNat 16 a)
      rw [← BitVec.allOnes_xor] at this
      have h2 : a % 65536 = a := Nat.mod_eq_of_lt ha
      simpa [h2] using this
    rw [e1]
  rw [e]; exact h⟩
theorem ValS.negWU16 (hb : a ≤ 65536) (h : q (.int .u16 (((65536 - a) % 65536 : Nat) : Int))) : ValS (.int .u16 (IntKind.wrap .u16 (0 - (a : Int)))) q := ⟨by
  have e : (IntKind.wrap .u16 (0 - (a : Int))) = (((65536 - a) % 65536 : Nat) : Int) := by rw [wrapU16]; omega
  rw [e]; exact h⟩
theorem ValS.addU32 (hb : a + b < 4294967296) (h : q (.int .u32 ((a + b : Nat) : Int))) : ValS (.int .u32 (IntKind.wrap .u32 ((a : Int) + (b : Int)))) q := ⟨by
  have e : (IntKind.wrap .u32 ((a : Int) + (b : Int))) = ((a + b : Nat) : Int) := by rw [wrapU32]; omega
  rw [e]; exact h⟩
theorem ValS.subU32 (hb : b ≤ a) (hc : a < 4294967296) (h : q (.int .u32 ((a - b : Nat) : Int))) : ValS (.int .u32 (IntKind.wrap .u32 ((a : Int) - (b : Int)))) q := ⟨by
  have e : (IntKind.wrap .u32 ((a : Int) - (b : Int))) = ((a - b : Nat) : Int) := by rw [wrapU32]; omega
  rw [e]; exact h⟩
theorem ValS.mulU32 (hb : a * b < 4294967296) (h : q (.int .u32 ((a * b : Nat) : Int))) : ValS (.int .u32 (IntKind.wrap .u32 ((a : Int) * (b : Int)))) q := ⟨by
  have e : (IntKind.wrap .u32 ((a : Int) * (b : Int))) = ((a * b : Nat) : Int) := by rw [← Int.natCast_mul]; generalize a * b = m at *; rw [wrapU32]; omega
  rw [e]; exact h⟩
theorem ValS.convU32 (hb : a < 4294967296) (h : q (.int .u32 ((a : Nat) : Int))) : ValS (.int .u32 (IntKind.wrap .u32 (a : Int))) q := ⟨by
  have e : (IntKind.wrap .u32 (a : Int)) = ((a : Nat) : Int) := by rw [wrapU32]; omega
  rw [e]; exact h⟩
theorem ValS.quoU32 (hb : a < 4294967296) (h : q (.int .u32 ((a / b : Nat) : Int))) : ValS (.int .u32 (IntKind.wrap .u32 ((a : Int).tdiv (b : Int)))) q := ⟨by
  have e : (IntKind.wrap .u32 ((a : Int).tdiv (b : Int))) = ((a / b : Nat) : Int) := by have := Nat.div_le_self a b; rw [Int.tdiv_eq_ediv_of_nonneg (Int.natCast_nonneg a), ← Int.natCast_ediv]; generalize a / b = m at *; rw [wrapU32]; omega
  rw [e]; exact h⟩
theorem ValS.shrU32 (hb : b ≤ 32) (h : q (.int .u32 ((a / 2 ^ b : Nat) : Int))) : ValS (.int .u32 (ishr .u32 (a : Int) (b : Int))) q := ⟨by rw [ishr_nat (k := .u32) a b hb]; exact h⟩
theorem ValS.shlU32 (hs : b ≤ 32) (hb : a * 2 ^ b < 4294967296) (h : q (.int .u32 ((a * 2 ^ b : Nat) : Int))) : ValS (.int .u32 (ishl .u32 (a : Int) (b : Int))) q := ⟨by
  have e : (ishl .u32 (a : Int) (b : Int)) = ((a * 2 ^ b : Nat) : Int) := by rw [ishl_nat (k := .u32) a b hs]; generalize a * 2 ^ b = m at *; rw [wrapU32]; omega
  rw [e]; exact h⟩
theorem ValS.addWU32  (h : q (.int .u32 (((a + b) % 4294967296 : Nat) : Int))) : ValS (.int .u32 (IntKind.wrap .u32 ((a : Int) + (b : Int)))) q := ⟨by
  have e : (IntKind.wrap .u32 ((a : Int) + (b : Int))) = (((a + b) % 4294967296 : Nat) : Int) := by rw [wrapU32]; omega
  rw [e]; exact h⟩
theorem ValS.subWU32 (hb : b ≤ 4294967296) (h : q (.int .u32 (((a + 4294967296 - b) % 4294967296 : Nat) : Int))) : ValS (.int .u32 (IntKind.wrap .u32 ((a : Int) - (b : Int)))) q := ⟨by
  have e : (IntKind.wrap .u32 ((a : Int) - (b : Int))) = (((a + 4294967296 - b) % 4294967296 : Nat) : Int) := by rw [wrapU32]; omega
  rw [e]; exact h⟩
theorem ValS.mulWU32  (h : q (.int .u32 ((a * b % 4294967296 : Nat) : Int))) : ValS (.int .u32 (IntKind.wrap .u32 ((a : Int) * (b : Int)))) q := ⟨by
  have e : (IntKind.wrap .u32 ((a : Int) * (b : Int))) = ((a * b % 4294967296 : Nat) : Int) := by rw [← Int.natCast_mul]; generalize a * b = m at *; rw [wrapU32]; omega
  rw [e]; exact h⟩
theorem ValS.convWU32  (h : q (.int .u32 ((a % 4294967296 : Nat) : Int))) : ValS (.int .u32 (IntKind.wrap .u32 (a : Int))) q := ⟨by
  have e : (IntKind.wrap .u32 (a : Int)) = ((a % 4294967296 : Nat) : Int) := by rw [wrapU32]; omega
  rw [e]; exact h⟩
theorem ValS.shlWU32 (hs : b ≤ 32) (h : q (.int .u32 ((a * 2 ^ b % 4294967296 : Nat) : Int))) : ValS (.int .u32 (ishl .u32 (a : Int) (b : Int))) q := ⟨by
  have e : (ishl .u32 (a : Int) (b : Int)) = ((a * 2 ^ b % 4294967296 : Nat) : Int) := by rw [ishl_nat (k := .u32) a b hs]; generalize a * 2 ^ b = m at *; rw [wrapU32]; omega
  rw [e]; exact h⟩
theorem ValS.andU32 (ha : a < 4294967296) (hb : b < 4294967296) (h : q (.int .u32 ((a &&& b : Nat) : Int))) : ValS (.int .u32 (iand .u32 (a : Int) (b : Int))) q := ⟨by
  have e : (iand .u32 (a : Int) (b : Int)) = ((a &&& b : Nat) : Int) := by exact iand_nat a b ha hb rfl
  rw [e]; exact h⟩
theorem ValS.orU32 (ha : a < 4294967296) (hb : b < 4294967296) (h : q (.int .u32 ((a ||| b : Nat) : Int))) : ValS (.int .u32 (ior .u32 (a : Int) (b : Int))) q := ⟨by
  have e : (ior .u32 (a : Int) (b : Int)) = ((a ||| b : Nat) : Int) := by exact ior_nat a b ha hb rfl
  rw [e]; exact h⟩
theorem ValS.xorU32 (ha : a < 4294967296) (hb : b < 4294967296) (h : q (.int .u32 ((a ^^^ b : Nat) : Int))) : ValS (.int .u32 (ixor .u32 (a : Int) (b : Int))) q := ⟨by
  have e : (ixor .u32 (a : Int) (b : Int)) = ((a ^^^ b : Nat) : Int) := by exact ixor_nat a b ha hb rfl
  rw [e]; exact h⟩
theorem ValS.notU32 (ha : a < 4294967296) (h : q (.int .u32 ((4294967295 - a : Nat) : Int))) : ValS (.int .u32 (ixor .u32 (if IntKind.signed .u32 then -1 else IntKind.max .u32) (a : Int))) q := ⟨by
  have e : (ixor .u32 (if IntKind.signed .u32 then -1 else IntKind.max .u32) (a : Int)) = ((4294967295 - a : Nat) : Int) := by
    have e0 : (if IntKind.signed .u32 then (-1 : Int) else IntKind.max .u32) = ((4294967295 : Nat) : Int) := rfl
    rw [e0, ixor_nat (k := .u32) _ a (by decide) ha rfl]
    have e1 : (4294967295 : Nat) ^^^ a = 4294967295 - a := by
      have := BitVec.toNat_not (x := BitVec.ofNat 32 a)
      rw [← BitVec.allOnes_xor] at this
      have h2 : a % 4294967296 = a := Nat.mod_eq_of_lt ha
      simpa [h2] using this
    rw [e1]
  rw [e]; exact h⟩
theorem ValS.negWU32 (hb : a ≤ 4294967296) (h : q (.int .u32 (((4294967296 - a) % 4294967296 : Nat) : Int))) : ValS (.int .u32 (IntKind.wrap .u32 (0 - (a : Int)))) q := ⟨by
  have e : (IntKind.wrap .u32 (0 - (a : Int))) = (((4294967296 - a) % 4294967296 : Nat) : Int) := by rw [wrapU32]; omega
  rw [e]; exact h⟩
theorem ValS.addU64 (hb : a + b < 18446744073709551616) (h : q (.int .u64 ((a + b : Nat) : Int))) : ValS (.int .u64 (IntKind.wrap .u64 ((a : Int) + (b : Int)))) q := ⟨by
  have e : (IntKind.wrap .u64 ((a : Int) + (b : Int))) = ((a + b : Nat) : Int) := by rw [wrapU64]; omega
  rw [e]; exact h⟩
theorem ValS.subU64 (hb : b ≤ a) (hc : a < 18446744073709551616) (h : q (.int .u64 ((a - b : Nat) : Int))) : ValS (.int .u64 (IntKind.wrap .u64 ((a : Int) - (b : Int)))) q := ⟨by
  have e : (IntKind.wrap .u64 ((a : Int) - (b : Int))) = ((a - b : Nat) : Int) := by rw [wrapU64]; omega
  rw [e]; exact h⟩
theorem ValS.mulU64 (hb : a * b < 18446744073709551616) (h : q (.int .u64 ((a * b : Nat) : Int))) : ValS (.int .u64 (IntKind.wrap .u64 ((a : Int) * (b : Int)))) q := ⟨by
  have e : (IntKind.wrap .u64 ((a : Int) * (b : Int))) = ((a * b : Nat) : Int) := by rw [← Int.natCast_mul]; generalize a * b = m at *; rw [wrapU64]; omega
  rw [e]; exact h⟩
theorem ValS.convU64 (hb : a < 18446744073709551616) (h : q (.int .u64 ((a : Nat) : Int))) : ValS (.int .u64 (IntKind.wrap .u64 (a : Int))) q := ⟨by
  have e : (IntKind.wrap .u64 (a : Int)) = ((a : Nat) : Int) := by rw [wrapU64]; omega
  rw [e]; exact h⟩
theorem ValS.quoU64 (hb : a < 18446744073709551616) (h : q (.int .u64 ((a / b : Nat) : Int))) : ValS (.int .u64 (IntKind.wrap .u64 ((a : Int).tdiv (b : Int)))) q := ⟨by
  have e : (IntKind.wrap .u64 ((a : Int).tdiv (b : Int))) = ((a / b : Nat) : Int) := by have := Nat.div_le_self a b; rw [Int.tdiv_eq_ediv_of_nonneg (Int.natCast_nonneg a), ← Int.natCast_ediv]; generalize a / b = m at *; rw [wrapU64]; omega
  rw [e]; exact h⟩
theorem ValS.shrU64 (hb : b ≤ 64) (h : q (.int .u64 ((a / 2 ^ b : Nat) : Int))) : ValS (.int .u64 (ishr .u64 (a : Int) (b : Int))) q := ⟨by rw [ishr_nat (k := .u64) a b hb]; exact h⟩
theorem ValS.shlU64 (hs : b ≤ 64) (hb : a * 2 ^ b < 18446744073709551616) (h : q (.int .u64 ((a * 2 ^ b : Nat) : Int))) : ValS (.int .u64 (ishl .u64 (a : Int) (b : Int))) q := ⟨by
  have e : (ishl .u64 (a : Int) (b : Int)) = ((a * 2 ^ b : Nat) : Int) := by rw [ishl_nat (k := .u64) a b hs]; generalize a * 2 ^ b = m at *; rw [wrapU64]; omega
  rw [e]; exact h⟩
theorem ValS.addWU64  (h : q (.int .u64 (((a + b) % 18446744073709551616 : Nat) : Int))) : ValS (.int .u64 (IntKind.wrap .u64 ((a : Int) + (b : Int)))) q := ⟨by
  have e : (IntKind.wrap .u64 ((a : Int) + (b : Int))) = (((a + b) % 18446744073709551616 : Nat) : Int) := by rw [wrapU64]; omega
  rw [e]; exact h⟩
theorem ValS.subWU64 (hb : b ≤ 18446744073709551616) (h : q (.int .u64 (((a + 18446744073709551616 - b) % 18446744073709551616 : Nat) : Int))) : ValS (.int .u64 (IntKind.wrap .u64 ((a : Int) - (b : Int)))) q := ⟨by
  have e : (IntKind.wrap .u64 ((a : Int) - (b : Int))) = (((a + 18446744073709551616 - b) % 18446744073709551616 : Nat) : Int) := by rw [wrapU64]; omega
  rw [e]; exact h⟩
theorem ValS.mulWU64  (h : q (.int .u64 ((a * b % 18446744073709551616 : Nat) : Int))) : ValS (.int .u64 (IntKind.wrap .u64 ((a : Int) * (b : Int)))) q := ⟨by
  have e : (IntKind.wrap .u64 ((a : Int) * (b : Int))) = ((a * b % 18446744073709551616 : Nat) : Int) := by rw [← Int.natCast_mul]; generalize a * b = m at *; rw [wrapU64]; omega
  rw [e]; exact h⟩
theorem ValS.convWU64  (h : q (.int .u64 ((a % 18446744073709551616 : Nat) : Int))) : ValS (.int .u64 (IntKind.wrap .u64 (a : Int))) q := ⟨by
  have e : (IntKind.wrap .u64 (a : Int)) = ((a % 18446744073709551616 : Nat) : Int) := by rw [wrapU64]; omega
  rw [e]; exact h⟩
theorem ValS.shlWU64 (hs : b ≤ 64) (h : q (.int .u64 ((a * 2 ^ b % 18446744073709551616 : Nat) : Int))) : ValS (.int .u64 (ishl .u64 (a : Int) (b : Int))) q := ⟨by
  have e : (ishl .u64 (a : Int) (b : Int)) = ((a * 2 ^ b % 18446744073709551616 : Nat) : Int) := by rw [ishl_nat (k := .u64) a b hs]; generalize a * 2 ^ b = m at *; rw [wrapU64]; omega
  rw [e]; exact h⟩
theorem ValS.andU64 (ha : a < 18446744073709551616) (hb : b < 18446744073709551616) (h : q (.int .u64 ((a &&& b : Nat) : Int))) : ValS (.int .u64 (iand .u64 (a : Int) (b : Int))) q := ⟨by
  have e : (iand .u64 (a : Int) (b : Int)) = ((a &&& b : Nat) : Int) := by exact iand_nat a b ha hb rfl
  rw [e]; exact h⟩
theorem ValS.orU64 (ha : a < 18446744073709551616) (hb : b < 18446744073709551616) (h : q (.int .u64 ((a ||| b : Nat) : Int))) : ValS (.int .u64 (ior .u64 (a : Int) (b : Int))) q := ⟨by
  have e : (ior .u64 (a : Int) (b : Int)) = ((a ||| b : Nat) : Int) := by exact ior_nat a b ha hb rfl
  rw [e]; exact h⟩
theorem ValS.xorU64 (ha : a < 18446744073709551616) (hb : b < 18446744073709551616) (h : q (.int .u64 ((a ^^^ b : Nat) : Int))) : ValS (.int .u64 (ixor .u64 (a : Int) (b : Int))) q := ⟨by
  have e : (ixor .u64 (a : Int) (b : Int)) = ((a ^^^ b : Nat) : Int) := by exact ixor_nat a b ha hb rfl
  rw [e]; exact h⟩
theorem ValS.notU64 (ha : a < 18446744073709551616) (h : q (.int .u64 ((18446744073709551615 - a : Nat) : Int))) : ValS (.int .u64 (ixor .u64 (if IntKind.signed .u64 then -1 else IntKind.max .u64) (a : Int))) q := ⟨by
  have e : (ixor .u64 (if IntKind.signed .u64 then -1 else IntKind.max .u64) (a : Int)) = ((18446744073709551615 - a : Nat) : Int) := by
    have e0 : (if IntKind.signed .u64 then (-1 : Int) else IntKind.max .u64) = ((18446744073709551615 : Nat) : Int) := rfl
    rw [e0, ixor_nat (k := .u64) _ a (by decide) ha rfl]
    have e1 : (18446744073709551615 : Nat) ^^^ a = 18446744073709551615 - a := by
      have := BitVec.toNat_not (x := BitVec.ofNat 64 a)
      rw [← BitVec.allOnes_xor] at this
      have h2 : a % 18446744073709551616 = a := Nat.mod_eq_of_lt ha
      simpa [h2] using this
    rw [e1]
  rw [e]; exact h⟩
theorem ValS.negWU64 (hb : a ≤ 18446744073709551616) (h : q (.int .u64 (((18446744073709551616 - a) % 18446744073709551616 : Nat) : Int))) : ValS (.int .u64 (IntKind.wrap .u64 (0 - (a : Int)))) q := ⟨by
  have e : (IntKind.wrap .u64 (0 - (a : Int))) = (((18446744073709551616 - a) % 18446744073709551616 : Nat) : Int) := by rw [wrapU64]; omega
  rw [e]; exact h⟩
theorem ValS.addI8 (hb : a + b < 128) (h : q (.int .i8 ((a + b : Nat) : Int))) : ValS (.int .i8 (IntKind.wrap .i8 ((a : Int) + (b : Int)))) q := ⟨by
  have e : (IntKind.wrap .i8 ((a : Int) + (b : Int))) = ((a + b : Nat) : Int) := by rw [wrapI8 _ (by omega) (by omega)] <;> omega
  rw [e]; exact h⟩
theorem ValS.subI8 (hb : b ≤ a) (hc : a < 128) (h : q (.int .i8 ((a - b : Nat) : Int))) : ValS (.int .i8 (IntKind.wrap .i8 ((a : Int) - (b : Int)))) q := ⟨by
  have e : (IntKind.wrap .i8 ((a : Int) - (b : Int))) = ((a - b : Nat) : Int) := by rw [wrapI8 _ (by omega) (by omega)] <;> omega
  rw [e]; exact h⟩
theorem ValS.mulI8 (hb : a * b < 128) (h : q (.int .i8 ((a * b : Nat) : Int))) : ValS (.int .i8 (IntKind.wrap .i8 ((a : Int) * (b : Int)))) q := ⟨by
  have e : (IntKind.wrap .i8 ((a : Int) * (b : Int))) = ((a * b : Nat) : Int) := by rw [← Int.natCast_mul]; generalize a * b = m at *; rw [wrapI8 _ (by omega) (by omega)] <;> omega
  rw [e]; exact h⟩
theorem ValS.convI8 (hb : a < 128) (h : q (.int .i8 ((a : Nat) : Int))) : ValS (.int .i8 (IntKind.wrap .i8 (a : Int))) q := ⟨by
  have e : (IntKind.wrap .i8 (a : Int)) = ((a : Nat) : Int) := by rw [wrapI8 _ (by omega) (by omega)] <;> omega
  rw [e]; exact h⟩
theorem ValS.quoI8 (hb : a < 128) (h : q (.int .i8 ((a / b : Nat) : Int))) : ValS (.int .i8 (IntKind.wrap .i8 ((a : Int).tdiv (b : Int)))) q := ⟨by
  have e : (IntKind.wrap .i8 ((a : Int).tdiv (b : Int))) = ((a / b : Nat) : Int) := by have := Nat.div_le_self a b; rw [Int.tdiv_eq_ediv_of_nonneg (Int.natCast_nonneg a), ← Int.natCast_ediv]; generalize a / b = m at *; rw [wrapI8 _ (by omega) (by omega)] <;> omega
  rw [e]; exact h⟩
theorem ValS.shrI8 (hb : b ≤ 8) (h : q (.int .i8 ((a / 2 ^ b : Nat) : Int))) : ValS (.int .i8 (ishr .i8 (a : Int) (b : Int))) q := ⟨by rw [ishr_nat (k := .i8) a b hb]; exact h⟩
theorem ValS.shlI8 (hs : b ≤ 8) (hb : a * 2 ^ b < 128) (h : q (.int .i8 ((a * 2 ^ b : Nat) : Int))) : ValS (.int .i8 (ishl .i8 (a : Int) (b : Int))) q := ⟨by
  have e : (ishl .i8 (a : Int) (b : Int)) = ((a * 2 ^ b : Nat) : Int) := by rw [ishl_nat (k := .i8) a b hs]; generalize a * 2 ^ b = m at *; rw [wrapI8 _ (by omega) (by omega)] <;> omega
  rw [e]; exact h⟩
theorem ValS.addZI8 {x y : Int} (h0 : -128 ≤ x + y) (h1 : x + y < 128) (h : q (.int .i8 (x + y))) : ValS (.int .i8 (IntKind.wrap .i8 (x + y))) q := ⟨by rw [wrapI8 _ h0 h1]; exact h⟩
theorem ValS.subZI8 {x y : Int} (h0 : -128 ≤ x - y) (h1 : x - y < 128) (h : q (.int .i8 (x - y))) : ValS (.int .i8 (IntKind.wrap .i8 (x - y))) q := ⟨by rw [wrapI8 _ h0 h1]; exact h⟩
theorem ValS.addI16 (hb : a + b < 32768) (h : q (.int .i16 ((a + b : Nat) : Int))) : ValS (.int .i16 (IntKind.wrap .i16 ((a : Int) + (b : Int)))) q := ⟨by
  have e : (IntKind.wrap .i16 ((a : Int) + (b : Int))) = ((a + b : Nat) : Int) := by rw [wrapI16 _ (by omega) (by omega)] <;> omega
  rw [e]; exact h⟩
theorem ValS.subI16 (hb : b ≤ a) (hc : a < 32768) (h : q (.int .i16 ((a - b : Nat) : Int))) : ValS (.int .i16 (IntKind.wrap .i16 ((a : Int) - (b : Int)))) q := ⟨by
  have e : (IntKind.wrap .i16 ((a : Int) - (b : Int))) = ((a - b : Nat) : Int) := by rw [wrapI16 _ (by omega) (by omega)] <;> omega
  rw [e]; exact h⟩
theorem ValS.mulI16 (hb : a * b < 32768) (h : q (.int .i16 ((a * b : Nat) : Int))) : ValS (.int .i16 (IntKind.wrap .i16 ((a : Int) * (b : Int)))) q := ⟨by
  have e : (IntKind.wrap .i16 ((a : Int) * (b : Int))) = ((a * b : Nat) : Int) := by rw [← Int.natCast_mul]; generalize a * b = m at *; rw [wrapI16 _ (by omega) (by omega)] <;> omega
  rw [e]; exact h⟩
theorem ValS.convI16 (hb : a < 32768) (h : q (.int .i16 ((a : Nat) : Int))) : ValS (.int .i16 (IntKind.wrap .i16 (a : Int))) q := ⟨by
  have e : (IntKind.wrap .i16 (a : Int)) = ((a : Nat) : Int) := by rw [wrapI16 _ (by omega) (by omega)] <;> omega
  rw [e]; exact h⟩
theorem ValS.quoI16 (hb : a < 32768) (h : q (.int .i16 ((a / b : Nat) : Int))) : ValS (.int .i16 (IntKind.wrap .i16 ((a : Int).tdiv (b : Int)))) q := ⟨by
  have e : (IntKind.wrap .i16 ((a : Int).tdiv (b : Int))) = ((a / b : Nat) : Int) := by have := Nat.div_le_self a b; rw [Int.tdiv_eq_ediv_of_nonneg (Int.natCast_nonneg a), ← Int.natCast_ediv]; generalize a / b = m at *; rw [wrapI16 _ (by omega) (by omega)] <;> omega
  rw [e]; exact h⟩
theorem ValS.shrI16 (hb : b ≤ 16) (h : q (.int .i16 ((a / 2 ^ b : Nat) : Int))) : ValS (.int .i16 (ishr .i16 (a : Int) (b : Int))) q := ⟨by rw [ishr_nat (k := .i16) a b hb]; exact h⟩
theorem ValS.shlI16 (hs : b ≤ 16) (hb : a * 2 ^ b < 32768) (h : q (.int .i16 ((a * 2 ^ b : Nat) : Int))) : ValS (.int .i16 (ishl .i16 (a : Int) (b : Int))) q := ⟨by
  have e : (ishl .i16 (a : Int) (b : Int)) = ((a * 2 ^ b : Nat) : Int) := by rw [ishl_nat (k := .i16) a b hs]; generalize a * 2 ^ b = m at *; rw [wrapI16 _ (by omega) (by omega)] <;> omega
  rw [e]; exact h⟩
theorem ValS.addZI16 {x y : Int} (h0 : -32768 ≤ x + y) (h1 : x + y < 32768) (h : q (.int .i16 (x + y))) : ValS (.int .i16 (IntKind.wrap .i16 (x + y))) q := ⟨by rw [wrapI16 _ h0 h1]; exact h⟩
theorem ValS.subZI16 {x y : Int} (h0 : -32768 ≤ x - y) (h1 : x - y < 32768) (h : q (.int .i16 (x - y))) : ValS (.int .i16 (IntKind.wrap .i16 (x - y))) q := ⟨by rw [wrapI16 _ h0 h1]; exact h⟩
theorem ValS.addI32 (hb : a + b < 2147483648) (h : q (.int .i32 ((a + b : Nat) : Int))) : ValS (.int .i32 (IntKind.wrap .i32 ((a : Int) + (b : Int)))) q := ⟨by
  have e : (IntKind.wrap .i32 ((a : Int) + (b : Int))) = ((a + b : Nat) : Int) := by rw [wrapI32 _ (by omega) (by omega)] <;> omega
  rw [e]; exact h⟩
theorem ValS.subI32 (hb : b ≤ a) (hc : a < 2147483648) (h : q (.int .i32 ((a - b : Nat) : Int))) : ValS (.int .i32 (IntKind.wrap .i32 ((a : Int) - (b : Int)))) q := ⟨by
  have e : (IntKind.wrap .i32 ((a : Int) - (b : Int))) = ((a - b : Nat) : Int) := by rw [wrapI32 _ (by omega) (by omega)] <;> omega
  rw [e]; exact h⟩
theorem ValS.mulI32 (hb : a * b < 2147483648) (h : q (.int .i32 ((a * b : Nat) : Int))) : ValS (.int .i32 (IntKind.wrap .i32 ((a : Int) * (b : Int)))) q := ⟨by
  have e : (IntKind.wrap .i32 ((a : Int) * (b : Int))) = ((a * b : Nat) : Int) := by rw [← Int.natCast_mul]; generalize a * b = m at *; rw [wrapI32 _ (by omega) (by omega)] <;> omega
  rw [e]; exact h⟩
theorem ValS.convI32 (hb : a < 2147483648) (h : q (.int .i32 ((a : Nat) : Int))) : ValS (.int .i32 (IntKind.wrap .i32 (a : Int))) q := ⟨by
  have e : (IntKind.wrap .i32 (a : Int)) = ((a : Nat) : Int) := by rw [wrapI32 _ (by omega) (by omega)] <;> omega
  rw [e]; exact h⟩
theorem ValS.quoI32 (hb : a < 2147483648) (h : q (.int .i32 ((a / b : Nat) : Int))) : ValS (.int .i32 (IntKind.wrap .i32 ((a : Int).tdiv (b : Int)))) q := ⟨by
  have e : (IntKind.wrap .i32 ((a : Int).tdiv (b : Int))) = ((a / b : Nat) : Int) := by have := Nat.div_le_self a b; rw [Int.tdiv_eq_ediv_of_nonneg (Int.natCast_nonneg a), ← Int.natCast_ediv]; generalize a / b = m at *; rw [wrapI32 _ (by omega) (by omega)] <;> omega
  rw [e]; exact h⟩
theorem ValS.shrI32 (hb : b ≤ 32) (h : q (.int .i32 ((a / 2 ^ b : Nat) : Int))) : ValS (.int .i32 (ishr .i32 (a : Int) (b : Int))) q := ⟨by rw [ishr_nat (k := .i32) a b hb]; exact h⟩
theorem ValS.shlI32 (hs : b ≤ 32) (hb : a * 2 ^ b < 2147483648) (h : q (.int .i32 ((a * 2 ^ b : Nat) : Int))) : ValS (.int .i32 (ishl .i32 (a : Int) (b : Int))) q := ⟨by
  have e : (ishl .i32 (a : Int) (b : Int)) = ((a * 2 ^ b : Nat) : Int) := by rw [ishl_nat (k := .i32) a b hs]; generalize a * 2 ^ b = m at *; rw [wrapI32 _ (by omega) (by omega)] <;> omega
  rw [e]; exact h⟩
theorem ValS.addZI32 {x y : Int} (h0 : -2147483648 ≤ x + y) (h1 : x + y < 2147483648) (h : q (.int .i32 (x + y))) : ValS (.int .i32 (IntKind.wrap .i32 (x + y))) q := ⟨by rw [wrapI32 _ h0 h1]; exact h⟩
theorem ValS.subZI32 {x y : Int} (h0 : -2147483648 ≤ x - y) (h1 : x - y < 2147483648) (h : q (.int .i32 (x - y))) : ValS (.int .i32 (IntKind.wrap .i32 (x - y))) q := ⟨by rw [wrapI32 _ h0 h1]; exact h⟩
theorem ValS.addI64 (hb : a + b < 9223372036854775808) (h : q (.int .i64 ((a + b : Nat) : Int))) : ValS (.int .i64 (IntKind.wrap .i64 ((a : Int) + (b : Int)))) q := ⟨by
  have e : (IntKind.wrap .i64 ((a : Int) + (b : Int))) = ((a + b : Nat) : Int) := by rw [wrapI64 _ (by omega) (by omega)] <;> omega
  rw [e]; exact h⟩
theorem ValS.subI64 (hb : b ≤ a) (hc : a < 9223372036854775808) (h : q (.int .i64 ((a - b : Nat) : Int))) : ValS (.int .i64 (IntKind.wrap .i64 ((a : Int) - (b : Int)))) q := ⟨by
  have e : (IntKind.wrap .i64 ((a : Int) - (b : Int))) = ((a - b : Nat) : Int) := by rw [wrapI64 _ (by omega) (by omega)] <;> omega
  rw [e]; exact h⟩
theorem ValS.mulI64 (hb : a * b < 9223372036854775808) (h : q (.int .i64 ((a * b : Nat) : Int))) : ValS (.int .i64 (IntKind.wrap .i64 ((a : Int) * (b : Int)))) q := ⟨by
  have e : (IntKind.wrap .i64 ((a : Int) * (b : Int))) = ((a * b : Nat) : Int) := by rw [← Int.natCast_mul]; generalize a * b = m at *; rw [wrapI64 _ (by omega) (by omega)] <;> omega
  rw [e]; exact h⟩
theorem ValS.convI64 (hb : a < 9223372036854775808) (h : q (.int .i64 ((a : Nat) : Int))) : ValS (.int .i64 (IntKind.wrap .i64 (a : Int))) q := ⟨by
  have e : (IntKind.wrap .i64 (a : Int)) = ((a : Nat) : Int) := by rw [wrapI64 _ (by omega) (by omega)] <;> omega
  rw [e]; exact h⟩
theorem ValS.quoI64 (hb : a < 9223372036854775808) (h : q (.int .i64 ((a / b : Nat) : Int))) : ValS (.int .i64 (IntKind.wrap .i64 ((a : Int).tdiv (b : Int)))) q := ⟨by
  have e : (IntKind.wrap .i64 ((a : Int).tdiv (b : Int))) = ((a / b : Nat) : Int) := by have := Nat.div_le_self a b; rw [Int.tdiv_eq_ediv_of_nonneg (Int.natCast_nonneg a), ← Int.natCast_ediv]; generalize a / b = m at *; rw [wrapI64 _ (by omega) (by omega)] <;> omega
  rw [e]; exact h⟩
theorem ValS.shrI64 (hb : b ≤ 64) (h : q (.int .i64 ((a / 2 ^ b : Nat) : Int))) : ValS (.int .i64 (ishr .i64 (a : Int) (b : Int))) q := ⟨by rw [ishr_nat (k := .i64) a b hb]; exact h⟩
theorem ValS.shlI64 (hs : b ≤ 64) (hb : a * 2 ^ b < 9223372036854775808) (h : q (.int .i64 ((a * 2 ^ b : Nat) : Int))) : ValS (.int .i64 (ishl .i64 (a : Int) (b : Int))) q := ⟨by
  have e : (ishl .i64 (a : Int) (b : Int)) = ((a * 2 ^ b : Nat) : Int) := by rw [ishl_nat (k := .i64) a b hs]; generalize a * 2 ^ b = m at *; rw [wrapI64 _ (by omega) (by omega)] <;> omega
  rw [e]; exact h⟩
theorem ValS.addZI64 {x y : Int} (h0 : -9223372036854775808 ≤ x + y) (h1 : x + y < 9223372036854775808) (h : q (.int .i64 (x + y))) : ValS (.int .i64 (IntKind.wrap .i64 (x + y))) q := ⟨by rw [wrapI64 _ h0 h1]; exact h⟩
theorem ValS.subZI64 {x y : Int} (h0 : -9223372036854775808 ≤ x - y) (h1 : x - y < 9223372036854775808) (h : q (.int .i64 (x - y))) : ValS (.int .i64 (IntKind.wrap .i64 (x - y))) q := ⟨by rw [wrapI64 _ h0 h1]; exact h⟩
theorem ValS.remN_L {n : Nat} {k : IntKind} (h : q (.int k ((a % (OfNat.ofNat n : Nat) : Nat) : Int))) : ValS (.int k ((a : Int).tmod (OfNat.ofNat n : Int))) q := ValS.remN (b := OfNat.ofNat n)  h
theorem ValS.remN_M {n : Nat} {k : IntKind} (h : q (.int k (((OfNat.ofNat n : Nat) % b : Nat) : Int))) : ValS (.int k ((OfNat.ofNat n : Int).tmod (b : Int))) q := ValS.remN (a := OfNat.ofNat n)  h
theorem ValS.addU8_L {n : Nat} (hb : a + (OfNat.ofNat n : Nat) < 256) (h : q (.int .u8 ((a + (OfNat.ofNat n : Nat) : Nat) : Int))) : ValS (.int .u8 (IntKind.wrap .u8 ((a : Int) + (OfNat.ofNat n : Int)))) q := ValS.addU8 (b := OfNat.ofNat n) hb h
theorem ValS.addU8_M {n : Nat} (hb : (OfNat.ofNat n : Nat) + b < 256) (h : q (.int .u8 (((OfNat.ofNat n : Nat) + b : Nat) : Int))) : ValS (.int .u8 (IntKind.wrap .u8 ((OfNat.ofNat n : Int) + (b : Int)))) q := ValS.addU8 (a := OfNat.ofNat n) hb h
theorem ValS.subU8_L {n : Nat} (hb : (OfNat.ofNat n : Nat) ≤ a) (hc : a < 256) (h : q (.int .u8 ((a - (OfNat.ofNat n : Nat) : Nat) : Int))) : ValS (.int .u8 (IntKind.wrap .u8 ((a : Int) - (OfNat.ofNat n : Int)))) q := ValS.subU8 (b := OfNat.ofNat n) hb hc h
theorem ValS.subU8_M {n : Nat} (hb : b ≤ (OfNat.ofNat n : Nat)) (hc : (OfNat.ofNat n : Nat) < 256) (h : q (.int .u8 (((OfNat.ofNat n : Nat) - b : Nat) : Int))) : ValS (.int .u8 (IntKind.wrap .u8 ((OfNat.ofNat n : Int) - (b : Int)))) q := ValS.subU8 (a := OfNat.ofNat n) hb hc h
theorem ValS.mulU8_L {n : Nat} (hb : a * (OfNat.ofNat n : Nat) < 256) (h : q (.int .u8 ((a * (OfNat.ofNat n : Nat) : Nat) : Int))) : ValS (.int .u8 (IntKind.wrap .u8 ((a : Int) * (OfNat.ofNat n : Int)))) q := ValS.mulU8 (b := OfNat.ofNat n) hb h
theorem ValS.mulU8_M {n : Nat} (hb : (OfNat.ofNat n : Nat) * b < 256) (h : q (.int .u8 (((OfNat.ofNat n : Nat) * b : Nat) : Int))) : ValS (.int .u8 (IntKind.wrap .u8 ((OfNat.ofNat n : Int) * (b : Int)))) q := ValS.mulU8 (a := OfNat.ofNat n) hb h
theorem ValS.quoU8_L {n : Nat} (hb : a < 256) (h : q (.int .u8 ((a / (OfNat.ofNat n : Nat) : Nat) : Int))) : ValS (.int .u8 (IntKind.wrap .u8 ((a : Int).tdiv (OfNat.ofNat n : Int)))) q := ValS.quoU8 (b := OfNat.ofNat n) hb h
theorem ValS.quoU8_M {n : Nat} (hb : (OfNat.ofNat n : Nat) < 256) (h : q (.int .u8 (((OfNat.ofNat n : Nat) / b : Nat) : Int))) : ValS (.int .u8 (IntKind.wrap .u8 ((OfNat.ofNat n : Int).tdiv (b : Int)))) q := ValS.quoU8 (a := OfNat.ofNat n) hb h
theorem ValS.shrU8_L {n : Nat} (hb : (OfNat.ofNat n : Nat) ≤ 8) (h : q (.int .u8 ((a / 2 ^ (OfNat.ofNat n : Nat) : Nat) : Int))) : ValS (.int .u8 (ishr .u8 (a : Int) (OfNat.ofNat n : Int))) q := ValS.shrU8 (b := OfNat.ofNat n) hb h
theorem ValS.shrU8_M {n : Nat} (hb : b ≤ 8) (h : q (.int .u8 (((OfNat.ofNat n : Nat) / 2 ^ b : Nat) : Int))) : ValS (.int .u8 (ishr .u8 (OfNat.ofNat n : Int) (b : Int))) q := ValS.shrU8 (a := OfNat.ofNat n) hb h
theorem ValS.shlU8_L {n : Nat} (hs : (OfNat.ofNat n : Nat) ≤ 8) (hb : a * 2 ^ (OfNat.ofNat n : Nat) < 256) (h : q (.int .u8 ((a * 2 ^ (OfNat.ofNat n : Nat) : Nat) : Int))) : ValS (.int .u8 (ishl .u8 (a : Int) (OfNat.ofNat n : Int))) q := ValS.shlU8 (b := OfNat.ofNat n) hs hb h
theorem ValS.shlU8_M {n : Nat} (hs : b ≤ 8) (hb : (OfNat.ofNat n : Nat) * 2 ^ b < 256) (h : q (.int .u8 (((OfNat.ofNat n : Nat) * 2 ^ b : Nat) : Int))) : ValS (.int .u8 (ishl .u8 (OfNat.ofNat n : Int) (b : Int))) q := ValS.shlU8 (a := OfNat.ofNat n) hs hb h
theorem ValS.subWU8_L {n : Nat} (hb : (OfNat.ofNat n : Nat) ≤ 256) (h : q (.int .u8 (((a + 256 - (OfNat.ofNat n : Nat)) % 256 : Nat) : Int))) : ValS (.int .u8 (IntKind.wrap .u8 ((a : Int) - (OfNat.ofNat n : Int)))) q := ValS.subWU8 (b := OfNat.ofNat n) hb h
theorem ValS.subWU8_M {n : Nat} (hb : b ≤ 256) (h : q (.int .u8 ((((OfNat.ofNat n : Nat) + 256 - b) % 256 : Nat) : Int))) : ValS (.int .u8 (IntKind.wrap .u8 ((OfNat.ofNat n : Int) - (b : Int)))) q := ValS.subWU8 (a := OfNat.ofNat n) hb h
theorem ValS.shlWU8_L {n : Nat} (hs : (OfNat.ofNat n : Nat) ≤ 8) (h : q (.int .u8 ((a * 2 ^ (OfNat.ofNat n : Nat) % 256 : Nat) : Int))) : ValS (.int .u8 (ishl .u8 (a : Int) (OfNat.ofNat n : Int))) q := ValS.shlWU8 (b := OfNat.ofNat n) hs h
theorem ValS.shlWU8_M {n : Nat} (hs : b ≤ 8) (h : q (.int .u8 (((OfNat.ofNat n : Nat) * 2 ^ b % 256 : Nat) : Int))) : ValS (.int .u8 (ishl .u8 (OfNat.ofNat n : Int) (b : Int))) q := ValS.shlWU8 (a := OfNat.ofNat n) hs h
theorem ValS.andU8_L {n : Nat} (ha : a < 256) (hb : (OfNat.ofNat n : Nat) < 256) (h : q (.int .u8 ((a &&& (OfNat.ofNat n : Nat) : Nat) : Int))) : ValS (.int .u8 (iand .u8 (a : Int) (OfNat.ofNat n : Int))) q := ValS.andU8 (b := OfNat.ofNat n) ha hb h
theorem ValS.andU8_M {n : Nat} (ha : (OfNat.ofNat n : Nat) < 256) (hb : b < 256) (h : q (.int .u8 (((OfNat.ofNat n : Nat) &&& b : Nat) : Int))) : ValS (.int .u8 (iand .u8 (OfNat.ofNat n : Int) (b : Int))) q := ValS.andU8 (a := OfNat.ofNat n) ha hb h
theorem ValS.orU8_L {n : Nat} (ha : a < 256) (hb : (OfNat.ofNat n : Nat) < 256) (h : q (.int .u8 ((a ||| (OfNat.ofNat n : Nat) : Nat) : Int))) : ValS (.int .u8 (ior .u8 (a : Int) (OfNat.ofNat n : Int))) q := ValS.orU8 (b := OfNat.ofNat n) ha hb h
theorem ValS.orU8_M {n : Nat} (ha : (OfNat.ofNat n : Nat) < 256) (hb : b < 256) (h : q (.int .u8 (((OfNat.ofNat n : Nat) ||| b : Nat) : Int))) : ValS (.int .u8 (ior .u8 (OfNat.ofNat n : Int) (b : Int))) q := ValS.orU8 (a := OfNat.ofNat n) ha hb h
theorem ValS.xorU8_L {n : Nat} (ha : a < 256) (hb : (OfNat.ofNat n : Nat) < 256) (h : q (.int .u8 ((a ^^^ (OfNat.ofNat n : Nat) : Nat) : Int))) : ValS (.int .u8 (ixor .u8 (a : Int) (OfNat.ofNat n : Int))) q := ValS.xorU8 (b := OfNat.ofNat n) ha hb h
theorem ValS.xorU8_M {n : Nat} (ha : (OfNat.ofNat n : Nat) < 256) (hb : b < 256) (h : q (.int .u8 (((OfNat.ofNat n : Nat) ^^^ b : Nat) : Int))) : ValS (.int .u8 (ixor .u8 (OfNat.ofNat n : Int) (b : Int))) q := ValS.xorU8 (a := OfNat.ofNat n) ha hb h
theorem ValS.addU16_L {n : Nat} (hb : a + (OfNat.ofNat n : Nat) < 65536) (h : q (.int .u16 ((a + (OfNat.ofNat n : Nat) : Nat) : Int))) : ValS (.int .u16 (IntKind.wrap .u16 ((a : Int) + (OfNat.ofNat n : Int)))) q := ValS.addU16 (b := OfNat.ofNat n) hb h
theorem ValS.addU16_M {n : Nat} (hb : (OfNat.ofNat n : Nat) + b < 65536) (h : q (.int .u16 (((OfNat.ofNat n : Nat) + b : Nat) : Int))) : ValS (.int .u16 (IntKind.wrap .u16 ((OfNat.ofNat n : Int) + (b : Int)))) q := ValS.addU16 (a := OfNat.ofNat n) hb h
theorem ValS.subU16_L {n : Nat} (hb : (OfNat.ofNat n : Nat) ≤ a) (hc : a < 65536) (h : q (.int .u16 ((a - (OfNat.ofNat n : Nat) : Nat) : Int))) : ValS (.int .u16 (IntKind.wrap .u16 ((a : Int) - (OfNat.ofNat n : Int)))) q := ValS.subU16 (b := OfNat.ofNat n) hb hc h
theorem ValS.subU16_M {n : Nat} (hb : b ≤ (OfNat.ofNat n : Nat)) (hc : (OfNat.ofNat n : Nat) < 65536) (h : q (.int .u16 (((OfNat.ofNat n : Nat) - b : Nat) : Int))) : ValS (.int .u16 (IntKind.wrap .u16 ((OfNat.ofNat n : Int) - (b : Int)))) q := ValS.subU16 (a := OfNat.ofNat n) hb hc h
theorem ValS.mulU16_L {n : Nat} (hb : a * (OfNat.ofNat n : Nat) < 65536) (h : q (.int .u16 ((a * (OfNat.ofNat n : Nat) : Nat) : Int))) : ValS (.int .u16 (IntKind.wrap .u16 ((a : Int) * (OfNat.ofNat n : Int)))) q := ValS.mulU16 (b := OfNat.ofNat n) hb h
theorem ValS.mulU16_M {n : Nat} (hb : (OfNat.ofNat n : Nat) * b < 65536) (h : q (.int .u16 (((OfNat.ofNat n : Nat) * b : Nat) : Int))) : ValS (.int .u16 (IntKind.wrap .u16 ((OfNat.ofNat n : Int) * (b : Int)))) q := ValS.mulU16 (a := OfNat.ofNat n) hb h
theorem ValS.quoU16_L {n : Nat} (hb : a < 65536) (h : q (.int .u16 ((a / (OfNat.ofNat n : Nat) : Nat) : Int))) : ValS (.int .u16 (IntKind.wrap .u16 ((a : Int).tdiv (OfNat.ofNat n : Int)))) q := ValS.quoU16 (b := OfNat.ofNat n) hb h
theorem ValS.quoU16_M {n : Nat} (hb : (OfNat.ofNat n : Nat) < 65536) (h : q (.int .u16 (((OfNat.ofNat n : Nat) / b : Nat) : Int))) : ValS (.int .u16 (IntKind.wrap .u16 ((OfNat.ofNat n : Int).tdiv (b : Int)))) q := ValS.quoU16 (a := OfNat.ofNat n) hb h
theorem ValS.shrU16_L {n : Nat} (hb : (OfNat.ofNat n : Nat) ≤ 16) (h : q (.int .u16 ((a / 2 ^ (OfNat.ofNat n : Nat) : Nat) : Int))) : ValS (.int .u16 (ishr .u16 (a : Int) (OfNat.ofNat n : Int))) q := ValS.shrU16 (b := OfNat.ofNat n) hb h
theorem ValS.shrU16_M {n : Nat} (hb : b ≤ 16) (h : q (.int .u16 (((OfNat.ofNat n : Nat) / 2 ^ b : Nat) : Int))) : ValS (.int .u16 (ishr .u16 (OfNat.ofNat n : Int) (b : Int))) q := ValS.shrU16 (a := OfNat.ofNat n) hb h
theorem ValS.shlU16_L {n : Nat} (hs : (OfNat.ofNat n : Nat) ≤ 16) (hb : a * 2 ^ (OfNat.ofNat n : Nat) < 65536) (h : q (.int .u16 ((a * 2 ^ (OfNat.ofNat n : Nat) : Nat) : Int))) : ValS (.int .u16 (ishl .u16 (a : Int) (OfNat.ofNat n : Int))) q := ValS.shlU16 (b := OfNat.ofNat n) hs hb h
theorem ValS.shlU16_M {n : Nat} (hs : b ≤ 16) (hb : (OfNat.ofNat n : Nat) * 2 ^ b < 65536) (h : q (.int .u16 (((OfNat.ofNat n : Nat) * 2 ^ b : Nat) : Int))) : ValS (.int .u16 (ishl .u16 (OfNat.ofNat n : Int) (b : Int))) q := ValS.shlU16 (a := OfNat.ofNat n) hs hb h
theorem ValS.subWU16_L {n : Nat} (hb : (OfNat.ofNat n : Nat) ≤ 65536) (h : q (.int .u16 (((a + 65536 - (OfNat.ofNat n : Nat)) % 65536 : Nat) : Int))) : ValS (.int .u16 (IntKind.wrap .u16 ((a : Int) - (OfNat.ofNat n : Int)))) q := ValS.subWU16 (b := OfNat.ofNat n) hb h
theorem ValS.subWU16_M {n : Nat} (hb : b ≤ 65536) (h : q (.int .u16 ((((OfNat.ofNat n : Nat) + 65536 - b) % 65536 : Nat) : Int))) : ValS (.int .u16 (IntKind.wrap .u16 ((OfNat.ofNat n : Int) - (b : Int)))) q := ValS.subWU16 (a := OfNat.ofNat n) hb h
theorem ValS.shlWU16_L {n : Nat} (hs : (OfNat.ofNat n : Nat) ≤ 16) (h : q (.int .u16 ((a * 2 ^ (OfNat.ofNat n : Nat) % 65536 : Nat) : Int))) : ValS (.int .u16 (ishl .u16 (a : Int) (OfNat.ofNat n : Int))) q := ValS.shlWU16 (b := OfNat.ofNat n) hs h
theorem ValS.shlWU16_M {n : Nat} (hs : b ≤ 16) (h : q (.int .u16 (((OfNat.ofNat n : Nat) * 2 ^ b % 65536 : Nat) : Int))) : ValS (.int .u16 (ishl .u16 (OfNat.ofNat n : Int) (b : Int))) q := ValS.shlWU16 (a := OfNat.ofNat n) hs h
theorem ValS.andU16_L {n : Nat} (ha : a < 65536) (hb : (OfNat.ofNat n : Nat) < 65536) (h : q (.int .u16 ((a &&& (OfNat.ofNat n : Nat) : Nat) : Int))) : ValS (.int .u16 (iand .u16 (a : Int) (OfNat.ofNat n : Int))) q := ValS.andU16 (b := OfNat.ofNat n) ha hb h
theorem ValS.andU16_M {n : Nat} (ha : (OfNat.ofNat n : Nat) < 65536) (hb : b < 65536) (h : q (.int .u16 (((OfNat.ofNat n : Nat) &&& b : Nat) : Int))) : ValS (.int .u16 (iand .u16 (OfNat.ofNat n : Int) (b : Int))) q := ValS.andU16 (a := OfNat.ofNat n) ha hb h
theorem ValS.orU16_L {n : Nat} (ha : a < 65536) (hb : (OfNat.ofNat n : Nat) < 65536) (h : q (.int .u16 ((a ||| (OfNat.ofNat n : Nat) : Nat) : Int))) : ValS (.int .u16 (ior .u16 (a : Int) (OfNat.ofNat n : Int))) q := ValS.orU16 (b := OfNat.ofNat n) ha hb h
theorem ValS.orU16_M {n : Nat} (ha : (OfNat.ofNat n : Nat) < 65536) (hb : b < 65536) (h : q (.int .u16 (((OfNat.ofNat n : Nat) ||| b : Nat) : Int))) : ValS (.int .u16 (ior .u16 (OfNat.ofNat n : Int) (b : Int))) q := ValS.orU16 (a := OfNat.ofNat n) ha hb h
theorem ValS.xorU16_L {n : Nat} (ha : a < 65536) (hb : (OfNat.ofNat n : Nat) < 65536) (h : q (.int .u16 ((a ^^^ (OfNat.ofNat n : Nat) : Nat) : Int))) : ValS (.int .u16 (ixor .u16 (a : Int) (OfNat.ofNat n : Int))) q := ValS.xorU16 (b := OfNat.ofNat n) ha hb h
theorem ValS.xorU16_M {n : Nat} (ha : (OfNat.ofNat n : Nat) < 65536) (hb : b < 65536) (h : q (.int .u16 (((OfNat.ofNat n : Nat) ^^^ b : Nat) : Int))) : ValS (.int .u16 (ixor .u16 (OfNat.ofNat n : Int) (b : Int))) q := ValS.xorU16 (a := OfNat.ofNat n) ha hb h
theorem ValS.addU32_L {n : Nat} (hb : a + (OfNat.ofNat n : Nat) < 4294967296) (h : q (.int .u32 ((a + (OfNat.ofNat n : Nat) : Nat) : Int))) : ValS (.int .u32 (IntKind.wrap .u32 ((a : Int) + (OfNat.ofNat n : Int)))) q := ValS.addU32 (b := OfNat.ofNat n) hb h
theorem ValS.addU32_M {n : Nat} (hb : (OfNat.ofNat n : Nat) + b < 4294967296) (h : q (.int .u32 (((OfNat.ofNat n : Nat) + b : Nat) : Int))) : ValS (.int .u32 (IntKind.wrap .u32 ((OfNat.ofNat n : Int) + (b : Int)))) q := ValS.addU32 (a := OfNat.ofNat n) hb h
theorem ValS.subU32_L {n : Nat} (hb : (OfNat.ofNat n : Nat) ≤ a) (hc : a < 4294967296) (h : q (.int .u32 ((a - (OfNat.ofNat n : Nat) : Nat) : Int))) : ValS (.int .u32 (IntKind.wrap .u32 ((a : Int) - (OfNat.ofNat n : Int)))) q := ValS.subU32 (b := OfNat.ofNat n) hb hc h
theorem ValS.subU32_M {n : Nat} (hb : b ≤ (OfNat.ofNat n : Nat)) (hc : (OfNat.ofNat n : Nat) < 4294967296) (h : q (.int .u32 (((OfNat.ofNat n : Nat) - b : Nat) : Int))) : ValS (.int .u32 (IntKind.wrap .u32 ((OfNat.ofNat n : Int) - (b : Int)))) q := ValS.subU32 (a := OfNat.ofNat n) hb hc h
theorem ValS.mulU32_L {n : Nat} (hb : a * (OfNat.ofNat n : Nat) < 4294967296) (h : q (.int .u32 ((a * (OfNat.ofNat n : Nat) : Nat) : Int))) : ValS (.int .u32 (IntKind.wrap .u32 ((a : Int) * (OfNat.ofNat n : Int)))) q := ValS.mulU32 (b := OfNat.ofNat n) hb h
theorem ValS.mulU32_M {n : Nat} (hb : (OfNat.ofNat n : Nat) * b < 4294967296) (h : q (.int .u32 (((OfNat.ofNat n : Nat) * b : Nat) : Int))) : ValS (.int .u32 (IntKind.wrap .u32 ((OfNat.ofNat n : Int) * (b : Int)))) q := ValS.mulU32 (a := OfNat.ofNat n) hb h
theorem ValS.quoU32_L {n : Nat} (hb : a < 4294967296) (h : q (.int .u32 ((a / (OfNat.ofNat n : Nat) : Nat) : Int))) : ValS (.int .u32 (IntKind.wrap .u32 ((a : Int).tdiv (OfNat.ofNat n : Int)))) q := ValS.quoU32 (b := OfNat.ofNat n) hb h
theorem ValS.quoU32_M {n : Nat} (hb : (OfNat.ofNat n : Nat) < 4294967296) (h : q (.int .u32 (((OfNat.ofNat n : Nat) / b : Nat) : Int))) : ValS (.int .u32 (IntKind.wrap .u32 ((OfNat.ofNat n : Int).tdiv (b : Int)))) q := ValS.quoU32 (a := OfNat.ofNat n) hb h
theorem ValS.shrU32_L {n : Nat} (hb : (OfNat.ofNat n : Nat) ≤ 32) (h : q (.int .u32 ((a / 2 ^ (OfNat.ofNat n : Nat) : Nat) : Int))) : ValS (.int .u32 (ishr .u32 (a : Int) (OfNat.ofNat n : Int))) q := ValS.shrU32 (b := OfNat.ofNat n) hb h
theorem ValS.shrU32_M {n : Nat} (hb : b ≤ 32) (h : q (.int .u32 (((OfNat.ofNat n : Nat) / 2 ^ b : Nat) : Int))) : ValS (.int .u32 (ishr .u32 (OfNat.ofNat n : Int) (b : Int))) q := ValS.shrU32 (a := OfNat.ofNat n) hb h
theorem ValS.shlU32_L {n : Nat} (hs : (OfNat.ofNat n : Nat) ≤ 32) (hb : a * 2 ^ (OfNat.ofNat n : Nat) < 4294967296) (h : q (.int .u32 ((a * 2 ^ (OfNat.ofNat n : Nat) : Nat) : Int))) : ValS (.int .u32 (ishl .u32 (a : Int) (OfNat.ofNat n : Int))) q := ValS.shlU32 (b := OfNat.ofNat n) hs hb h
theorem ValS.shlU32_M {n : Nat} (hs : b ≤ 32) (hb : (OfNat.ofNat n : Nat) * 2 ^ b < 4294967296) (h : q (.int .u32 (((OfNat.ofNat n : Nat) * 2 ^ b : Nat) : Int))) : ValS (.int .u32 (ishl .u32 (OfNat.ofNat n : Int) (b : Int))) q := ValS.shlU32 (a := OfNat.ofNat n) hs hb h
theorem ValS.subWU32_L {n : Nat} (hb : (OfNat.ofNat n : Nat) ≤ 4294967296) (h : q (.int .u32 (((a + 4294967296 - (OfNat.ofNat n : Nat)) % 4294967296 : Nat) : Int))) : ValS (.int .u32 (IntKind.wrap .u32 ((a : Int) - (OfNat.ofNat n : Int)))) q := ValS.subWU32 (b := OfNat.ofNat n) hb h
theorem ValS.subWU32_M {n : Nat} (hb : b ≤ 4294967296) (h : q (.int .u32 ((((OfNat.ofNat n : Nat) + 4294967296 - b) % 4294967296 : Nat) : Int))) : ValS (.int .u32 (IntKind.wrap .u32 ((OfNat.ofNat n : Int) - (b : Int)))) q := ValS.subWU32 (a := OfNat.ofNat n) hb h
theorem ValS.shlWU32_L {n : Nat} (hs : (OfNat.ofNat n : Nat) ≤ 32) (h : q (.int .u32 ((a * 2 ^ (OfNat.ofNat n : Nat) % 4294967296 : Nat) : Int))) : ValS (.int .u32 (ishl .u32 (a : Int) (OfNat.ofNat n : Int))) q := ValS.shlWU32 (b := OfNat.ofNat n) hs h
theorem ValS.shlWU32_M {n : Nat} (hs : b ≤ 32) (h : q (.int .u32 (((OfNat.ofNat n : Nat) * 2 ^ b % 4294967296 : Nat) : Int))) : ValS (.int .u32 (ishl .u32 (OfNat.ofNat n : Int) (b : Int))) q := ValS.shlWU32 (a := OfNat.ofNat n) hs h
theorem ValS.andU32_L {n : Nat} (ha : a < 4294967296) (hb : (OfNat.ofNat n : Nat) < 4294967296) (h : q (.int .u32 ((a &&& (OfNat.ofNat n : Nat) : Nat) : Int))) : ValS (.int .u32 (iand .u32 (a : Int) (OfNat.ofNat n : Int))) q := ValS.andU32 (b := OfNat.ofNat n) ha hb h
theorem ValS.andU32_M {n : Nat} (ha : (OfNat.ofNat n : Nat) < 4294967296) (hb : b < 4294967296) (h : q (.int .u32 (((OfNat.ofNat n : Nat) &&& b : Nat) : Int))) : ValS (.int .u32 (iand .u32 (OfNat.ofNat n : Int) (b : Int))) q := ValS.andU32 (a := OfNat.ofNat n) ha hb h
theorem ValS.orU32_L {n : Nat} (ha : a < 4294967296) (hb : (OfNat.ofNat n : Nat) < 4294967296) (h : q (.int .u32 ((a ||| (OfNat.ofNat n : Nat) : Nat) : Int))) : ValS (.int .u32 (ior .u32 (a : Int) (OfNat.ofNat n : Int))) q := ValS.orU32 (b := OfNat.ofNat n) ha hb h
theorem ValS.orU32_M {n : Nat} (ha : (OfNat.ofNat n : Nat) < 4294967296) (hb : b < 4294967296) (h : q (.int .u32 (((OfNat.ofNat n : Nat) ||| b : Nat) : Int))) : ValS (.int .u32 (ior .u32 (OfNat.ofNat n : Int) (b : Int))) q := ValS.orU32 (a := OfNat.ofNat n) ha hb h
theorem ValS.xorU32_L {n : Nat} (ha : a < 4294967296) (hb : (OfNat.ofNat n : Nat) < 4294967296) (h : q (.int .u32 ((a ^^^ (OfNat.ofNat n : Nat) : Nat) : Int))) : ValS (.int .u32 (ixor .u32 (a : Int) (OfNat.ofNat n : Int))) q := ValS.xorU32 (b := OfNat.ofNat n) ha hb h
theorem ValS.xorU32_M {n : Nat} (ha : (OfNat.ofNat n : Nat) < 4294967296) (hb : b < 4294967296) (h : q (.int .u32 (((OfNat.ofNat n : Nat) ^^^ b : Nat) : Int))) : ValS (.int .u32 (ixor .u32 (OfNat.ofNat n : Int) (b : Int))) q := ValS.xorU32 (a := OfNat.ofNat n) ha hb h
theorem ValS.addU64_L {n : Nat} (hb : a + (OfNat.ofNat n : Nat) < 18446744073709551616) (h : q (.int .u64 ((a + (OfNat.ofNat n : Nat) : Nat) : Int))) : ValS (.int .u64 (IntKind.wrap .u64 ((a : Int) + (OfNat.ofNat n : Int)))) q := ValS.addU64 (b := OfNat.ofNat n) hb h
theorem ValS.addU64_M {n : Nat} (hb : (OfNat.ofNat n : Nat) + b < 18446744073709551616) (h : q (.int .u64 (((OfNat.ofNat n : Nat) + b : Nat) : Int))) : ValS (.int .u64 (IntKind.wrap .u64 ((OfNat.ofNat n : Int) + (b : Int)))) q := ValS.addU64 (a := OfNat.ofNat n) hb h
theorem ValS.subU64_L {n : Nat} (hb : (OfNat.ofNat n : Nat) ≤ a) (hc : a < 18446744073709551616) (h : q (.int .u64 ((a - (OfNat.ofNat n : Nat) : Nat) : Int))) : ValS (.int .u64 (IntKind.wrap .u64 ((a : Int) - (OfNat.ofNat n : Int)))) q := ValS.subU64 (b := OfNat.ofNat n) hb hc h
theorem ValS.subU64_M {n : Nat} (hb : b ≤ (OfNat.ofNat n : Nat)) (hc : (OfNat.ofNat n : Nat) < 18446744073709551616) (h : q (.int .u64 (((OfNat.ofNat n : Nat) - b : Nat) : Int))) : ValS (.int .u64 (IntKind.wrap .u64 ((OfNat.ofNat n : Int) - (b : Int)))) q := ValS.subU64 (a := OfNat.ofNat n) hb hc h
theorem ValS.mulU64_L {n : Nat} (hb : a * (OfNat.ofNat n : Nat) < 18446744073709551616) (h : q (.int .u64 ((a * (OfNat.ofNat n : Nat) : Nat) : Int))) : ValS (.int .u64 (IntKind.wrap .u64 ((a : Int) * (OfNat.ofNat n : Int)))) q := ValS.mulU64 (b := OfNat.ofNat n) hb h
theorem ValS.mulU64_M {n : Nat} (hb : (OfNat.ofNat n : Nat) * b < 18446744073709551616) (h : q (.int .u64 (((OfNat.ofNat n : Nat) * b : Nat) : Int))) : ValS (.int .u64 (IntKind.wrap .u64 ((OfNat.ofNat n : Int) * (b : Int)))) q := ValS.mulU64 (a := OfNat.ofNat n) hb h
theorem ValS.quoU64_L {n : Nat} (hb : a < 18446744073709551616) (h : q (.int .u64 ((a / (OfNat.ofNat n : Nat) : Nat) : Int))) : ValS (.int .u64 (IntKind.wrap .u64 ((a : Int).tdiv (OfNat.ofNat n : Int)))) q := ValS.quoU64 (b := OfNat.ofNat n) hb h
theorem ValS.quoU64_M {n : Nat} (hb : (OfNat.ofNat n : Nat) < 18446744073709551616) (h : q (.int .u64 (((OfNat.ofNat n : Nat) / b : Nat) : Int))) : ValS (.int .u64 (IntKind.wrap .u64 ((OfNat.ofNat n : Int).tdiv (b : Int)))) q := ValS.quoU64 (a := OfNat.ofNat n) hb h
theorem ValS.shrU64_L {n : Nat} (hb : (OfNat.ofNat n : Nat) ≤ 64) (h : q (.int .u64 ((a / 2 ^ (OfNat.ofNat n : Nat) : Nat) : Int))) : ValS (.int .u64 (ishr .u64 (a : Int) (OfNat.ofNat n : Int))) q := ValS.shrU64 (b := OfNat.ofNat n) hb h
theorem ValS.shrU64_M {n : Nat} (hb : b ≤ 64) (h : q (.int .u64 (((OfNat.ofNat n : Nat) / 2 ^ b : Nat) : Int))) : ValS (.int .u64 (ishr .u64 (OfNat.ofNat n : Int) (b : Int))) q := ValS.shrU64 (a := OfNat.ofNat n) hb h
theorem ValS.shlU64_L {n : Nat} (hs : (OfNat.ofNat n : Nat) ≤ 64) (hb : a * 2 ^ (OfNat.ofNat n : Nat) < 18446744073709551616) (h : q (.int .u64 ((a * 2 ^ (OfNat.ofNat n : Nat) : Nat) : Int))) : ValS (.int .u64 (ishl .u64 (a : Int) (OfNat.ofNat n : Int))) q := ValS.shlU64 (b := OfNat.ofNat n) hs hb h
theorem ValS.shlU64_M {n : Nat} (hs : b ≤ 64) (hb : (OfNat.ofNat n : Nat) * 2 ^ b < 18446744073709551616) (h : q (.int .u64 (((OfNat.ofNat n : Nat) * 2 ^ b : Nat) : Int))) : ValS (.int .u64 (ishl .u64 (OfNat.ofNat n : Int) (b : Int))) q := ValS.shlU64 (a := OfNat.ofNat n) hs hb h
theorem ValS.subWU64_L {n : Nat} (hb : (OfNat.ofNat n : Nat) ≤ 18446744073709551616) (h : q (.int .u64 (((a + 18446744073709551616 - (OfNat.ofNat n : Nat)) % 18446744073709551616 : Nat) : Int))) : ValS (.int .u64 (IntKind.wrap .u64 ((a : Int) - (OfNat.ofNat n : Int)))) q := ValS.subWU64 (b := OfNat.ofNat n) hb h
theorem ValS.subWU64_M {n : Nat} (hb : b ≤ 18446744073709551616) (h : q (.int .u64 ((((OfNat.ofNat n : Nat) + 18446744073709551616 - b) % 18446744073709551616 : Nat) : Int))) : ValS (.int .u64 (IntKind.wrap .u64 ((OfNat.ofNat n : Int) - (b : Int)))) q := ValS.subWU64 (a := OfNat.ofNat n) hb h
theorem ValS.shlWU64_L {n : Nat} (hs : (OfNat.ofNat n : Nat) ≤ 64) (h : q (.int .u64 ((a * 2 ^ (OfNat.ofNat n : Nat) % 18446744073709551616 : Nat) : Int))) : ValS (.int .u64 (ishl .u64 (a : Int) (OfNat.ofNat n : Int))) q := ValS.shlWU64 (b := OfNat.ofNat n) hs h
theorem ValS.shlWU64_M {n : Nat} (hs : b ≤ 64) (h : q (.int .u64 (((OfNat.ofNat n : Nat) * 2 ^ b % 18446744073709551616 : Nat) : Int))) : ValS (.int .u64 (ishl .u64 (OfNat.ofNat n : Int) (b : Int))) q := ValS.shlWU64 (a := OfNat.ofNat n) hs h
theorem ValS.andU64_L {n : Nat} (ha : a < 18446744073709551616) (hb : (OfNat.ofNat n : Nat) < 18446744073709551616) (h : q (.int .u64 ((a &&& (OfNat.ofNat n : Nat) : Nat) : Int))) : ValS (.int .u64 (iand .u64 (a : Int) (OfNat.ofNat n : Int))) q := ValS.andU64 (b := OfNat.ofNat n) ha hb h
theorem ValS.andU64_M {n : Nat} (ha : (OfNat.ofNat n : Nat) < 18446744073709551616) (hb : b < 18446744073709551616) (h : q (.int .u64 (((OfNat.ofNat n : Nat) &&& b : Nat) : Int))) : ValS (.int .u64 (iand .u64 (OfNat.ofNat n : Int) (b : Int))) q := ValS.andU64 (a := OfNat.ofNat n) ha hb h
theorem ValS.orU64_L {n : Nat} (ha : a < 18446744073709551616) (hb : (OfNat.ofNat n : Nat) < 18446744073709551616) (h : q (.int .u64 ((a ||| (OfNat.ofNat n : Nat) : Nat) : Int))) : ValS (.int .u64 (ior .u64 (a : Int) (OfNat.ofNat n : Int))) q := ValS.orU64 (b := OfNat.ofNat n) ha hb h
theorem ValS.orU64_M {n : Nat} (ha : (OfNat.ofNat n : Nat) < 18446744073709551616) (hb : b < 18446744073709551616) (h : q (.int .u64 (((OfNat.ofNat n : Nat) ||| b : Nat) : Int))) : ValS (.int .u64 (ior .u64 (OfNat.ofNat n : Int) (b : Int))) q := ValS.orU64 (a := OfNat.ofNat n) ha hb h
theorem ValS.xorU64_L {n : Nat} (ha : a < 18446744073709551616) (hb : (OfNat.ofNat n : Nat) < 18446744073709551616) (h : q (.int .u64 ((a ^^^ (OfNat.ofNat n : Nat) : Nat) : Int))) : ValS (.int .u64 (ixor .u64 (a : Int) (OfNat.ofNat n : Int))) q := ValS.xorU64 (b := OfNat.ofNat n) ha hb h
theorem ValS.xorU64_M {n : Nat} (ha : (OfNat.ofNat n : Nat) < 18446744073709551616) (hb : b < 18446744073709551616) (h : q (.int .u64 (((OfNat.ofNat n : Nat) ^^^ b : Nat) : Int))) : ValS (.int .u64 (ixor .u64 (OfNat.ofNat n : Int) (b : Int))) q := ValS.xorU64 (a := OfNat.ofNat n) ha hb h
theorem ValS.addI8_L {n : Nat} (hb : a + (OfNat.ofNat n : Nat) < 128) (h : q (.int .i8 ((a + (OfNat.ofNat n : Nat) : Nat) : Int))) : ValS (.int .i8 (IntKind.wrap .i8 ((a : Int) + (OfNat.ofNat n : Int)))) q := ValS.addI8 (b := OfNat.ofNat n) hb h
theorem ValS.addI8_M {n : Nat} (hb : (OfNat.ofNat n : Nat) + b < 128) (h : q (.int .i8 (((OfNat.ofNat n : Nat) + b : Nat) : Int))) : ValS (.int .i8 (IntKind.wrap .i8 ((OfNat.ofNat n : Int) + (b : Int)))) q := ValS.addI8 (a := OfNat.ofNat n) hb h
theorem ValS.subI8_L {n : Nat} (hb : (OfNat.ofNat n : Nat) ≤ a) (hc : a < 128) (h : q (.int .i8 ((a - (OfNat.ofNat n : Nat) : Nat) : Int))) : ValS (.int .i8 (IntKind.wrap .i8 ((a : Int) - (OfNat.ofNat n : Int)))) q := ValS.subI8 (b := OfNat.ofNat n) hb hc h
theorem ValS.subI8_M {n : Nat} (hb : b ≤ (OfNat.ofNat n : Nat)) (hc : (OfNat.ofNat n : Nat) < 128) (h : q (.int .i8 (((OfNat.ofNat n : Nat) - b : Nat) : Int))) : ValS (.int .i8 (IntKind.wrap .i8 ((OfNat.ofNat n : Int) - (b : Int)))) q := ValS.subI8 (a := OfNat.ofNat n) hb hc h
theorem ValS.mulI8_L {n : Nat} (hb : a * (OfNat.ofNat n : Nat) < 128) (h : q (.int .i8 ((a * (OfNat.ofNat n : Nat) : Nat) : Int))) : ValS (.int .i8 (IntKind.wrap .i8 ((a : Int) * (OfNat.ofNat n : Int)))) q := ValS.mulI8 (b := OfNat.ofNat n) hb h
theorem ValS.mulI8_M {n : Nat} (hb : (OfNat.ofNat n : Nat) * b < 128) (h : q (.int .i8 (((OfNat.ofNat n : Nat) * b : Nat) : Int))) : ValS (.int .i8 (IntKind.wrap .i8 ((OfNat.ofNat n : Int) * (b : Int)))) q := ValS.mulI8 (a := OfNat.ofNat n) hb h
theorem ValS.quoI8_L {n : Nat} (hb : a < 128) (h : q (.int .i8 ((a / (OfNat.ofNat n : Nat) : Nat) : Int))) : ValS (.int .i8 (IntKind.wrap .i8 ((a : Int).tdiv (OfNat.ofNat n : Int)))) q := ValS.quoI8 (b := OfNat.ofNat n) hb h
theorem ValS.quoI8_M {n : Nat} (hb : (OfNat.ofNat n : Nat) < 128) (h : q (.int .i8 (((OfNat.ofNat n : Nat) / b : Nat) : Int))) : ValS (.int .i8 (IntKind.wrap .i8 ((OfNat.ofNat n : Int).tdiv (b : Int)))) q := ValS.quoI8 (a := OfNat.ofNat n) hb h
theorem ValS.shrI8_L {n : Nat} (hb : (OfNat.ofNat n : Nat) ≤ 8) (h : q (.int .i8 ((a / 2 ^ (OfNat.ofNat n : Nat) : Nat) : Int))) : ValS (.int .i8 (ishr .i8 (a : Int) (OfNat.ofNat n : Int))) q := ValS.shrI8 (b := OfNat.ofNat n) hb h
theorem ValS.shrI8_M {n : Nat} (hb : b ≤ 8) (h : q (.int .i8 (((OfNat.ofNat n : Nat) / 2 ^ b : Nat) : Int))) : ValS (.int .i8 (ishr .i8 (OfNat.ofNat n : Int) (b : Int))) q := ValS.shrI8 (a := OfNat.ofNat n) hb h
theorem ValS.shlI8_L {n : Nat} (hs : (OfNat.ofNat n : Nat) ≤ 8) (hb : a * 2 ^ (OfNat.ofNat n : Nat) < 128) (h : q (.int .i8 ((a * 2 ^ (OfNat.ofNat n : Nat) : Nat) : Int))) : ValS (.int .i8 (ishl .i8 (a : Int) (OfNat.ofNat n : Int))) q := ValS.shlI8 (b := OfNat.ofNat n) hs hb h
theorem ValS.shlI8_M {n : Nat} (hs : b ≤ 8) (hb : (OfNat.ofNat n : Nat) * 2 ^ b < 128) (h : q (.int .i8 (((OfNat.ofNat n : Nat) * 2 ^ b : Nat) : Int))) : ValS (.int .i8 (ishl .i8 (OfNat.ofNat n : Int) (b : Int))) q := ValS.shlI8 (a := OfNat.ofNat n) hs hb h
theorem ValS.addI16_L {n : Nat} (hb : a + (OfNat.ofNat n : Nat) < 32768) (h : q (.int .i16 ((a + (OfNat.ofNat n : Nat) : Nat) : Int))) : ValS (.int .i16 (IntKind.wrap .i16 ((a : Int) + (OfNat.ofNat n : Int)))) q := ValS.addI16 (b := OfNat.ofNat n) hb h
theorem ValS.addI16_M {n : Nat} (hb : (OfNat.ofNat n : Nat) + b < 32768) (h : q (.int .i16 (((OfNat.ofNat n : Nat) + b : Nat) : Int))) : ValS (.int .i16 (IntKind.wrap .i16 ((OfNat.ofNat n : Int) + (b : Int)))) q := ValS.addI16 (a := OfNat.ofNat n) hb h
theorem ValS.subI16_L {n : Nat} (hb : (OfNat.ofNat n : Nat) ≤ a) (hc : a < 32768) (h : q (.int .i16 ((a - (OfNat.ofNat n : Nat) : Nat) : Int))) : ValS (.int .i16 (IntKind.wrap .i16 ((a : Int) - (OfNat.ofNat n : Int)))) q := ValS.subI16 (b := OfNat.ofNat n) hb hc h
theorem ValS.subI16_M {n : Nat} (hb : b ≤ (OfNat.ofNat n : Nat)) (hc : (OfNat.ofNat n : Nat) < 32768) (h : q (.int .i16 (((OfNat.ofNat n : Nat) - b : Nat) : Int))) : ValS (.int .i16 (IntKind.wrap .i16 ((OfNat.ofNat n : Int) - (b : Int)))) q := ValS.subI16 (a := OfNat.ofNat n) hb hc h
theorem ValS.mulI16_L {n : Nat} (hb : a * (OfNat.ofNat n : Nat) < 32768) (h : q (.int .i16 ((a * (OfNat.ofNat n : Nat) : Nat) : Int))) : ValS (.int .i16 (IntKind.wrap .i16 ((a : Int) * (OfNat.ofNat n : Int)))) q := ValS.mulI16 (b := OfNat.ofNat n) hb h
theorem ValS.mulI16_M {n : Nat} (hb : (OfNat.ofNat n : Nat) * b < 32768) (h : q (.int .i16 (((OfNat.ofNat n : Nat) * b : Nat) : Int))) : ValS (.int .i16 (IntKind.wrap .i16 ((OfNat.ofNat n : Int) * (b : Int)))) q := ValS.mulI16 (a := OfNat.ofNat n) hb h
theorem ValS.quoI16_L {n : Nat} (hb : a < 32768) (h : q (.int .i16 ((a / (OfNat.ofNat n : Nat) : Nat) : Int))) : ValS (.int .i16 (IntKind.wrap .i16 ((a : Int).tdiv (OfNat.ofNat n : Int)))) q := ValS.quoI16 (b := OfNat.ofNat n) hb h
theorem ValS.quoI16_M {n : Nat} (hb : (OfNat.ofNat n : Nat) < 32768) (h : q (.int .i16 (((OfNat.ofNat n : Nat) / b : Nat) : Int))) : ValS (.int .i16 (IntKind.wrap .i16 ((OfNat.ofNat n : Int).tdiv (b : Int)))) q := ValS.quoI16 (a := OfNat.ofNat n) hb h
theorem ValS.shrI16_L {n : Nat} (hb : (OfNat.ofNat n : Nat) ≤ 16) (h : q (.int .i16 ((a / 2 ^ (OfNat.ofNat n : Nat) : Nat) : Int))) : ValS (.int .i16 (ishr .i16 (a : Int) (OfNat.ofNat n : Int))) q := ValS.shrI16 (b := OfNat.ofNat n) hb h
theorem ValS.shrI16_M {n : Nat} (hb : b ≤ 16) (h : q (.int .i16 (((OfNat.ofNat n : Nat) / 2 ^ b : Nat) : Int))) : ValS (.int .i16 (ishr .i16 (OfNat.ofNat n : Int) (b : Int))) q := ValS.shrI16 (a := OfNat.ofNat n) hb h
theorem ValS.shlI16_L {n : Nat} (hs : (OfNat.ofNat n : Nat) ≤ 16) (hb : a * 2 ^ (OfNat.ofNat n : Nat) < 32768) (h : q (.int .i16 ((a * 2 ^ (OfNat.ofNat n : Nat) : Nat) : Int))) : ValS (.int .i16 (ishl .i16 (a : Int) (OfNat.ofNat n : Int))) q := ValS.shlI16 (b := OfNat.ofNat n) hs hb h
theorem ValS.shlI16_M {n : Nat} (hs : b ≤ 16) (hb : (OfNat.ofNat n : Nat) * 2 ^ b < 32768) (h : q (.int .i16 (((OfNat.ofNat n : Nat) * 2 ^ b : Nat) : Int))) : ValS (.int .i16 (ishl .i16 (OfNat.ofNat n : Int) (b : Int))) q := ValS.shlI16 (a := OfNat.ofNat n) hs hb h
theorem ValS.addI32_L {n : Nat} (hb : a + (OfNat.ofNat n : Nat) < 2147483648) (h : q (.int .i32 ((a + (OfNat.ofNat n : Nat) : Nat) : Int))) : ValS (.int .i32 (IntKind.wrap .i32 ((a : Int) + (OfNat.ofNat n : Int)))) q := ValS.addI32 (b := OfNat.ofNat n) hb h
theorem ValS.addI32_M {n : Nat} (hb : (OfNat.ofNat n : Nat) + b < 2147483648) (h : q (.int .i32 (((OfNat.ofNat n : Nat) + b : Nat) : Int))) : ValS (.int .i32 (IntKind.wrap .i32 ((OfNat.ofNat n : Int) + (b : Int)))) q := ValS.addI32 (a := OfNat.ofNat n) hb h
theorem ValS.subI32_L {n : Nat} (hb : (OfNat.ofNat n : Nat) ≤ a) (hc : a < 2147483648) (h : q (.int .i32 ((a - (OfNat.ofNat n : Nat) : Nat) : Int))) : ValS (.int .i32 (IntKind.wrap .i32 ((a : Int) - (OfNat.ofNat n : Int)))) q := ValS.subI32 (b := OfNat.ofNat n) hb hc h
theorem ValS.subI32_M {n : Nat} (hb : b ≤ (OfNat.ofNat n : Nat)) (hc : (OfNat.ofNat n : Nat) < 2147483648) (h : q (.int .i32 (((OfNat.ofNat n : Nat) - b : Nat) : Int))) : ValS (.int .i32 (IntKind.wrap .i32 ((OfNat.ofNat n : Int) - (b : Int)))) q := ValS.subI32 (a := OfNat.ofNat n) hb hc h
theorem ValS.mulI32_L {n : Nat} (hb : a * (OfNat.ofNat n : Nat) < 2147483648) (h : q (.int .i32 ((a * (OfNat.ofNat n : Nat) : Nat) : Int))) : ValS (.int .i32 (IntKind.wrap .i32 ((a : Int) * (OfNat.ofNat n : Int)))) q := ValS.mulI32 (b := OfNat.ofNat n) hb h
theorem ValS.mulI32_M {n : Nat} (hb : (OfNat.ofNat n : Nat) * b < 2147483648) (h : q (.int .i32 (((OfNat.ofNat n : Nat) * b : Nat) : Int))) : ValS (.int .i32 (IntKind.wrap .i32 ((OfNat.ofNat n : Int) * (b : Int)))) q := ValS.mulI32 (a := OfNat.ofNat n) hb h
theorem ValS.quoI32_L {n : Nat} (hb : a < 2147483648) (h : q (.int .i32 ((a / (OfNat.ofNat n : Nat) : Nat) : Int))) : ValS (.int .i32 (IntKind.wrap .i32 ((a : Int).tdiv (OfNat.ofNat n : Int)))) q := ValS.quoI32 (b := OfNat.ofNat n) hb h
theorem ValS.quoI32_M {n : Nat} (hb : (OfNat.ofNat n : Nat) < 2147483648) (h : q (.int .i32 (((OfNat.ofNat n : Nat) / b : Nat) : Int))) : ValS (.int .i32 (IntKind.wrap .i32 ((OfNat.ofNat n : Int).tdiv (b : Int)))) q := ValS.quoI32 (a := OfNat.ofNat n) hb h
theorem ValS.shrI32_L {n : Nat} (hb : (OfNat.ofNat n : Nat) ≤ 32) (h : q (.int .i32 ((a / 2 ^ (OfNat.ofNat n : Nat) : Nat) : Int))) : ValS (.int .i32 (ishr .i32 (a : Int) (OfNat.ofNat n : Int))) q := ValS.shrI32 (b := OfNat.ofNat n) hb h
theorem ValS.shrI32_M {n : Nat} (hb : b ≤ 32) (h : q (.int .i32 (((OfNat.ofNat n : Nat) / 2 ^ b : Nat) : Int))) : ValS (.int .i32 (ishr .i32 (OfNat.ofNat n : Int) (b : Int))) q := ValS.shrI32 (a := OfNat.ofNat n) hb h
theorem ValS.shlI32_L {n : Nat} (hs : (OfNat.ofNat n : Nat) ≤ 32) (hb : a * 2 ^ (OfNat.ofNat n : Nat) < 2147483648) (h : q (.int .i32 ((a * 2 ^ (OfNat.ofNat n : Nat) : Nat) : Int))) : ValS (.int .i32 (ishl .i32 (a : Int) (OfNat.ofNat n : Int))) q := ValS.shlI32 (b := OfNat.ofNat n) hs hb h
theorem ValS.shlI32_M {n : Nat} (hs : b ≤ 32) (hb : (OfNat.ofNat n : Nat) * 2 ^ b < 2147483648) (h : q (.int .i32 (((OfNat.ofNat n : Nat) * 2 ^ b : Nat) : Int))) : ValS (.int .i32 (ishl .i32 (OfNat.ofNat n : Int) (b : Int))) q := ValS.shlI32 (a := OfNat.ofNat n) hs hb h
theorem ValS.addI64_L {n : Nat} (hb : a + (OfNat.ofNat n : Nat) < 9223372036854775808) (h : q (.int .i64 ((a + (OfNat.ofNat n : Nat) : Nat) : Int))) : ValS (.int .i64 (IntKind.wrap .i64 ((a : Int) + (OfNat.ofNat n : Int)))) q := ValS.addI64 (b := OfNat.ofNat n) hb h
theorem ValS.addI64_M {n : Nat} (hb : (OfNat.ofNat n : Nat) + b < 9223372036854775808) (h : q (.int .i64 (((OfNat.ofNat n : Nat) + b : Nat) : Int))) : ValS (.int .i64 (IntKind.wrap .i64 ((OfNat.ofNat n : Int) + (b : Int)))) q := ValS.addI64 (a := OfNat.ofNat n) hb h
theorem ValS.subI64_L {n : Nat} (hb : (OfNat.ofNat n : Nat) ≤ a) (hc : a < 9223372036854775808) (h : q (.int .i64 ((a - (OfNat.ofNat n : Nat) : Nat) : Int))) : ValS (.int .i64 (IntKind.wrap .i64 ((a : Int) - (OfNat.ofNat n : Int)))) q := ValS.subI64 (b := OfNat.ofNat n) hb hc h
theorem ValS.subI64_M {n : Nat} (hb : b ≤ (OfNat.ofNat n : Nat)) (hc : (OfNat.ofNat n : Nat) < 9223372036854775808) (h : q (.int .i64 (((OfNat.ofNat n : Nat) - b : Nat) : Int))) : ValS (.int .i64 (IntKind.wrap .i64 ((OfNat.ofNat n : Int) - (b : Int)))) q := ValS.subI64 (a := OfNat.ofNat n) hb hc h
theorem ValS.mulI64_L {n : Nat} (hb : a * (OfNat.ofNat n : Nat) < 9223372036854775808) (h : q (.int .i64 ((a * (OfNat.ofNat n : Nat) : Nat) : Int))) : ValS (.int .i64 (IntKind.wrap .i64 ((a : Int) * (OfNat.ofNat n : Int)))) q := ValS.mulI64 (b := OfNat.ofNat n) hb h
theorem ValS.mulI64_M {n : Nat} (hb : (OfNat.ofNat n : Nat) * b < 9223372036854775808) (h : q (.int .i64 (((OfNat.ofNat n : Nat) * b : Nat) : Int))) : ValS (.int .i64 (IntKind.wrap .i64 ((OfNat.ofNat n : Int) * (b : Int)))) q := ValS.mulI64 (a := OfNat.ofNat n) hb h
theorem ValS.quoI64_L {n : Nat} (hb : a < 9223372036854775808) (h : q (.int .i64 ((a / (OfNat.ofNat n : Nat) : Nat) : Int))) : ValS (.int .i64 (IntKind.wrap .i64 ((a : Int).tdiv (OfNat.ofNat n : Int)))) q := ValS.quoI64 (b := OfNat.ofNat n) hb h
theorem ValS.quoI64_M {n : Nat} (hb : (OfNat.ofNat n : Nat) < 9223372036854775808) (h : q (.int .i64 (((OfNat.ofNat n : Nat) / b : Nat) : Int))) : ValS (.int .i64 (IntKind.wrap .i64 ((OfNat.ofNat n : Int).tdiv (b : Int)))) q := ValS.quoI64 (a := OfNat.ofNat n) hb h
theorem ValS.shrI64_L {n : Nat} (hb : (OfNat.ofNat n : Nat) ≤ 64) (h : q (.int .i64 ((a / 2 ^ (OfNat.ofNat n : Nat) : Nat) : Int))) : ValS (.int .i64 (ishr .i64 (a : Int) (OfNat.ofNat n : Int))) q := ValS.shrI64 (b := OfNat.ofNat n) hb h
theorem ValS.shrI64_M {n : Nat} (hb : b ≤ 64) (h : q (.int .i64 (((OfNat.ofNat n : Nat) / 2 ^ b : Nat) : Int))) : ValS (.int .i64 (ishr .i64 (OfNat.ofNat n : Int) (b : Int))) q := ValS.shrI64 (a := OfNat.ofNat n) hb h
theorem ValS.shlI64_L {n : Nat} (hs : (OfNat.ofNat n : Nat) ≤ 64) (hb : a * 2 ^ (OfNat.ofNat n : Nat) < 9223372036854775808) (h : q (.int .i64 ((a * 2 ^ (OfNat.ofNat n : Nat) : Nat) : Int))) : ValS (.int .i64 (ishl .i64 (a : Int) (OfNat.ofNat n : Int))) q := ValS.shlI64 (b := OfNat.ofNat n) hs hb h
theorem ValS.shlI64_M {n : Nat} (hs : b ≤ 64) (hb : (OfNat.ofNat n : Nat) * 2 ^ b < 9223372036854775808) (h : q (.int .i64 (((OfNat.ofNat n : Nat) * 2 ^ b : Nat) : Int))) : ValS (.int .i64 (ishl .i64 (OfNat.ofNat n : Int) (b : Int))) q := ValS.shlI64 (a := OfNat.ofNat n) hs hb h
end
/-- Into a region, and no further. -/
theorem SeqS.goRS {C : Cfg} {n : Nat} (hC : C.Ok) {i : Nat} {ops : Array Oper} {d : Bool} {x y : Code} {Q : HPost} {e : Env} {S : St} (h : W C n (.seq (.region i ops d) (.seq x y)) Q e S) : SeqS C n (.seq (.region i ops d) (.seq x y)) Q e S := SeqS.go hC h
theorem SeqS.goRR {C : Cfg} {n : Nat} (hC : C.Ok) {i : Nat} {ops : Array Oper} {d : Bool} {j : Nat} {o2 : Array Oper} {d2 : Bool} {Q : HPost} {e : Env} {S : St} (h : W C n (.seq (.region i ops d) (.region j o2 d2)) Q e S) : SeqS C n (.seq (.region i ops d) (.region j o2 d2)) Q e S := SeqS.go hC h
theorem SeqS.goRT {C : Cfg} {n : Nat} (hC : C.Ok) {i : Nat} {ops : Array Oper} {d : Bool}  {Q : HPost} {e : Env} {S : St} (h : W C n (.seq (.region i ops d) .ret) Q e S) : SeqS C n (.seq (.region i ops d) .ret) Q e S := SeqS.go hC h
theorem SeqS.goRB {C : Cfg} {n : Nat} (hC : C.Ok) {i : Nat} {ops : Array Oper} {d : Bool} {j : Nat} {x : Code} {Q : HPost} {e : Env} {S : St} (h : W C n (.seq (.region i ops d) (.block j x)) Q e S) : SeqS C n (.seq (.region i ops d) (.block j x)) Q e S := SeqS.go hC h
theorem SeqS.goRE {C : Cfg} {n : Nat} (hC : C.Ok) {i : Nat} {ops : Array Oper} {d : Bool} {j : Nat} {Q : HPost} {e : Env} {S : St} (h : W C n (.seq (.region i ops d) (.exit j)) Q e S) : SeqS C n (.seq (.region i ops d) (.exit j)) Q e S := SeqS.go hC h
theorem SeqS.goRK {C : Cfg} {n : Nat} (hC : C.Ok) {i : Nat} {ops : Array Oper} {d : Bool}  {Q : HPost} {e : Env} {S : St} (h : W C n (.seq (.region i ops d) .skip) Q e S) : SeqS C n (.seq (.region i ops d) .skip) Q e S := SeqS.go hC h
theorem SeqS.goRL {C : Cfg} {n : Nat} (hC : C.Ok) {i : Nat} {ops : Array Oper} {d : Bool} {x : Code} {Q : HPost} {e : Env} {S : St} (h : W C n (.seq (.region i ops d) (.loop x)) Q e S) : SeqS C n (.seq (.region i ops d) (.loop x)) Q e S := SeqS.go hC h
theorem SeqS.goR1 {C : Cfg} {n : Nat} (hC : C.Ok) {i : Nat} {ops : Array Oper} {d : Bool} {Q : HPost} {e : Env} {S : St} (h : W C n (.region i ops d) Q e S) : SeqS C n (.region i ops d) Q e S := SeqS.go hC h
theorem SeqS.goRet {C : Cfg} {n : Nat} (hC : C.Ok) {Q : HPost} {e : Env} {S : St} (h : W C n .ret Q e S) : SeqS C n .ret Q e S := SeqS.go hC h
theorem SeqS.goRet2 {C : Cfg} {n : Nat} (hC : C.Ok) {b : Code} {Q : HPost} {e : Env} {S : St} (h : W C n (.seq .ret b) Q e S) : SeqS C n (.seq .ret b) Q e S := SeqS.go hC h
theorem SeqS.goB1 {C : Cfg} {n : Nat} (hC : C.Ok) {i : Nat} {b : Code} {Q : HPost} {e : Env} {S : St} (h : W C n (.block i b) Q e S) : SeqS C n (.block i b) Q e S := SeqS.go hC h
theorem SeqS.goC1 {C : Cfg} {n : Nat} (hC : C.Ok) {v : Operand} {a b : Code} {Q : HPost} {e : Env} {S : St} (h : W C n (.cond v a b) Q e S) : SeqS C n (.cond v a b) Q e S := SeqS.go hC h
theorem SeqS.goSk {C : Cfg} {n : Nat} (hC : C.Ok) {Q : HPost} {e : Env} {S : St} (h : W C n .skip Q e S) : SeqS C n .skip Q e S := SeqS.go hC h
theorem SeqS.goEx {C : Cfg} {n : Nat} (hC : C.Ok) {i : Nat} {Q : HPost} {e : Env} {S : St} (h : W C n (.exit i) Q e S) : SeqS C n (.exit i) Q e S := SeqS.go hC h
theorem SeqS.goCT {C : Cfg} {n : Nat} (hC : C.Ok) {c : Operand} {x y b : Code} {Q : HPost} {e : Env} {S : St} (hc : ev e c = .bool true) (h : W C n (.seq x b) Q e S) : SeqS C n (.seq (.cond c x y) b) Q e S := by
  refine SeqS.go hC ?_
  simp only [W] at h ⊢
  exact CondS.t hc h
theorem SeqS.goCF {C : Cfg} {n : Nat} (hC : C.Ok) {c : Operand} {x y b : Code} {Q : HPost} {e : Env} {S : St} (hc : ev e c = .bool false) (h : W C n (.seq y b) Q e S) : SeqS C n (.seq (.cond c x y) b) Q e S := by
  refine SeqS.go hC ?_
  simp only [W] at h ⊢
  exact CondS.f hc h
/-- The next statement, and a relation behind it. -/
theorem SeqS.join {C : Cfg} {n : Nat} (hC : C.Ok) {c : Code} {f : Env → St → Prop} {Q : HPost} {e : Env} {S : St} (J : Env → St → Prop) (h1 : W C n c (thenQ J Q) e S) (h2 : ∀ e' S', Sub S.I S'.I → J e' S' → f e' S') : SeqS C n c (thenQ f Q) e S := by
  refine ⟨fun hok => (W_sound hC c _ e S hok h1).mono fun x e' S' hs hx => ?_⟩
  cases x <;> simp only [thenQ] at hx ⊢ <;> first | exact h2 _ _ hs hx | exact hx
/-- A condition that is a decision. -/
theorem CondS.dec {v : Value} {p : Prop} {i : Decidable p} {X Y : Prop} (hv : v = .bool (@decide p i)) (ht : p → X) (hf : ¬ p → Y) : CondS v X Y := by
  subst hv; refine ⟨?_⟩; by_cases h : p
  · simp [h, condE, ht h]
  · simp [h, condE, hf h]
theorem CondS.eqz {v : Value} {a b : Int} {X Y : Prop} (hv : v = .bool (a == b)) (ht : a = b → X) (hf : ¬ a = b → Y) : CondS v X Y :=
  CondS.split hv (fun h => ht (by simpa using h)) (fun h => hf (by simpa using h))
theorem CondS.nez {v : Value} {a b : Int} {X Y : Prop} (hv : v = .bool (a != b)) (ht : ¬ a = b → X) (hf : a = b → Y) : CondS v X Y :=
  CondS.split hv (fun h => ht (by simpa using h)) (fun h => hf (by simpa using h))
theorem GuardS.dec {v : Value} {p : Prop} {i : Decidable p} {want : Bool} {X Y : Value → Prop} (hv : v = .bool (@decide p i)) (ht : (decide p) = want → X (.bool want)) (hf : (decide p) = (!want) → Y (.bool (!want))) : GuardS v want X Y := GuardS.split hv (fun h => ht (by rw [← h])) (fun h => hf (by rw [← h]))
/-- A load from a block of one's own. -/
theorem QuG.ldw {C : Cfg} {e : Env} {S : St} {ty : TypeId} {q : Value → Prop} (hC : C.Ok) {x : Ent} (k : Nat) (hx : S.G[k]? = some x) {t : TypeId} {a : Operand} {i : TI} {b o : Nat} (hD : C.D t = some i) (hk : isAggK i = false) (ha : ev e a = ptr b o) (hb : x.b = b) (ho : o < x.sz) (h : q (x.c o)) :
    QuG C.P (.load t a) ty e S q := QuG.ld hC (Rd.own k hx) hD hk ha hb ho rfl h
theorem QuG.ldwN {C : Cfg} {e : Env} {S : St} {ty : TypeId} {q : Value → Prop} (hC : C.Ok) {x : Ent} (k : Nat) (hx : S.G[k]? = some x) {t : TypeId} {a : Operand} {i : TI} {b o : Nat} (hD : C.D t = some i) (hk : isAggK i = true) (ha : ev e a = ptr b o) (hb : x.b = b) (ho : o + i.size ≤ x.sz) (h : q (.agg (cellsFrom x.c o i.size).toArray)) :
    QuG C.P (.load t a) ty e S q := QuG.loadN hC hD hk ha (Rd.own k hx) hb ho h
/-- A load of a byte of a row. -/
theorem QuG.bs {C : Cfg} {e : Env} {S : St} {ty : TypeId} {q : Value → Prop} (hC : C.Ok) {x : Ent} {o z : Nat} {ds : List Nat} (hbs : Bs x o ds) (hx : Rd S x) {t : TypeId} {a : Operand} {i : TI} {j : Nat} (hD : C.D t = some i) (hk : isAggK i = false) (ha : ev e a = ptr x.b (addS o (mulS j z))) (hz : z = 1) (hj : j < ds.length) (h : q (.int .u8 (ds.getD j 0 : Nat))) :
    QuG C.P (.load t a) ty e S q := by
  subst hz; exact QuG.ldo hC hx (o + j) _ hD hk ha rfl (addS_eq _ _) (by have := hbs.1; omega) (hbs.2 j hj) h
/-- A load of a byte of a row of one's own. -/
theorem QuG.ow {C : Cfg} {e : Env} {S : St} {ty : TypeId} {q : Value → Prop} (hC : C.Ok) {x : Ent} (k : Nat) (hx : S.G[k]? = some x) {o z : Nat} {ds : List Nat} (how : Ow x.c ds) {t : TypeId} {a : Operand} {i : TI} {b j : Nat} (hD : C.D t = some i) (hk : isAggK i = false) (ha : ev e a = ptr b (addS o (mulS j z))) (hb : x.b = b) (ho : o = 0) (hz : z = 1) (hj : j < ds.length) (hs : ds.length ≤ x.sz) (h : q (.int .u8 (ds.getD j 0 : Nat))) :
    QuG C.P (.load t a) ty e S q := by
  subst hz; subst ho; exact QuG.ldo hC (Rd.own k hx) j _ hD hk ha hb rfl (by omega) (how.get j hj) h
/-- A store of a byte into a row of one's own. -/
theorem OpG.ow {C : Cfg} {e : Env} {S : St} {ty : TypeId} {K : Post} (hC : C.Ok) {x : Ent} (k : Nat) (hx : S.G[k]? = some x) {o z d : Nat} {ds : List Nat} (how : Ow x.c ds) {t : TypeId} {a v : Operand} {i : TI} {b j : Nat} (hD : C.D t = some i) (hi : i.size = 1) (ha : ev e a = ptr b (addS o (mulS j z))) (hb : x.b = b) (ho : o = 0) (hz : z = 1) (hv : ev e v = .int .u8 (d : Nat)) (hj : j < ds.length) (hs : ds.length ≤ x.sz)
    (h : ∀ c, Ow c (ds.set j d) → K undef ⟨S.I, S.G.set k ⟨x.b, x.sz, x.T, c⟩⟩) : OpG C.P (.store t a v) ty e S K := by
  subst hz; subst ho
  exact OpG.st hC k j _ hx hD hi ha hb rfl hv (by omega) rfl (h _ (how.upd hj))
end Go.HL
