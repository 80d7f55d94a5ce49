import Derived.Test.YgvafwGreatE1
import Derived.Test.YgvafwGreatV8
set_option exponentiation.threshold 1000
set_option maxRecDepth 100000
set_option maxHeartbeats 4000000
set_option linter.unusedVariables false
set_option linter.unusedSimpArgs false
-- v2
-- v4
-- v5
-- v6
-- v7
namespace Go.Proofs.YgvafwGreat
open Go.HL Go.Proofs

/-! ### The arena of one frame -/
/-- The buffer with its block. -/
structure BufO (v : Value) (mem : List Nat) (M : List Ent) : Prop where
  b8 : ∀ d ∈ mem, d < 256
  len : mem.length < 2 ^ 30
  out : (v = .slice none 0 0 ∧ mem = [] ∧ M = []) ∨ ∃ b cap cm, v = sl b 0 mem.length cap ∧ mem.length ≤ cap ∧ M = [⟨b, mulS cap 1, 5, cm⟩] ∧ Row cm 0 (bvs mem)
structure ArI (c : Nat → Value) (mem : List Nat) (M : List Ent) : Prop where
  tp : c 10 = .int .u8 ((1 : Nat) : Int)
  b0 : c 2 = .int .u32 ((0 : Nat) : Int)
  b1 : c 3 = .int .u32 (mem.length : Nat)
  bf : BufO (c 1) mem M
theorem BufO.form {v : Value} {mem : List Nat} {M : List Ent} (h : BufO v mem M) : ∃ ad cap, v = .slice ad mem.length cap ∧ mem.length ≤ cap ∧ (mem.length = 0 ∨ ∃ b, ad = some ⟨b, 0, none⟩) := by
  rcases h.out with ⟨h1, h2, _⟩ | ⟨b, cap, cm, h1, h2, _⟩
  · exact ⟨none, 0, by rw [h1, h2]; rfl, by rw [h2]; exact Nat.le_refl _, .inl (by rw [h2]; rfl)⟩
  · exact ⟨_, cap, h1, h2, .inr ⟨b, rfl⟩⟩
/-- What top answers. -/
def topV (v : Value) (n : Nat) : Value := match v with
  | .slice (some a) _ _ => .slice (some a) n n
  | _ => .slice none 0 0
/-- mem.Arena.top -/
theorem mTop {I : Ent → Prop} {G : List Ent} {cb sz : Nat} {T : TypeId} {c : Nat → Value} {mem : List Nat} {M : List Ent} (hsz : 2435 ≤ sz) (hA : ArI c mem M) :
    CallG Hvaf.prog 373 #[ptr cb 1] ⟨I, ⟨cb, sz, T, c⟩ :: G⟩ fun r S' => ⟨I, ⟨cb, sz, T, c⟩ :: G⟩ = S' ∧ r = .tuple #[topV (c 1) mem.length, .bool true] := by
  have h10 := hA.tp
  have hb0 : c (addS 2 (mulS 0 1)) = .int .u32 ((0 : Nat) : Int) := hA.b0
  have hb1 : c (addS 2 (mulS 1 1)) = .int .u32 (mem.length : Nat) := hA.b1
  have hlen := hA.bf.len
  rcases hA.bf.out with ⟨h1, h2, _⟩ | ⟨b, cap, cm, h1, h2, _⟩
  · have hb1 : c (addS 2 (mulS 1 1)) = .int .u32 ((0 : Nat) : Int) := by have := hA.b1; rw [h2] at this; exact this
    rw [h1, h2]
    refine CallG.start (C := mkC Hvaf.prog) cok (args := [ptr cb 1]) Hvaf.func373 rfl Hvaf.ntmps373 (by simp) (by kernel_rfl) ?_
    repeat (first | (refine QuG.keep ?_; first | refine QuG.l1E cok 0 rfl rfl rfl rfl rfl (by first | exact Nat.le_of_ble_eq_true rfl | omega | (dsimp only; omega) | (simp only [addS_eq, mulS_eq]; omega)) (by assumption) ?_) | refine SeqS.go cok ?_ | refine GuardS.yes rfl ?_ | refine CondS.f rfl ?_ | refine And.intro (Eq.refl true) ?_ | refine And.intro (by omega) ?_ | refine And.intro (by dsimp only; omega) ?_ | (refine NatS.keep ?_; first | with_reducible refine NatS.nat ?_) | (refine ValS.keep ?_; first | (with_reducible refine ValS.kU64 ?_; first | (with_reducible refine ValS.convU64 ?_ ?_ ; omega)) | (with_reducible refine ValS.kU8 ?_; first | (with_reducible refine ValS.subU8_L ?_ ?_ ?_ ; omega; omega))) | refine W.drawI 3 cok [0, 0, 2, 6, 14, 30, 1, 65, 255, 511, 1023] [0, 1, 2, 3, 4, 5, 6, 7, 8, 9, 10] [4, 9] (by kernel_rfl) (by kernel_rfl) ?_ | refine W.drawI 4 cok [0, 0, 2, 6, 14, 1, 33, 127, 255, 511] [0, 1, 2, 3, 4, 5, 6, 7, 8, 9] [4, 8] (by kernel_rfl) (by kernel_rfl) ?_)
    exact Fin.same ⟨rfl, rfl⟩
  · rw [h1]
    refine CallG.start (C := mkC Hvaf.prog) cok (args := [ptr cb 1]) Hvaf.func373 rfl Hvaf.ntmps373 (by simp) (by kernel_rfl) ?_
    repeat (first | (refine QuG.keep ?_; first | refine QuG.l1E cok 0 rfl rfl rfl rfl rfl (by first | exact Nat.le_of_ble_eq_true rfl | omega | (dsimp only; omega) | (simp only [addS_eq, mulS_eq]; omega)) (by assumption) ?_) | refine SeqS.go cok ?_ | refine GuardS.yes rfl ?_ | refine CondS.f rfl ?_ | refine And.intro (Eq.refl true) ?_ | refine And.intro (by omega) ?_ | refine And.intro (by dsimp only; omega) ?_ | (refine NatS.keep ?_; first | with_reducible refine NatS.nat ?_) | (refine ValS.keep ?_; first | (with_reducible refine ValS.kU64 ?_; first | (with_reducible refine ValS.convU64 ?_ ?_ ; omega)) | (with_reducible refine ValS.kU8 ?_; first | (with_reducible refine ValS.subU8_L ?_ ?_ ?_ ; omega; omega)) | with_reducible refine ValS.sl0 ?_) | refine W.drawI 3 cok [0, 0, 2, 6, 14, 30, 1, 65, 255, 511, 1023] [0, 1, 2, 3, 4, 5, 6, 7, 8, 9, 10] [4, 9] (by kernel_rfl) (by kernel_rfl) ?_ | refine W.drawI 4 cok [0, 0, 2, 6, 14, 1, 33, 127, 255, 511] [0, 1, 2, 3, 4, 5, 6, 7, 8, 9] [4, 8] (by kernel_rfl) (by kernel_rfl) ?_ | (refine CondS.keep ?_; first | refine CondS.d0 rfl (by omega) ?_))
    exact Fin.same ⟨rfl, rfl⟩
/-- mem.Arena.Len -/
theorem mLen {I : Ent → Prop} {G : List Ent} {cb sz : Nat} {T : TypeId} {c : Nat → Value} {mem : List Nat} {M : List Ent} (hsz : 2435 ≤ sz) (hA : ArI c mem M) :
    CallG Hvaf.prog 278 #[ptr cb 1] ⟨I, ⟨cb, sz, T, c⟩ :: G⟩ fun r S' => ⟨I, ⟨cb, sz, T, c⟩ :: G⟩ = S' ∧ r = .int .u32 (mem.length : Nat) := by
  have htp := mTop (I := I) (G := G) (cb := cb) (T := T) hsz hA
  have hlen := hA.bf.len
  rcases hA.bf.out with ⟨h1, h2, _⟩ | ⟨b, cap, cm, h1, h2, _⟩
  · rw [h1, h2] at htp
    rw [h2]
    refine CallG.start (C := mkC Hvaf.prog) cok (args := [ptr cb 1]) Hvaf.func278 rfl Hvaf.ntmps278 (by simp) (by kernel_rfl) ?_
    repeat (first | refine SeqS.go cok ?_)
    refine CallG.sameL [] htp ?_
    repeat (first | refine SeqS.go cok ?_ | (refine ValS.keep ?_; first | (with_reducible refine ValS.kU32 ?_; first | (with_reducible refine ValS.convU32 ?_ ?_ ; omega))))
    exact Fin.same ⟨rfl, rfl⟩
  · rw [h1] at htp
    refine CallG.start (C := mkC Hvaf.prog) cok (args := [ptr cb 1]) Hvaf.func278 rfl Hvaf.ntmps278 (by simp) (by kernel_rfl) ?_
    repeat (first | refine SeqS.go cok ?_)
    refine CallG.sameL [] htp ?_
    repeat (first | refine SeqS.go cok ?_ | (refine ValS.keep ?_; first | (with_reducible refine ValS.kU32 ?_; first | (with_reducible refine ValS.convU32 ?_ ?_ ; omega))))
    exact Fin.same ⟨rfl, rfl⟩
/-- The block of a memory that is not empty. -/
theorem ArI.blk {c : Nat → Value} {mem : List Nat} {M : List Ent} (h : ArI c mem M) (hl : 0 < mem.length) : ∃ b cap cm, c 1 = sl b 0 mem.length cap ∧ mem.length ≤ cap ∧ M = [⟨b, mulS cap 1, 5, cm⟩] ∧ Row cm 0 (bvs mem) := by
  rcases h.bf.out with ⟨_, h2, _⟩ | h
  · rw [h2] at hl; simp at hl
  · exact h
theorem part_eq {b off n : Nat} : Value.tuple #[.slice (some ⟨b, addS 0 (mulS off 1), none⟩) (off + n - off) (off + n - off), .bool true] = .tuple #[sl b off n n, .bool true] := by
  rw [addS_mulS _ _ _ rfl, Nat.zero_add, Nat.add_sub_cancel_left]; rfl
/-- mem.Arena.part -/
theorem mPart {I : Ent → Prop} {G : List Ent} {cb sz b cap off n : Nat} {T : TypeId} {c : Nat → Value} {mem : List Nat} {M : List Ent} (hsz : 2435 ≤ sz) (hA : ArI c mem M) (h1 : c 1 = sl b 0 mem.length cap) (hn : 0 < n) (hon : off + n ≤ mem.length) :
    CallG Hvaf.prog 368 #[ptr cb 1, .int .u32 (off : Nat), .int .u32 (n : Nat)] ⟨I, ⟨cb, sz, T, c⟩ :: G⟩ fun r S' => ⟨I, ⟨cb, sz, T, c⟩ :: G⟩ = S' ∧ r = .tuple #[sl b off n n, .bool true] := by
  have htp := mTop (I := I) (G := G) (cb := cb) (T := T) hsz hA
  have hlen := hA.bf.len
  rw [h1] at htp
  refine CallG.start (C := mkC Hvaf.prog) cok (args := [ptr cb 1, .int .u32 (off : Nat), .int .u32 (n : Nat)]) Hvaf.func368 rfl Hvaf.ntmps368 (by simp) (by kernel_rfl) ?_
  repeat (first | refine SeqS.go cok ?_)
  refine CallG.sameL [] htp ?_
  repeat (first | refine SeqS.go cok ?_ | refine GuardS.yes rfl ?_ | refine And.intro (Eq.refl true) ?_ | refine And.intro (by omega) ?_ | (refine NatS.keep ?_; first | with_reducible refine NatS.nat ?_) | (refine ValS.keep ?_; first | (with_reducible refine ValS.kU32 ?_; first | (with_reducible refine ValS.convU32 ?_ ?_ ; omega) | (with_reducible refine ValS.addU32 ?_ ?_ ; omega) | (with_reducible refine ValS.subU32 ?_ ?_ ?_ ; omega; omega)) | (with_reducible refine ValS.slN ?_ ?_; omega)) | (refine GuardS.keep ?_; first | refine GuardS.F0 rfl (by omega) ?_) | (refine CondS.keep ?_; first | refine CondS.d0 rfl (by omega) ?_))
  exact Fin.same ⟨rfl, part_eq⟩
end Go.Proofs.YgvafwGreat
