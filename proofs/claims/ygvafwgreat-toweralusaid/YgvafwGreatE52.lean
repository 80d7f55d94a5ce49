import Derived.Test.YgvafwGreatE51
import Derived.Test.YgvafwGreatE23
import Derived.Test.YgvafwGreatE24
import Derived.Test.YgvafwGreatE28
import Derived.Test.YgvafwGreatE35
import Derived.Test.YgvafwGreatY65
set_option exponentiation.threshold 1000
set_option maxRecDepth 100000
set_option maxHeartbeats 4000000
set_option linter.unusedVariables false
set_option linter.unusedSimpArgs false
-- v2
-- v4
-- v5
-- v6
-- v7
namespace Go.Proofs.YgvafwGreat
open Go.HL Go.Proofs
theorem writeL_lt {mem bs : List Nat} {o : Nat} (h1 : ∀ d ∈ mem, d < 256) (h2 : ∀ d ∈ bs, d < 256) : ∀ d ∈ writeL mem o bs, d < 256 := by
  have g : ∀ {l : List Nat} (h : ∀ d ∈ l, d < 256) (i : Nat), l.getD i 0 < 256 := fun {l} h i => by
    by_cases hi : i < l.length
    · rw [List.getD_eq_getElem?_getD, List.getElem?_eq_getElem hi]; exact h _ (List.getElem_mem hi)
    · rw [List.getD_eq_getElem?_getD, List.getElem?_eq_none (by omega)]; decide
  intro d hd
  obtain ⟨i, _, rfl⟩ := List.mem_map.1 hd
  split
  · exact g h2 _
  · exact g h1 _
theorem ex87z {I : Ent → Prop} {cb sz : Nat} {T : TypeId} {c : Nat → Value} {K : YK} {V : Vl} {w : YW} {pc gas : Nat} {s mem : List Nat} {M G : List Ent} (h : EI I cb sz c K V pc gas s mem M G) (hR : RJ K V w) (hp1 : pc + 1 < 60000) (ho : K.code.getD pc 0 = 87) (h2 : 2 ≤ s.length) (hz : argN s 1 = 0) :
    CallG Hvaf.prog 121 #[ptr cb 0, .int .u8 ((87 : Nat) : Int)] ⟨I, ⟨cb, sz, T, c⟩ :: (M ++ G)⟩ fun _ S' => ∃ r, OpP cb sz T c K V 0 0 0 0 0 0 (plainN kecN K ⟨pc, gas, s, mem, w⟩ 87) r S' := by
  refine mExOpJump (by decide) (OpP.ofSetP2 h hR rfl rfl (σ := plainN kecN K ⟨pc, gas, s, mem, w⟩ 87) (p1 := pc + 1) ?_ rfl rfl (mJ87z h.s2 h.eK h.eM hp1 ho h2 hz))
  show (if 87 = 86 ∨ 87 = 87 ∧ argN s 1 ≠ 0 then argN s 0 else pc + (1 + immN 87)) = pc + 1
  rw [if_neg (by simp [hz])]; rfl
theorem ex87 {I : Ent → Prop} {cb sz : Nat} {T : TypeId} {c : Nat → Value} {K : YK} {V : Vl} {w : YW} {pc gas : Nat} {s mem : List Nat} {M G : List Ent} (h : EI I cb sz c K V pc gas s mem M G) (hR : RJ K V w) (hp1 : pc + 1 < 60000) (ho : K.code.getD pc 0 = 87) (h2 : 2 ≤ s.length) (hz : argN s 1 ≠ 0) (ha : argN s 0 < 512) :
    CallG Hvaf.prog 121 #[ptr cb 0, .int .u8 ((87 : Nat) : Int)] ⟨I, ⟨cb, sz, T, c⟩ :: (M ++ G)⟩ fun _ S' => ∃ r, OpP cb sz T c K V 0 0 0 0 0 0 (plainN kecN K ⟨pc, gas, s, mem, w⟩ 87) r S' := by
  refine mExOpJump (by decide) (OpP.ofSetP2 h hR rfl rfl (σ := plainN kecN K ⟨pc, gas, s, mem, w⟩ 87) (p1 := argN s 0) ?_ rfl rfl (mJ87 h.s2 h.eK h.eM hp1 ho h2 ha hz))
  show (if 87 = 86 ∨ 87 = 87 ∧ argN s 1 ≠ 0 then argN s 0 else pc + (1 + immN 87)) = argN s 0
  rw [if_pos (.inr ⟨rfl, hz⟩)]
theorem pl_w {K : YK} {σ : NS} {o : Nat} (h1 : 95 ≤ o) (h2 : o ≤ 159) : (plainN kecN K σ o).w = σ.w ∧ (plainN kecN K σ o).mem = σ.mem ∧ (plainN kecN K σ o).pc = σ.pc + (1 + immN o) := by
  refine ⟨?_, ?_, ?_⟩
  · show wrlN K σ.mem σ.w σ.s o = σ.w
    unfold wrlN; repeat rw [if_neg (by omega)]
  · show memN K σ.mem σ.w σ.s o = σ.mem
    unfold memN; repeat rw [if_neg (by omega)]
  · show nextN K σ.pc σ.s o = _
    unfold nextN; rw [if_neg (by omega)]
theorem exDup {I : Ent → Prop} {cb sz : Nat} {T : TypeId} {c : Nat → Value} {K : YK} {V : Vl} {w : YW} {pc gas o : Nat} {s mem : List Nat} {M G : List Ent} (h : EI I cb sz c K V pc gas s mem M G) (hR : RJ K V w) (hp1 : pc + 1 < 60000) (ho : K.code.getD pc 0 = o) (h1 : 128 ≤ o) (h2 : o ≤ 143) (h64 : s.length < 64) :
    CallG Hvaf.prog 121 #[ptr cb 0, .int .u8 ((o : Nat) : Int)] ⟨I, ⟨cb, sz, T, c⟩ :: (M ++ G)⟩ fun _ S' => ∃ r, OpP cb sz T c K V 0 0 0 0 0 0 (plainN kecN K ⟨pc, gas, s, mem, w⟩ o) r S' := by
  have hw := pl_w (K := K) (σ := ⟨pc, gas, s, mem, w⟩) (show 95 ≤ o by omega) (show o ≤ 159 by omega)
  have hi : immN o = 0 := by unfold immN; rw [if_neg (by omega)]
  rw [hi] at hw
  have hs : (plainN kecN K ⟨pc, gas, s, mem, w⟩ o).s = s ++ [argN s (o - 128)] := by
    show stkN kecN K pc gas mem w s o = _
    unfold stkN; rw [if_pos ⟨h1, h2⟩]
  refine (mExRows (by omega) (by omega) (mRwOpDup h1 h2 (OpP.ofSetP2 h hR hw.1 hw.2.1 (σ := plainN kecN K ⟨pc, gas, s, mem, w⟩ o) hw.2.2 rfl hs (mDup h.s2 h.eK h.eM hp1 ho h1 (by omega) h64)))).mono ?_
  rintro r S' - ⟨_, r2, hq⟩; exact ⟨r2, hq⟩
theorem exSwap {I : Ent → Prop} {cb sz : Nat} {T : TypeId} {c : Nat → Value} {K : YK} {V : Vl} {w : YW} {pc gas o : Nat} {s mem : List Nat} {M G : List Ent} (h : EI I cb sz c K V pc gas s mem M G) (hR : RJ K V w) (hp1 : pc + 1 < 60000) (ho : K.code.getD pc 0 = o) (h1 : 144 ≤ o) (h2 : o ≤ 159) (hl : o - 144 + 2 ≤ s.length) :
    CallG Hvaf.prog 121 #[ptr cb 0, .int .u8 ((o : Nat) : Int)] ⟨I, ⟨cb, sz, T, c⟩ :: (M ++ G)⟩ fun _ S' => ∃ r, OpP cb sz T c K V 0 0 0 0 0 0 (plainN kecN K ⟨pc, gas, s, mem, w⟩ o) r S' := by
  have hw := pl_w (K := K) (σ := ⟨pc, gas, s, mem, w⟩) (show 95 ≤ o by omega) (show o ≤ 159 by omega)
  have hi : immN o = 0 := by unfold immN; rw [if_neg (by omega)]
  rw [hi] at hw
  have hs : (plainN kecN K ⟨pc, gas, s, mem, w⟩ o).s = swapL s (s.length - 1) (s.length - 1 - (o - 144) - 1) := by
    show stkN kecN K pc gas mem w s o = _
    unfold stkN; rw [if_neg (by omega), if_pos ⟨h1, h2⟩]
    rw [show s.length - 1 - (o - 144) - 1 = s.length - (o - 142) by omega]
    exact (swap_law (t := o - 142) (by omega) (by omega)).symm
  refine (mExRows (by omega) (by omega) (mRwOpSwap h1 h2 (OpP.ofSetP2 h hR hw.1 hw.2.1 (σ := plainN kecN K ⟨pc, gas, s, mem, w⟩ o) hw.2.2 rfl hs (mSwap h.s2 h.eK h.eM hp1 ho h1 (by omega) hl)))).mono ?_
  rintro r S' - ⟨_, r2, hq⟩; exact ⟨r2, hq⟩
theorem exPush {I : Ent → Prop} {cb sz : Nat} {T : TypeId} {c : Nat → Value} {K : YK} {V : Vl} {w : YW} {pc gas o : Nat} {s mem : List Nat} {M G : List Ent} (h : EI I cb sz c K V pc gas s mem M G) (hR : RJ K V w) (hp1 : pc + 1 < 60000) (hpb : pc + 33 < 60000) (ho : K.code.getD pc 0 = o) (h1 : 95 ≤ o) (h2 : o ≤ 127) (h64 : s.length < 64) :
    CallG Hvaf.prog 121 #[ptr cb 0, .int .u8 ((o : Nat) : Int)] ⟨I, ⟨cb, sz, T, c⟩ :: (M ++ G)⟩ fun _ S' => ∃ r, OpP cb sz T c K V 0 0 0 0 0 0 (plainN kecN K ⟨pc, gas, s, mem, w⟩ o) r S' := by
  have hw := pl_w (K := K) (σ := ⟨pc, gas, s, mem, w⟩) (show 95 ≤ o by omega) (show o ≤ 159 by omega)
  have hi : immN o = o - 95 := by unfold immN; split <;> omega
  rw [hi] at hw
  have har : arN o = (0, 1, true) := (by decide +kernel : ∀ o, o < 256 → o < 95 ∨ 127 < o ∨ arN o = (0, 1, true)) o (by omega) |>.resolve_left (by omega) |>.resolve_left (by omega)
  have hs : (plainN kecN K ⟨pc, gas, s, mem, w⟩ o).s = s ++ [bev (cutL K.code (pc + 1) (o - 95))] := by
    show stkN kecN K pc gas mem w s o = _
    unfold stkN; rw [if_neg (by omega), if_neg (by omega), har, if_pos rfl, Nat.sub_zero, List.take_length]
    congr 2
    unfold valN
    rw [if_neg (by omega), if_neg (by omega), if_pos ⟨h1, h2⟩]
  have hpl : pc < K.code.length := by
    rcases Nat.lt_or_ge pc K.code.length with hc | hc
    · exact hc
    · rw [List.getD_eq_getElem?_getD, List.getElem?_eq_none hc] at ho; simp at ho; omega
  by_cases hin : o ≤ 103 ∧ pc + 1 + (o - 95) ≤ K.code.length
  · refine (mExRows (by omega) (by omega) (mRwOpPush h1 h2 (OpP.ofSetP2 h hR hw.1 hw.2.1 (σ := plainN kecN K ⟨pc, gas, s, mem, w⟩ o) hw.2.2 rfl hs (mPushS h.s2 h.eK h.eM hpb ho h1 hin.1 hin.2 h64)))).mono ?_
    rintro r S' - ⟨_, r2, hq⟩; exact ⟨r2, hq⟩
  · refine (mExRows (by omega) (by omega) (mRwOpPush h1 h2 (OpP.ofSetP2 h hR hw.1 hw.2.1 (σ := plainN kecN K ⟨pc, gas, s, mem, w⟩ o) hw.2.2 rfl hs (mPushL h.s2 h.eK h.eM hpb ho h1 h2 hin hpl h64)))).mono ?_
    rintro r S' - ⟨_, r2, hq⟩; exact ⟨r2, hq⟩
theorem end_in {a n k : Nat} (h : endN a n ≤ k) : n = 0 ∨ a + n ≤ k := by unfold endN at h; split at h <;> omega
theorem ex32 {I : Ent → Prop} {cb sz : Nat} {T : TypeId} {c : Nat → Value} {K : YK} {V : Vl} {w : YW} {pc gas : Nat} {s mem : List Nat} {M G : List Ent} (h : EI I cb sz c K V pc gas s mem M G) (hR : RJ K V w) (hp1 : pc + 1 < 60000) (h2 : 2 ≤ s.length) (hin : reachN s 32 ≤ mem.length) :
    CallG Hvaf.prog 121 #[ptr cb 0, .int .u8 ((32 : Nat) : Int)] ⟨I, ⟨cb, sz, T, c⟩ :: (M ++ G)⟩ fun _ S' => ∃ r, OpP cb sz T c K V 0 0 0 0 0 0 (plainN kecN K ⟨pc, gas, s, mem, w⟩ 32) r S' :=
  mExOpKeccak (by decide) (OpP.ofSetJ h hR rfl rfl (σ := plainN kecN K ⟨pc, gas, s, mem, w⟩ 32) (mKec h.s2 h.eA (fun x hx => List.mem_append_left _ hx) h.eK h.eM hp1 h2 (end_in hin)))
theorem ex81 {I : Ent → Prop} {cb sz : Nat} {T : TypeId} {c : Nat → Value} {K : YK} {V : Vl} {w : YW} {pc gas : Nat} {s mem : List Nat} {M G : List Ent} (h : EI I cb sz c K V pc gas s mem M G) (hR : RJ K V w) (hp1 : pc + 1 < 60000) (ho : K.code.getD pc 0 = 81) (h2 : 1 ≤ s.length) (hin : reachN s 81 ≤ mem.length) :
    CallG Hvaf.prog 121 #[ptr cb 0, .int .u8 ((81 : Nat) : Int)] ⟨I, ⟨cb, sz, T, c⟩ :: (M ++ G)⟩ fun _ S' => ∃ r, OpP cb sz T c K V 0 0 0 0 0 0 (plainN kecN K ⟨pc, gas, s, mem, w⟩ 81) r S' :=
  mExOpMemory (by decide) (OpP.ofSetP h hR rfl rfl (σ := plainN kecN K ⟨pc, gas, s, mem, w⟩ 81) (mMe81 h.s2 h.eA (fun x hx => List.mem_append_left _ hx) h.eK h.eM hp1 ho h2 ((end_in (n := 32) hin).resolve_left (by decide))))
theorem ex82 {I : Ent → Prop} {cb sz : Nat} {T : TypeId} {c : Nat → Value} {K : YK} {V : Vl} {w : YW} {pc gas : Nat} {s mem : List Nat} {M G : List Ent} (h : EI I cb sz c K V pc gas s mem M G) (hR : RJ K V w) (hp1 : pc + 1 < 60000) (ho : K.code.getD pc 0 = 82) (h2 : 2 ≤ s.length) (hin : reachN s 82 ≤ mem.length) :
    CallG Hvaf.prog 121 #[ptr cb 0, .int .u8 ((82 : Nat) : Int)] ⟨I, ⟨cb, sz, T, c⟩ :: (M ++ G)⟩ fun _ S' => ∃ r, OpP cb sz T c K V 0 0 0 0 0 0 (plainN kecN K ⟨pc, gas, s, mem, w⟩ 82) r S' := by
  have hin2 : argN s 0 + 32 ≤ mem.length := (end_in (n := 32) hin).resolve_left (by decide)
  obtain ⟨b, cap, cm, b1, b2, rfl, b4⟩ := h.eA.blk (by omega)
  exact mExOpMemory (by decide) (OpP.ofMem h hR rfl b1 b2 (σ := plainN kecN K ⟨pc, gas, s, mem, w⟩ 82) (writeL_len' _ _ _) (writeL_lt h.eA.bf.b8 (be32_lt _)) (mMe82 h.s2 h.eA b1 b2 b4 h.eK h.eM hp1 ho h2 hin2))
theorem ex83 {I : Ent → Prop} {cb sz : Nat} {T : TypeId} {c : Nat → Value} {K : YK} {V : Vl} {w : YW} {pc gas : Nat} {s mem : List Nat} {M G : List Ent} (h : EI I cb sz c K V pc gas s mem M G) (hR : RJ K V w) (hp1 : pc + 1 < 60000) (ho : K.code.getD pc 0 = 83) (h2 : 2 ≤ s.length) (hin : reachN s 83 ≤ mem.length) :
    CallG Hvaf.prog 121 #[ptr cb 0, .int .u8 ((83 : Nat) : Int)] ⟨I, ⟨cb, sz, T, c⟩ :: (M ++ G)⟩ fun _ S' => ∃ r, OpP cb sz T c K V 0 0 0 0 0 0 (plainN kecN K ⟨pc, gas, s, mem, w⟩ 83) r S' := by
  have hin2 : argN s 0 + 1 ≤ mem.length := (end_in (n := 1) hin).resolve_left (by decide)
  obtain ⟨b, cap, cm, b1, b2, rfl, b4⟩ := h.eA.blk (by omega)
  exact mExOpMemory (by decide) (OpP.ofMem h hR rfl b1 b2 (σ := plainN kecN K ⟨pc, gas, s, mem, w⟩ 83) (writeL_len' _ _ _) (writeL_lt h.eA.bf.b8 (by intro d hd; simp at hd; omega)) (mMe83 h.s2 h.eA b1 b2 b4 h.eK h.eM hp1 ho h2 hin2))
theorem ex55 {I : Ent → Prop} {cb sz : Nat} {T : TypeId} {c : Nat → Value} {K : YK} {V : Vl} {w : YW} {pc gas : Nat} {s mem : List Nat} {M G : List Ent} (h : EI I cb sz c K V pc gas s mem M G) (hR : RJ K V w) (hp1 : pc + 1 < 60000) (ho : K.code.getD pc 0 = 55) (h2 : 3 ≤ s.length) (hin : reachN s 55 ≤ mem.length) :
    CallG Hvaf.prog 121 #[ptr cb 0, .int .u8 ((55 : Nat) : Int)] ⟨I, ⟨cb, sz, T, c⟩ :: (M ++ G)⟩ fun _ S' => ∃ r, OpP cb sz T c K V 0 0 0 0 0 0 (plainN kecN K ⟨pc, gas, s, mem, w⟩ 55) r S' := by
  by_cases hz : argN s 2 = 0
  · have hm : (plainN kecN K ⟨pc, gas, s, mem, w⟩ 55).mem = mem := by
      show cpyL mem K.data (argN s 0) (argN s 1) (argN s 2) = mem
      unfold cpyL; rw [if_pos hz]
    exact mExOpCopy (by decide) (OpP.ofSetP h hR rfl hm (σ := plainN kecN K ⟨pc, gas, s, mem, w⟩ 55) (mCp55z h.s2 h.eK h.eM hp1 ho h2 hz))
  · have hm : (plainN kecN K ⟨pc, gas, s, mem, w⟩ 55).mem = writeL mem (argN s 0) (cutL K.data (argN s 1) (argN s 2)) := by
      show cpyL mem K.data (argN s 0) (argN s 1) (argN s 2) = _
      unfold cpyL; rw [if_neg hz]
    have hin2 : argN s 0 + argN s 2 ≤ mem.length := (end_in hin).resolve_left hz
    obtain ⟨b, cap, cm, b1, b2, rfl, b4⟩ := h.eA.blk (by omega)
    refine mExOpCopy (by decide) (OpP.ofMem h hR rfl b1 b2 (σ := plainN kecN K ⟨pc, gas, s, mem, w⟩ 55) (by rw [hm]; exact writeL_len' _ _ _) (by rw [hm]; exact writeL_lt h.eA.bf.b8 (cutL_lt h.eK.finp.1 _ _)) ?_)
    rw [hm]
    exact mCp55 h.s2 h.eA b1 b2 b4 h.eK h.eM hp1 ho h2 hz hin2
theorem ex57 {I : Ent → Prop} {cb sz : Nat} {T : TypeId} {c : Nat → Value} {K : YK} {V : Vl} {w : YW} {pc gas : Nat} {s mem : List Nat} {M G : List Ent} (h : EI I cb sz c K V pc gas s mem M G) (hR : RJ K V w) (hp1 : pc + 1 < 60000) (ho : K.code.getD pc 0 = 57) (h2 : 3 ≤ s.length) (hin : reachN s 57 ≤ mem.length) :
    CallG Hvaf.prog 121 #[ptr cb 0, .int .u8 ((57 : Nat) : Int)] ⟨I, ⟨cb, sz, T, c⟩ :: (M ++ G)⟩ fun _ S' => ∃ r, OpP cb sz T c K V 0 0 0 0 0 0 (plainN kecN K ⟨pc, gas, s, mem, w⟩ 57) r S' := by
  by_cases hz : argN s 2 = 0
  · have hm : (plainN kecN K ⟨pc, gas, s, mem, w⟩ 57).mem = mem := by
      show cpyL mem K.code (argN s 0) (argN s 1) (argN s 2) = mem
      unfold cpyL; rw [if_pos hz]
    exact mExOpCopy (by decide) (OpP.ofSetP h hR rfl hm (σ := plainN kecN K ⟨pc, gas, s, mem, w⟩ 57) (mCp57z h.s2 h.eK h.eM hp1 ho h2 hz))
  · have hm : (plainN kecN K ⟨pc, gas, s, mem, w⟩ 57).mem = writeL mem (argN s 0) (cutL K.code (argN s 1) (argN s 2)) := by
      show cpyL mem K.code (argN s 0) (argN s 1) (argN s 2) = _
      unfold cpyL; rw [if_neg hz]
    have hin2 : argN s 0 + argN s 2 ≤ mem.length := (end_in hin).resolve_left hz
    obtain ⟨b, cap, cm, b1, b2, rfl, b4⟩ := h.eA.blk (by omega)
    refine mExOpCopy (by decide) (OpP.ofMem h hR rfl b1 b2 (σ := plainN kecN K ⟨pc, gas, s, mem, w⟩ 57) (by rw [hm]; exact writeL_len' _ _ _) (by rw [hm]; exact writeL_lt h.eA.bf.b8 (cutL_lt h.eK.fcode.1 _ _)) ?_)
    rw [hm]
    exact mCp57 h.s2 h.eA b1 b2 b4 h.eK h.eM hp1 ho h2 hz hin2
theorem ex94 {I : Ent → Prop} {cb sz : Nat} {T : TypeId} {c : Nat → Value} {K : YK} {V : Vl} {w : YW} {pc gas : Nat} {s mem : List Nat} {M G : List Ent} (h : EI I cb sz c K V pc gas s mem M G) (hR : RJ K V w) (hp1 : pc + 1 < 60000) (ho : K.code.getD pc 0 = 94) (h2 : 3 ≤ s.length) (hin : reachN s 94 ≤ mem.length) :
    CallG Hvaf.prog 121 #[ptr cb 0, .int .u8 ((94 : Nat) : Int)] ⟨I, ⟨cb, sz, T, c⟩ :: (M ++ G)⟩ fun _ S' => ∃ r, OpP cb sz T c K V 0 0 0 0 0 0 (plainN kecN K ⟨pc, gas, s, mem, w⟩ 94) r S' := by
  by_cases hz : argN s 2 = 0
  · have hm : (plainN kecN K ⟨pc, gas, s, mem, w⟩ 94).mem = mem := by
      show cpyL mem mem (argN s 0) (argN s 1) (argN s 2) = mem
      unfold cpyL; rw [if_pos hz]
    exact mExOpCopy (by decide) (OpP.ofSetP h hR rfl hm (σ := plainN kecN K ⟨pc, gas, s, mem, w⟩ 94) (mCp94z h.s2 h.eK h.eM hp1 ho h2 hz))
  · have hm : (plainN kecN K ⟨pc, gas, s, mem, w⟩ 94).mem = writeL mem (argN s 0) (cutL mem (argN s 1) (argN s 2)) := by
      show cpyL mem mem (argN s 0) (argN s 1) (argN s 2) = _
      unfold cpyL; rw [if_neg hz]
    have hr : max (endN (argN s 0) (argN s 2)) (endN (argN s 1) (argN s 2)) ≤ mem.length := hin
    have hin2 : argN s 0 + argN s 2 ≤ mem.length := (end_in (show endN (argN s 0) (argN s 2) ≤ mem.length by omega)).resolve_left hz
    have hin3 : argN s 1 + argN s 2 ≤ mem.length := (end_in (show endN (argN s 1) (argN s 2) ≤ mem.length by omega)).resolve_left hz
    obtain ⟨b, cap, cm, b1, b2, rfl, b4⟩ := h.eA.blk (by omega)
    refine mExOpCopy (by decide) (OpP.ofMem h hR rfl b1 b2 (σ := plainN kecN K ⟨pc, gas, s, mem, w⟩ 94) (by rw [hm]; exact writeL_len' _ _ _) (by rw [hm]; exact writeL_lt h.eA.bf.b8 (cutL_lt h.eA.bf.b8 _ _)) ?_)
    rw [hm]
    exact mCp94 h.s2 h.eA b1 b2 b4 h.eK h.eM hp1 ho h2 hz hin2 hin3
theorem ex62 {I : Ent → Prop} {cb sz : Nat} {T : TypeId} {c : Nat → Value} {K : YK} {V : Vl} {w : YW} {pc gas : Nat} {s mem : List Nat} {M G : List Ent} (h : EI I cb sz c K V pc gas s mem M G) (hR : RJ K V w) (hp1 : pc + 1 < 60000) (ho : K.code.getD pc 0 = 62) (h2 : 3 ≤ s.length) (hz : argN s 2 = 0) :
    CallG Hvaf.prog 121 #[ptr cb 0, .int .u8 ((62 : Nat) : Int)] ⟨I, ⟨cb, sz, T, c⟩ :: (M ++ G)⟩ fun _ S' => ∃ r, OpP cb sz T c K V 0 0 0 0 0 0 (plainN kecN K ⟨pc, gas, s, mem, w⟩ 62) r S' :=
  mExOpCopy (by decide) (OpP.ofSetP h hR rfl rfl (σ := plainN kecN K ⟨pc, gas, s, mem, w⟩ 62) (mCp62z h.s2 h.eK h.eM hp1 ho h2 hz))
end Go.Proofs.YgvafwGreat
