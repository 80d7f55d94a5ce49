import Derived.Test.YgvafwGreatE45
import Derived.Test.YgvafwGreatE47
import Derived.Test.YgvafwGreatE42
import Derived.Test.YgvafwGreatY39
import Derived.Test.YgvafwGreatR1
set_option exponentiation.threshold 1000
set_option maxRecDepth 100000
set_option maxHeartbeats 4000000
set_option linter.unusedVariables false
set_option linter.unusedSimpArgs false
-- v2
-- v4
-- v5
-- v6
-- v7
namespace Go.Proofs.YgvafwGreat
open Go.HL Go.Proofs
theorem sgN_lt (o : Nat) (ho : o < 256) : sgN o < 65536 := (by decide +kernel : ∀ o, o < 256 → sgN o < 65536) o ho
theorem growL_same {mem : List Nat} {k : Nat} (h : k ≤ mem.length / 32) : growL mem k = mem := by unfold growL; rw [if_pos h]
/-- What Pass does with an instruction that can only be too dear. -/
def PsP (I : Ent → Prop) (cb sz : Nat) (T : TypeId) (c : Nat → Value) (K : YK) (V : Vl) (w : YW) (pc gas o : Nat) (s mem : List Nat) (M G : List Ent) : Prop :=
  (gas < costN K w s mem.length o → CallG Hvaf.prog 198 #[ptr cb 0, .int .u8 (o : Nat), .int .u16 (sgN o : Nat)] ⟨I, ⟨cb, sz, T, c⟩ :: (M ++ G)⟩ (FailP I M cb sz T c V 2)) ∧ (costN K w s mem.length o ≤ gas → CallG Hvaf.prog 198 #[ptr cb 0, .int .u8 (o : Nat), .int .u16 (sgN o : Nat)] ⟨I, ⟨cb, sz, T, c⟩ :: (M ++ G)⟩ (PassP I G cb sz T c pc (gas - costN K w s mem.length o) s (growL mem ((reachN s o + 31) / 32))))
theorem psGen {I : Ent → Prop} {cb sz : Nat} {T : TypeId} {c : Nat → Value} {K : YK} {V : Vl} {w : YW} {pc gas o : Nat} {s mem : List Nat} {M G : List Ent} (h : EI I cb sz c K V pc gas s mem M G) (ho : o < 256) (hne : o ≠ 62 ∧ o ≠ 240 ∧ o ≠ 245) (hj : o ≠ 85 ∧ o ≠ 86 ∧ o ≠ 87) (hf : flatB o = false) (hmem : gas + memC (mem.length / 32) ≤ 1048576) (dy : Nat)
    (hY : reachN s o ≤ 717280 → (CallG Hvaf.prog 277 #[ptr cb 0, ptr cb 1803, .int .u8 (o : Nat)] ⟨I, ⟨cb, sz, T, c⟩ :: (M ++ G)⟩ fun r S' => ⟨I, ⟨cb, sz, T, c⟩ :: (M ++ G)⟩ = S' ∧ r = .tuple #[.int .u64 (((reachN s o + 31) / 32 : Nat) : Int), .bool true]) ∧ (CallG Hvaf.prog 279 #[ptr cb 0, ptr cb 1803, .int .u8 (o : Nat)] ⟨I, ⟨cb, sz, T, c⟩ :: (M ++ G)⟩ fun r S' => ⟨I, ⟨cb, sz, T, c⟩ :: (M ++ G)⟩ = S' ∧ r = .int .u64 (dy : Nat)) ∧ dy < 2 ^ 40 ∧ bareN K w s o = sgN o + dy)
    (hN : 717280 < reachN s o → CallG Hvaf.prog 277 #[ptr cb 0, ptr cb 1803, .int .u8 (o : Nat)] ⟨I, ⟨cb, sz, T, c⟩ :: (M ++ G)⟩ fun r S' => ⟨I, ⟨cb, sz, T, c⟩ :: (M ++ G)⟩ = S' ∧ ∃ v, r = .tuple #[v, .bool false]) : PsP I cb sz T c K V w pc gas o s mem M G := by
  have hsg := sgN_lt o ho
  have hhave : mem.length / 32 ≤ 22415 := by
    rcases Nat.lt_or_ge 22415 (mem.length / 32) with hc | hc
    · have h1 := memC_mono (Nat.succ_le_of_lt hc)
      have h2 : memC (Nat.succ 22415) = 1048648 := by decide
      omega
    · exact hc
  by_cases hr : reachN s o ≤ 717280
  · obtain ⟨hre, hdy, hdl, hb⟩ := hY hr
    have hwd : (reachN s o + 31) / 32 ≤ 22415 := by omega
    unfold PsP costN
    by_cases hgr : (reachN s o + 31) / 32 ≤ mem.length / 32
    · rw [if_pos hgr, hb, growL_same hgr]
      exact ⟨fun hg => mPsON h ho hsg hne hf hre hwd hdy hdl hgr hg, fun hg => mPsYN h ho hsg hne hf hre hwd hdy hdl hj hgr hg⟩
    · rw [if_neg hgr, hb]
      exact ⟨fun hg => mPsOG h ho hsg hne hf hre hwd hdy hdl (by omega) hg, fun hg => mPsYG h ho hsg hne hf hre hwd hdy hdl hj (by omega) hg⟩
  · have hcost : gas < costN K w s mem.length o := by
      unfold costN
      rw [if_neg (by omega)]
      have h1 := memC_mono (show 22416 ≤ (reachN s o + 31) / 32 by omega)
      have h2 : memC 22416 = 1048648 := by decide
      omega
    exact ⟨fun _ => mPsRN h ho hsg hne hf (hN (by omega)), fun hg => absurd hg (by omega)⟩
theorem psFlat {I : Ent → Prop} {cb sz : Nat} {T : TypeId} {c : Nat → Value} {K : YK} {V : Vl} {w : YW} {pc gas o : Nat} {s mem : List Nat} {M G : List Ent} (h : EI I cb sz c K V pc gas s mem M G) (ho : o < 256) (hf : flatB o = true) (hb : bareN K w s o = sgN o) (hr : reachN s o = 0) : PsP I cb sz T c K V w pc gas o s mem M G := by
  have hsg := sgN_lt o ho
  have hne : o ≠ 62 ∧ o ≠ 240 ∧ o ≠ 245 := by
    refine ⟨?_, ?_, ?_⟩ <;> (rintro rfl; revert hf; decide)
  unfold PsP costN
  rw [hr, if_pos (by omega), hb, growL_same (by omega)]
  exact ⟨fun hg => mPsFN h ho hsg hne hf hg, fun hg => mPsFY h ho hsg hne hf hg⟩
theorem endN_le {a n k : Nat} (h : endN a n ≤ k) : n ≤ k := by unfold endN at h; split at h <;> omega
theorem psZ {I : Ent → Prop} {cb sz : Nat} {T : TypeId} {c : Nat → Value} {K : YK} {V : Vl} {w : YW} {pc gas o : Nat} {s mem : List Nat} {M G : List Ent} (h : EI I cb sz c K V pc gas s mem M G) (ho : o ∈ [48, 50, 51, 52, 53, 54, 56, 58, 61, 64, 65, 66, 67, 68, 69, 70, 71, 72, 80, 92, 93]) (hmem : gas + memC (mem.length / 32) ≤ 1048576) : PsP I cb sz T c K V w pc gas o s mem M G := by
  have hsz' : 2435 ≤ sz := by have := h.eS; omega
  have hr : reachN s o = 0 := reach_Z ((by decide : ∀ o ∈ [48, 50, 51, 52, 53, 54, 56, 58, 61, 64, 65, 66, 67, 68, 69, 70, 71, 72, 80, 92, 93], o ∈ [10, 48, 49, 50, 51, 52, 53, 54, 56, 58, 59, 61, 63, 64, 65, 66, 67, 68, 69, 70, 71, 72, 80, 84, 85, 86, 87, 92, 93]) o ho)
  have hre := mRsZ (I := I) (G := M ++ G) (cb := cb) (T := T) hsz' h.eK h.eM ((by decide : ∀ o ∈ [48, 50, 51, 52, 53, 54, 56, 58, 61, 64, 65, 66, 67, 68, 69, 70, 71, 72, 80, 92, 93], o ∈ [10, 48, 49, 50, 51, 52, 53, 54, 56, 58, 59, 61, 63, 64, 65, 66, 67, 68, 69, 70, 71, 72, 80, 84, 85, 86, 87, 92, 93]) o ho)
  have hdy := mDyZ (R := M) (cb := cb) (T := T) h.eS h.eK h.eM h.eV h.eO ((by decide : ∀ o ∈ [48, 50, 51, 52, 53, 54, 56, 58, 61, 64, 65, 66, 67, 68, 69, 70, 71, 72, 80, 92, 93], o ∈ [48, 50, 51, 52, 53, 54, 56, 58, 61, 64, 65, 66, 67, 68, 69, 70, 71, 72, 80, 81, 82, 83, 86, 87, 92, 93, 243, 253]) o ho)
  obtain ⟨k1, k2, k3, k4⟩ := (by decide : ∀ o ∈ [48, 50, 51, 52, 53, 54, 56, 58, 61, 64, 65, 66, 67, 68, 69, 70, 71, 72, 80, 92, 93], o < 256 ∧ (o ≠ 62 ∧ o ≠ 240 ∧ o ≠ 245) ∧ (o ≠ 85 ∧ o ≠ 86 ∧ o ≠ 87) ∧ flatB o = false) o ho
  refine psGen h k1 k2 k3 k4 hmem 0 (fun _ => ⟨by rw [hr]; exact hre, hdy, by decide, ?_⟩) (fun hc => by omega)
  simp only [List.mem_cons, List.not_mem_nil, or_false] at ho
  rcases ho with rfl | rfl | rfl | rfl | rfl | rfl | rfl | rfl | rfl | rfl | rfl | rfl | rfl | rfl | rfl | rfl | rfl | rfl | rfl | rfl | rfl <;> rfl
theorem rq_32 {s : List Nat} {o : Nat} (ho : o ∈ [32, 243, 253, 160, 161, 162, 163, 164]) : reachN s o = endN (argN s 0) (argN s 1) := by
  simp only [List.mem_cons, List.not_mem_nil, or_false] at ho
  rcases ho with rfl | rfl | rfl | rfl | rfl | rfl | rfl | rfl <;> rfl
theorem rq_55 {s : List Nat} {o : Nat} (ho : o ∈ [55, 57]) : reachN s o = endN (argN s 0) (argN s 2) := by
  simp only [List.mem_cons, List.not_mem_nil, or_false] at ho
  rcases ho with rfl | rfl <;> rfl
theorem rq_60 {s : List Nat} {o : Nat} (ho : o ∈ [60]) : reachN s o = endN (argN s 1) (argN s 3) := by
  simp only [List.mem_cons, List.not_mem_nil, or_false] at ho
  subst ho <;> rfl
theorem rq_94 {s : List Nat} {o : Nat} (ho : o ∈ [94]) : reachN s o = max (endN (argN s 0) (argN s 2)) (endN (argN s 1) (argN s 2)) := by
  simp only [List.mem_cons, List.not_mem_nil, or_false] at ho
  subst ho <;> rfl
theorem psKec {I : Ent → Prop} {cb sz : Nat} {T : TypeId} {c : Nat → Value} {K : YK} {V : Vl} {w : YW} {pc gas o : Nat} {s mem : List Nat} {M G : List Ent} (h : EI I cb sz c K V pc gas s mem M G) (ho : o ∈ [32]) (hmem : gas + memC (mem.length / 32) ≤ 1048576) : PsP I cb sz T c K V w pc gas o s mem M G := by
  have hsz' : 2435 ≤ sz := by have := h.eS; omega
  obtain ⟨k1, k2, k3, k4⟩ := (by decide : ∀ o ∈ [32], o < 256 ∧ (o ≠ 62 ∧ o ≠ 240 ∧ o ≠ 245) ∧ (o ≠ 85 ∧ o ≠ 86 ∧ o ≠ 87) ∧ flatB o = false) o ho
  refine psGen h k1 k2 k3 k4 hmem (6 * ((argN s 1 + 31) / 32)) (fun hr => ⟨mRsAY (I := I) (G := M ++ G) (cb := cb) (T := T) hsz' h.eK h.eM ((by decide : ∀ o ∈ [32], o ∈ [32, 243, 253, 160, 161, 162, 163, 164]) o ho) hr, mDyKec (R := M) (cb := cb) (T := T) h.eS h.eK h.eM h.eV h.eO ho (endN_le (by rw [← rq_32 (o := o) (by simp at ho; subst ho; decide)]; exact hr)), by have := endN_le (show endN (argN s 0) (argN s 1) ≤ 717280 by rw [← rq_32 (o := o) (by simp at ho; subst ho; decide)]; exact hr); omega, ?_⟩) (fun hc => mRsAN (I := I) (G := M ++ G) (cb := cb) (T := T) hsz' h.eK h.eM ((by decide : ∀ o ∈ [32], o ∈ [32, 243, 253, 160, 161, 162, 163, 164]) o ho) hc)
  simp only [List.mem_cons, List.not_mem_nil, or_false] at ho
  subst ho; rfl
theorem psLog {I : Ent → Prop} {cb sz : Nat} {T : TypeId} {c : Nat → Value} {K : YK} {V : Vl} {w : YW} {pc gas o : Nat} {s mem : List Nat} {M G : List Ent} (h : EI I cb sz c K V pc gas s mem M G) (ho : o ∈ [160, 161, 162, 163, 164]) (hmem : gas + memC (mem.length / 32) ≤ 1048576) : PsP I cb sz T c K V w pc gas o s mem M G := by
  have hsz' : 2435 ≤ sz := by have := h.eS; omega
  obtain ⟨k1, k2, k3, k4⟩ := (by decide : ∀ o ∈ [160, 161, 162, 163, 164], o < 256 ∧ (o ≠ 62 ∧ o ≠ 240 ∧ o ≠ 245) ∧ (o ≠ 85 ∧ o ≠ 86 ∧ o ≠ 87) ∧ flatB o = false) o ho
  refine psGen h k1 k2 k3 k4 hmem (8 * argN s 1) (fun hr => ⟨mRsAY (I := I) (G := M ++ G) (cb := cb) (T := T) hsz' h.eK h.eM ((by decide : ∀ o ∈ [160, 161, 162, 163, 164], o ∈ [32, 243, 253, 160, 161, 162, 163, 164]) o ho) hr, mDyLog (R := M) (cb := cb) (T := T) h.eS h.eK h.eM h.eV h.eO ho (endN_le (by rw [← rq_32 (o := o) ((by decide : ∀ o ∈ [160, 161, 162, 163, 164], o ∈ [32, 243, 253, 160, 161, 162, 163, 164]) o ho)]; exact hr)), by have := endN_le (show endN (argN s 0) (argN s 1) ≤ 717280 by rw [← rq_32 (o := o) ((by decide : ∀ o ∈ [160, 161, 162, 163, 164], o ∈ [32, 243, 253, 160, 161, 162, 163, 164]) o ho)]; exact hr); omega, ?_⟩) (fun hc => mRsAN (I := I) (G := M ++ G) (cb := cb) (T := T) hsz' h.eK h.eM ((by decide : ∀ o ∈ [160, 161, 162, 163, 164], o ∈ [32, 243, 253, 160, 161, 162, 163, 164]) o ho) hc)
  simp only [List.mem_cons, List.not_mem_nil, or_false] at ho
  rcases ho with rfl | rfl | rfl | rfl | rfl <;> (unfold bareN sgN; simp)
theorem psRet {I : Ent → Prop} {cb sz : Nat} {T : TypeId} {c : Nat → Value} {K : YK} {V : Vl} {w : YW} {pc gas o : Nat} {s mem : List Nat} {M G : List Ent} (h : EI I cb sz c K V pc gas s mem M G) (ho : o ∈ [243, 253]) (hmem : gas + memC (mem.length / 32) ≤ 1048576) : PsP I cb sz T c K V w pc gas o s mem M G := by
  have hsz' : 2435 ≤ sz := by have := h.eS; omega
  obtain ⟨k1, k2, k3, k4⟩ := (by decide : ∀ o ∈ [243, 253], o < 256 ∧ (o ≠ 62 ∧ o ≠ 240 ∧ o ≠ 245) ∧ (o ≠ 85 ∧ o ≠ 86 ∧ o ≠ 87) ∧ flatB o = false) o ho
  refine psGen h k1 k2 k3 k4 hmem (0) (fun hr => ⟨mRsAY (I := I) (G := M ++ G) (cb := cb) (T := T) hsz' h.eK h.eM ((by decide : ∀ o ∈ [243, 253], o ∈ [32, 243, 253, 160, 161, 162, 163, 164]) o ho) hr, mDyZ (R := M) (cb := cb) (T := T) h.eS h.eK h.eM h.eV h.eO ((by decide : ∀ o ∈ [243, 253], o ∈ [48, 50, 51, 52, 53, 54, 56, 58, 61, 64, 65, 66, 67, 68, 69, 70, 71, 72, 80, 81, 82, 83, 86, 87, 92, 93, 243, 253]) o ho), by decide, ?_⟩) (fun hc => mRsAN (I := I) (G := M ++ G) (cb := cb) (T := T) hsz' h.eK h.eM ((by decide : ∀ o ∈ [243, 253], o ∈ [32, 243, 253, 160, 161, 162, 163, 164]) o ho) hc)
  simp only [List.mem_cons, List.not_mem_nil, or_false] at ho
  rcases ho with rfl | rfl <;> rfl
theorem psCpy {I : Ent → Prop} {cb sz : Nat} {T : TypeId} {c : Nat → Value} {K : YK} {V : Vl} {w : YW} {pc gas o : Nat} {s mem : List Nat} {M G : List Ent} (h : EI I cb sz c K V pc gas s mem M G) (ho : o ∈ [55, 57]) (hmem : gas + memC (mem.length / 32) ≤ 1048576) : PsP I cb sz T c K V w pc gas o s mem M G := by
  have hsz' : 2435 ≤ sz := by have := h.eS; omega
  obtain ⟨k1, k2, k3, k4⟩ := (by decide : ∀ o ∈ [55, 57], o < 256 ∧ (o ≠ 62 ∧ o ≠ 240 ∧ o ≠ 245) ∧ (o ≠ 85 ∧ o ≠ 86 ∧ o ≠ 87) ∧ flatB o = false) o ho
  refine psGen h k1 k2 k3 k4 hmem (3 * ((argN s 2 + 31) / 32)) (fun hr => ⟨mRsBY (I := I) (G := M ++ G) (cb := cb) (T := T) hsz' h.eK h.eM ((by decide : ∀ o ∈ [55, 57], o ∈ [55, 57, 62]) o ho) hr, mDyCpy (R := M) (cb := cb) (T := T) h.eS h.eK h.eM h.eV h.eO ((by decide : ∀ o ∈ [55, 57], o ∈ [55, 57, 62, 94]) o ho) (endN_le (by rw [← rq_55 (o := o) ho]; exact hr)), by have := endN_le (show endN (argN s 0) (argN s 2) ≤ 717280 by rw [← rq_55 (o := o) ho]; exact hr); omega, ?_⟩) (fun hc => mRsBN (I := I) (G := M ++ G) (cb := cb) (T := T) hsz' h.eK h.eM ((by decide : ∀ o ∈ [55, 57], o ∈ [55, 57, 62]) o ho) hc)
  simp only [List.mem_cons, List.not_mem_nil, or_false] at ho
  rcases ho with rfl | rfl <;> rfl
theorem psMcp {I : Ent → Prop} {cb sz : Nat} {T : TypeId} {c : Nat → Value} {K : YK} {V : Vl} {w : YW} {pc gas o : Nat} {s mem : List Nat} {M G : List Ent} (h : EI I cb sz c K V pc gas s mem M G) (ho : o ∈ [94]) (hmem : gas + memC (mem.length / 32) ≤ 1048576) : PsP I cb sz T c K V w pc gas o s mem M G := by
  have hsz' : 2435 ≤ sz := by have := h.eS; omega
  obtain ⟨k1, k2, k3, k4⟩ := (by decide : ∀ o ∈ [94], o < 256 ∧ (o ≠ 62 ∧ o ≠ 240 ∧ o ≠ 245) ∧ (o ≠ 85 ∧ o ≠ 86 ∧ o ≠ 87) ∧ flatB o = false) o ho
  refine psGen h k1 k2 k3 k4 hmem (3 * ((argN s 2 + 31) / 32)) (fun hr => ⟨mRsFY (I := I) (G := M ++ G) (cb := cb) (T := T) hsz' h.eK h.eM (by simpa using ho) hr, mDyCpy (R := M) (cb := cb) (T := T) h.eS h.eK h.eM h.eV h.eO ((by decide : ∀ o ∈ [94], o ∈ [55, 57, 62, 94]) o ho) (endN_le (a := argN s 0) (by have := rq_94 (s := s) (o := o) ho; omega)), by have := endN_le (a := argN s 0) (n := argN s 2) (k := 717280) (by have := rq_94 (s := s) (o := o) ho; omega); omega, ?_⟩) (fun hc => mRsFN (I := I) (G := M ++ G) (cb := cb) (T := T) hsz' h.eK h.eM (by simpa using ho) hc)
  simp only [List.mem_cons, List.not_mem_nil, or_false] at ho
  subst ho; rfl
theorem psMem {I : Ent → Prop} {cb sz : Nat} {T : TypeId} {c : Nat → Value} {K : YK} {V : Vl} {w : YW} {pc gas o : Nat} {s mem : List Nat} {M G : List Ent} (h : EI I cb sz c K V pc gas s mem M G) (ho : o ∈ [81, 82]) (hmem : gas + memC (mem.length / 32) ≤ 1048576) : PsP I cb sz T c K V w pc gas o s mem M G := by
  have hsz' : 2435 ≤ sz := by have := h.eS; omega
  obtain ⟨k1, k2, k3, k4⟩ := (by decide : ∀ o ∈ [81, 82], o < 256 ∧ (o ≠ 62 ∧ o ≠ 240 ∧ o ≠ 245) ∧ (o ≠ 85 ∧ o ≠ 86 ∧ o ≠ 87) ∧ flatB o = false) o ho
  refine psGen h k1 k2 k3 k4 hmem (0) (fun hr => ⟨mRsDY (I := I) (G := M ++ G) (cb := cb) (T := T) hsz' h.eK h.eM ho hr, mDyZ (R := M) (cb := cb) (T := T) h.eS h.eK h.eM h.eV h.eO ((by decide : ∀ o ∈ [81, 82], o ∈ [48, 50, 51, 52, 53, 54, 56, 58, 61, 64, 65, 66, 67, 68, 69, 70, 71, 72, 80, 81, 82, 83, 86, 87, 92, 93, 243, 253]) o ho), by decide, ?_⟩) (fun hc => mRsDN (I := I) (G := M ++ G) (cb := cb) (T := T) hsz' h.eK h.eM ho hc)
  simp only [List.mem_cons, List.not_mem_nil, or_false] at ho
  rcases ho with rfl | rfl <;> rfl
theorem psMs8 {I : Ent → Prop} {cb sz : Nat} {T : TypeId} {c : Nat → Value} {K : YK} {V : Vl} {w : YW} {pc gas o : Nat} {s mem : List Nat} {M G : List Ent} (h : EI I cb sz c K V pc gas s mem M G) (ho : o ∈ [83]) (hmem : gas + memC (mem.length / 32) ≤ 1048576) : PsP I cb sz T c K V w pc gas o s mem M G := by
  have hsz' : 2435 ≤ sz := by have := h.eS; omega
  obtain ⟨k1, k2, k3, k4⟩ := (by decide : ∀ o ∈ [83], o < 256 ∧ (o ≠ 62 ∧ o ≠ 240 ∧ o ≠ 245) ∧ (o ≠ 85 ∧ o ≠ 86 ∧ o ≠ 87) ∧ flatB o = false) o ho
  refine psGen h k1 k2 k3 k4 hmem (0) (fun hr => ⟨mRsEY (I := I) (G := M ++ G) (cb := cb) (T := T) hsz' h.eK h.eM ho hr, mDyZ (R := M) (cb := cb) (T := T) h.eS h.eK h.eM h.eV h.eO ((by decide : ∀ o ∈ [83], o ∈ [48, 50, 51, 52, 53, 54, 56, 58, 61, 64, 65, 66, 67, 68, 69, 70, 71, 72, 80, 81, 82, 83, 86, 87, 92, 93, 243, 253]) o ho), by decide, ?_⟩) (fun hc => mRsEN (I := I) (G := M ++ G) (cb := cb) (T := T) hsz' h.eK h.eM ho hc)
  simp only [List.mem_cons, List.not_mem_nil, or_false] at ho
  subst ho; rfl
theorem accN_le2 (w : YW) (a : Nat) : accN w a ≤ 2600 := by unfold accN; split <;> omega
theorem RW.accN {K : YK} {V : Vl} {w : YW} (h : RW K V w) (a : Nat) : (if (V.acc (adN a)).warm = true then 100 else 2600) = accN w a := by
  unfold Go.Proofs.YgvafwGreat.accN
  by_cases hw : (V.acc (adN a)).warm = true
  · rw [if_pos hw, if_pos ((h.wrm _).1 hw)]
  · rw [if_neg hw, if_neg (fun hc => hw ((h.wrm _).2 hc))]
theorem psAcc {I : Ent → Prop} {cb sz : Nat} {T : TypeId} {c : Nat → Value} {K : YK} {V : Vl} {w : YW} {pc gas o : Nat} {s mem : List Nat} {M G : List Ent} (h : EI I cb sz c K V pc gas s mem M G) (ho : o ∈ [49, 59, 63]) (hmem : gas + memC (mem.length / 32) ≤ 1048576) (hR : RW K V w) : PsP I cb sz T c K V w pc gas o s mem M G := by
  have hsz' : 2435 ≤ sz := by have := h.eS; omega
  obtain ⟨k1, k2, k3, k4⟩ := (by decide : ∀ o ∈ [49, 59, 63], o < 256 ∧ (o ≠ 62 ∧ o ≠ 240 ∧ o ≠ 245) ∧ (o ≠ 85 ∧ o ≠ 86 ∧ o ≠ 87) ∧ flatB o = false) o ho
  refine psGen h k1 k2 k3 k4 hmem (accN w (argN s 0)) (fun hr => ⟨(by rw [reach_Z ((by decide : ∀ o ∈ [49, 59, 63], o ∈ [10, 48, 49, 50, 51, 52, 53, 54, 56, 58, 59, 61, 63, 64, 65, 66, 67, 68, 69, 70, 71, 72, 80, 84, 85, 86, 87, 92, 93]) o ho)]; exact mRsZ (I := I) (G := M ++ G) (cb := cb) (T := T) hsz' h.eK h.eM ((by decide : ∀ o ∈ [49, 59, 63], o ∈ [10, 48, 49, 50, 51, 52, 53, 54, 56, 58, 59, 61, 63, 64, 65, 66, 67, 68, 69, 70, 71, 72, 80, 84, 85, 86, 87, 92, 93]) o ho)), (by rw [← hR.accN]; exact mDyAcc (R := M) (cb := cb) (T := T) h.eS h.eK h.eM h.eV h.eO ho), by unfold accN; split <;> decide, ?_⟩) (fun hc => absurd hc (by rw [reach_Z ((by decide : ∀ o ∈ [49, 59, 63], o ∈ [10, 48, 49, 50, 51, 52, 53, 54, 56, 58, 59, 61, 63, 64, 65, 66, 67, 68, 69, 70, 71, 72, 80, 84, 85, 86, 87, 92, 93]) o ho)]; decide))
  simp only [List.mem_cons, List.not_mem_nil, or_false] at ho
  rcases ho with rfl | rfl | rfl
  · show accN w (argN s 0) = 0 + accN w (argN s 0); omega
  · show accN w (argN s 0) = 0 + accN w (argN s 0); omega
  · show accN w (argN s 0) = 0 + accN w (argN s 0); omega
theorem psExt {I : Ent → Prop} {cb sz : Nat} {T : TypeId} {c : Nat → Value} {K : YK} {V : Vl} {w : YW} {pc gas o : Nat} {s mem : List Nat} {M G : List Ent} (h : EI I cb sz c K V pc gas s mem M G) (ho : o ∈ [60]) (hmem : gas + memC (mem.length / 32) ≤ 1048576) (hR : RW K V w) : PsP I cb sz T c K V w pc gas o s mem M G := by
  have hsz' : 2435 ≤ sz := by have := h.eS; omega
  obtain ⟨k1, k2, k3, k4⟩ := (by decide : ∀ o ∈ [60], o < 256 ∧ (o ≠ 62 ∧ o ≠ 240 ∧ o ≠ 245) ∧ (o ≠ 85 ∧ o ≠ 86 ∧ o ≠ 87) ∧ flatB o = false) o ho
  refine psGen h k1 k2 k3 k4 hmem (accN w (argN s 0) + 3 * ((argN s 3 + 31) / 32)) (fun hr => ⟨mRsCY (I := I) (G := M ++ G) (cb := cb) (T := T) hsz' h.eK h.eM ho hr, (by rw [← hR.accN]; exact mDyExt (R := M) (cb := cb) (T := T) h.eS h.eK h.eM h.eV h.eO ho (endN_le (by rw [← rq_60 (o := o) ho]; exact hr))), by have := endN_le (show endN (argN s 1) (argN s 3) ≤ 717280 by rw [← rq_60 (o := o) ho]; exact hr); have := accN_le2 w (argN s 0); omega, ?_⟩) (fun hc => mRsCN (I := I) (G := M ++ G) (cb := cb) (T := T) hsz' h.eK h.eM ho hc)
  simp only [List.mem_cons, List.not_mem_nil, or_false] at ho
  subst ho
  show accN w (argN s 0) + 3 * ((argN s 3 + 31) / 32) = 0 + (accN w (argN s 0) + 3 * ((argN s 3 + 31) / 32)); omega
theorem psExp {I : Ent → Prop} {cb sz : Nat} {T : TypeId} {c : Nat → Value} {K : YK} {V : Vl} {w : YW} {pc gas o : Nat} {s mem : List Nat} {M G : List Ent} (h : EI I cb sz c K V pc gas s mem M G) (ho : o ∈ [10]) (hmem : gas + memC (mem.length / 32) ≤ 1048576) : PsP I cb sz T c K V w pc gas o s mem M G := by
  have hsz' : 2435 ≤ sz := by have := h.eS; omega
  obtain ⟨k1, k2, k3, k4⟩ := (by decide : ∀ o ∈ [10], o < 256 ∧ (o ≠ 62 ∧ o ≠ 240 ∧ o ≠ 245) ∧ (o ≠ 85 ∧ o ≠ 86 ∧ o ≠ 87) ∧ flatB o = false) o ho
  refine psGen h k1 k2 k3 k4 hmem (50 * ((blen (argN s 1) + 7) / 8)) (fun hr => ⟨(by rw [reach_Z ((by decide : ∀ o ∈ [10], o ∈ [10, 48, 49, 50, 51, 52, 53, 54, 56, 58, 59, 61, 63, 64, 65, 66, 67, 68, 69, 70, 71, 72, 80, 84, 85, 86, 87, 92, 93]) o ho)]; exact mRsZ (I := I) (G := M ++ G) (cb := cb) (T := T) hsz' h.eK h.eM ((by decide : ∀ o ∈ [10], o ∈ [10, 48, 49, 50, 51, 52, 53, 54, 56, 58, 59, 61, 63, 64, 65, 66, 67, 68, 69, 70, 71, 72, 80, 84, 85, 86, 87, 92, 93]) o ho)), mDyExp (R := M) (cb := cb) (T := T) h.eS h.eK h.eM h.eV h.eO ho, by have := nb_le (argN_lt h.eM.sb (i := 1)); omega, ?_⟩) (fun hc => absurd hc (by rw [reach_Z ((by decide : ∀ o ∈ [10], o ∈ [10, 48, 49, 50, 51, 52, 53, 54, 56, 58, 59, 61, 63, 64, 65, 66, 67, 68, 69, 70, 71, 72, 80, 84, 85, 86, 87, 92, 93]) o ho)]; decide))
  simp only [List.mem_cons, List.not_mem_nil, or_false] at ho
  subst ho; rfl
theorem psLd {I : Ent → Prop} {cb sz : Nat} {T : TypeId} {c : Nat → Value} {K : YK} {V : Vl} {w : YW} {pc gas o : Nat} {s mem : List Nat} {M G : List Ent} (h : EI I cb sz c K V pc gas s mem M G) (ho : o ∈ [84]) (hmem : gas + memC (mem.length / 32) ≤ 1048576) (hR : RW K V w) (h0 : V.ix K.self = 0) (h1 : 0 < V.ac.length) : PsP I cb sz T c K V w pc gas o s mem M G := by
  have hsz' : 2435 ≤ sz := by have := h.eS; omega
  obtain ⟨k1, k2, k3, k4⟩ := (by decide : ∀ o ∈ [84], o < 256 ∧ (o ≠ 62 ∧ o ≠ 240 ∧ o ≠ 245) ∧ (o ≠ 85 ∧ o ≠ 86 ∧ o ≠ 87) ∧ flatB o = false) o ho
  refine psGen h k1 k2 k3 k4 hmem (if (findT K.self (argN s 0) w.ms).isSome then 100 else 2100) (fun hr => ⟨(by rw [reach_Z ((by decide : ∀ o ∈ [84], o ∈ [10, 48, 49, 50, 51, 52, 53, 54, 56, 58, 59, 61, 63, 64, 65, 66, 67, 68, 69, 70, 71, 72, 80, 84, 85, 86, 87, 92, 93]) o ho)]; exact mRsZ (I := I) (G := M ++ G) (cb := cb) (T := T) hsz' h.eK h.eM ((by decide : ∀ o ∈ [84], o ∈ [10, 48, 49, 50, 51, 52, 53, 54, 56, 58, 59, 61, 63, 64, 65, 66, 67, 68, 69, 70, 71, 72, 80, 84, 85, 86, 87, 92, 93]) o ho)), (by rw [← hR.swm]; exact mDyLd (R := M) (cb := cb) (T := T) h.eS h.eK h.eM h.eV h.eO ho h0 h1), by split <;> decide, ?_⟩) (fun hc => absurd hc (by rw [reach_Z ((by decide : ∀ o ∈ [84], o ∈ [10, 48, 49, 50, 51, 52, 53, 54, 56, 58, 59, 61, 63, 64, 65, 66, 67, 68, 69, 70, 71, 72, 80, 84, 85, 86, 87, 92, 93]) o ho)]; decide))
  simp only [List.mem_cons, List.not_mem_nil, or_false] at ho
  subst ho
  show (if (findT K.self (argN s 0) w.ms).isSome then 100 else 2100) = 0 + (if (findT K.self (argN s 0) w.ms).isSome then 100 else 2100)
  rw [Nat.zero_add]
end Go.Proofs.YgvafwGreat
