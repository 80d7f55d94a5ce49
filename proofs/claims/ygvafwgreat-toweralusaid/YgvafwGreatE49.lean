import Derived.Test.YgvafwGreatE48
set_option exponentiation.threshold 1000
set_option maxRecDepth 100000
set_option maxHeartbeats 4000000
set_option linter.unusedVariables false
set_option linter.unusedSimpArgs false
-- v2
-- v4
-- v5
-- v6
-- v7
namespace Go.Proofs.YgvafwGreat
open Go.HL Go.Proofs
/-- The checks from the fourth on. -/
def refP (K : YK) (w : YW) (s : List Nat) (gas m o : Nat) : Nat :=
  if o = 62 ∧ argN s 1 + argN s 2 ≠ 0 then 8
  else if gas < costN K w s m o then 2
  else if o = 85 ∧ gas ≤ 2300 then 2
  else if o = 86 ∧ destN K.code (argN s 0) = false then 6
  else if o = 87 ∧ argN s 1 ≠ 0 ∧ destN K.code (argN s 0) = false then 6
  else 0
theorem refN_P {K : YK} {w : YW} {s : List Nat} {gas m o : Nat} (h1 : famN o ≠ 0) (h2 : (arN o).1 ≤ s.length) (h3 : s.length - (arN o).1 + (arN o).2.1 ≤ 64) : refN K w s gas m o = refP K w s gas m o := by
  unfold refN refP
  rw [if_neg h1, if_neg (by omega), if_neg (by omega)]
/-- What Pass does. -/
def PsQ (I : Ent → Prop) (cb sz : Nat) (T : TypeId) (c : Nat → Value) (K : YK) (V : Vl) (w : YW) (pc gas o : Nat) (s mem : List Nat) (M G : List Ent) : Prop :=
  (refP K w s gas mem.length o ≠ 0 → CallG Hvaf.prog 198 #[ptr cb 0, .int .u8 (o : Nat), .int .u16 (sgN o : Nat)] ⟨I, ⟨cb, sz, T, c⟩ :: (M ++ G)⟩ (FailP I M cb sz T c V (refP K w s gas mem.length o))) ∧ (refP K w s gas mem.length o = 0 → CallG Hvaf.prog 198 #[ptr cb 0, .int .u8 (o : Nat), .int .u16 (sgN o : Nat)] ⟨I, ⟨cb, sz, T, c⟩ :: (M ++ G)⟩ (PassP I G cb sz T c pc (gas - costN K w s mem.length o) s (growL mem ((reachN s o + 31) / 32))))
theorem PsP.toQ {I : Ent → Prop} {cb sz : Nat} {T : TypeId} {c : Nat → Value} {K : YK} {V : Vl} {w : YW} {pc gas o : Nat} {s mem : List Nat} {M G : List Ent}  (h : PsP I cb sz T c K V w pc gas o s mem M G) (hne : o ≠ 62 ∧ o ≠ 85 ∧ o ≠ 86 ∧ o ≠ 87) : PsQ I cb sz T c K V w pc gas o s mem M G := by
  obtain ⟨h1, h2⟩ := h
  unfold PsQ refP
  rw [if_neg (fun hc => hne.1 hc.1), if_neg (fun hc : o = 85 ∧ _ => hne.2.1 hc.1), if_neg (fun hc : o = 86 ∧ _ => hne.2.2.1 hc.1), if_neg (fun hc : o = 87 ∧ _ => hne.2.2.2 hc.1)]
  by_cases hg : gas < costN K w s mem.length o
  · rw [if_pos hg]; exact ⟨fun _ => h1 hg, fun hc => absurd hc (by decide)⟩
  · rw [if_neg hg]; exact ⟨fun hc => absurd rfl hc, fun _ => h2 (by omega)⟩
theorem costZ {K : YK} {w : YW} {s : List Nat} {m o : Nat} (hr : reachN s o = 0) : costN K w s m o = bareN K w s o := by unfold costN; rw [hr, if_pos (by omega)]
theorem psJ86 {I : Ent → Prop} {cb sz : Nat} {T : TypeId} {c : Nat → Value} {K : YK} {V : Vl} {w : YW} {pc gas o : Nat} {s mem : List Nat} {M G : List Ent} (h : EI I cb sz c K V pc gas s mem M G) (ho : o = 86) (hcd : K.code.length ≤ 512) (hmem : gas + memC (mem.length / 32) ≤ 1048576) : PsQ I cb sz T c K V w pc gas o s mem M G := by
  subst ho
  have hsz' : 2435 ≤ sz := by have := h.eS; omega
  have hr : reachN s 86 = 0 := rfl
  have hc : costN K w s mem.length 86 = 8 := costZ hr
  have hre := mRsZ (I := I) (G := M ++ G) (cb := cb) (T := T) (o := 86) hsz' h.eK h.eM (by decide)
  have hdy := mDyZ (R := M) (cb := cb) (T := T) (o := 86) h.eS h.eK h.eM h.eV h.eO (by decide)
  unfold PsQ refP
  rw [hc, hr, growL_same (by omega)]
  rw [if_neg (by omega), if_neg (show ¬ (86 = 85 ∧ gas ≤ 2300) by omega), if_neg (show ¬ (86 = 87 ∧ _) by omega)]
  by_cases hg : gas < 8
  · rw [if_pos hg]; exact ⟨fun _ => mPsON h (by decide) (by decide) (by decide) (by decide) hre (by decide) hdy (by decide) (by omega) (by show gas < 8 + 0; omega), fun hc => absurd hc (by decide)⟩
  · rw [if_neg hg]
    cases hd : destN K.code (argN s 0) with
    | false => rw [if_pos ⟨rfl, rfl⟩]; exact ⟨fun _ => mPs86N h hcd hd (by omega), fun hc => absurd hc (by decide)⟩
    | true => rw [if_neg (by simp)]; exact ⟨fun hc => absurd rfl hc, fun _ => mPs86Y h hcd hd (by omega)⟩
theorem psJ87 {I : Ent → Prop} {cb sz : Nat} {T : TypeId} {c : Nat → Value} {K : YK} {V : Vl} {w : YW} {pc gas o : Nat} {s mem : List Nat} {M G : List Ent} (h : EI I cb sz c K V pc gas s mem M G) (ho : o = 87) (hcd : K.code.length ≤ 512) (hmem : gas + memC (mem.length / 32) ≤ 1048576) : PsQ I cb sz T c K V w pc gas o s mem M G := by
  subst ho
  have hsz' : 2435 ≤ sz := by have := h.eS; omega
  have hr : reachN s 87 = 0 := rfl
  have hc : costN K w s mem.length 87 = 10 := costZ hr
  have hre := mRsZ (I := I) (G := M ++ G) (cb := cb) (T := T) (o := 87) hsz' h.eK h.eM (by decide)
  have hdy := mDyZ (R := M) (cb := cb) (T := T) (o := 87) h.eS h.eK h.eM h.eV h.eO (by decide)
  unfold PsQ refP
  rw [hc, hr, growL_same (by omega)]
  rw [if_neg (by omega), if_neg (show ¬ (87 = 85 ∧ gas ≤ 2300) by omega), if_neg (show ¬ (87 = 86 ∧ _) by omega)]
  by_cases hg : gas < 10
  · rw [if_pos hg]; exact ⟨fun _ => mPsON h (by decide) (by decide) (by decide) (by decide) hre (by decide) hdy (by decide) (by omega) (by show gas < 10 + 0; omega), fun hc => absurd hc (by decide)⟩
  · rw [if_neg hg]
    by_cases hz : argN s 1 = 0
    · rw [if_neg (fun hc => hc.2.1 hz)]; exact ⟨fun hc => absurd rfl hc, fun _ => mPs87Z h hcd hz (by omega)⟩
    · cases hd : destN K.code (argN s 0) with
      | false => rw [if_pos ⟨rfl, hz, rfl⟩]; exact ⟨fun _ => mPs87N h hcd hz hd (by omega), fun hc => absurd hc (by decide)⟩
      | true => rw [if_neg (by simp)]; exact ⟨fun hc => absurd rfl hc, fun _ => mPs87Y h hcd hz hd (by omega)⟩
theorem ps62 {I : Ent → Prop} {cb sz : Nat} {T : TypeId} {c : Nat → Value} {K : YK} {V : Vl} {w : YW} {pc gas o : Nat} {s mem : List Nat} {M G : List Ent} (h : EI I cb sz c K V pc gas s mem M G) (ho : o = 62) (hmem : gas + memC (mem.length / 32) ≤ 1048576) : PsQ I cb sz T c K V w pc gas o s mem M G := by
  subst ho
  unfold PsQ refP
  rw [if_neg (show ¬ (62 = 85 ∧ gas ≤ 2300) by omega), if_neg (show ¬ (62 = 86 ∧ _) by omega), if_neg (show ¬ (62 = 87 ∧ _) by omega)]
  by_cases hp : argN s 1 + argN s 2 ≠ 0
  · rw [if_pos ⟨rfl, hp⟩]; exact ⟨fun _ => mPs62P h hp, fun hc => absurd hc (by decide)⟩
  · rw [if_neg (fun hc => hp hc.2)]
    have hz2 : argN s 2 = 0 := by omega
    have hr : reachN s 62 = 0 := by show endN (argN s 0) (argN s 2) = 0; rw [hz2]; rfl
    have hc : costN K w s mem.length 62 = 3 := by
      rw [costZ hr]; show 3 + 3 * ((argN s 2 + 31) / 32) = 3; rw [hz2]
    rw [hc, hr, growL_same (by omega)]
    by_cases hg : gas < 3
    · rw [if_pos hg]; exact ⟨fun _ => mPs62N h (by omega) hg, fun hc => absurd hc (by decide)⟩
    · rw [if_neg hg]; exact ⟨fun hc => absurd rfl hc, fun _ => mPs62Y h (by omega) (by omega)⟩
theorem RW.sst {K : YK} {V : Vl} {w : YW} (h : RW K V w) (hst : K.st = []) (s : List Nat) : sstN 0 (V.slt (argN s 0)).val (argN s 1) (!(V.slt (argN s 0)).warm) = sstoreN K w s := by
  unfold sstoreN
  rw [hst, h.slo, h.swm]; rfl
theorem ps85 {I : Ent → Prop} {cb sz : Nat} {T : TypeId} {c : Nat → Value} {K : YK} {V : Vl} {w : YW} {pc gas o : Nat} {s mem : List Nat} {M G : List Ent} (h : EI I cb sz c K V pc gas s mem M G) (ho : o = 85) (hR : RW K V w) (hst : K.st = []) (h0 : V.ix K.self = 0) (h1 : 0 < V.ac.length) (hmem : gas + memC (mem.length / 32) ≤ 1048576) : PsQ I cb sz T c K V w pc gas o s mem M G := by
  subst ho
  have hsz' : 2435 ≤ sz := by have := h.eS; omega
  have hr : reachN s 85 = 0 := rfl
  have hb : bareN K w s 85 = (sstoreN K w s).1 := rfl
  have hc : costN K w s mem.length 85 = (sstoreN K w s).1 := (costZ hr).trans hb
  have hor := hR.sor (argN s 0)
  have hre := mRsZ (I := I) (G := M ++ G) (cb := cb) (T := T) (o := 85) hsz' h.eK h.eM (by decide)
  have hdy := mDySst (R := M) (cb := cb) (T := T) (o := 85) h.eS h.eK h.eM h.eV h.eO (by decide) h0 h1 hor
  have hle := sst_le 0 (V.slt (argN s 0)).val (argN s 1) (!(V.slt (argN s 0)).warm)
  have hN := fun hg => mPs85N (T := T) h h0 h1 hor hg
  have hY := fun hg hg2 => mPs85Y (T := T) h h0 h1 hor hg hg2
  rw [hR.sst hst] at hdy hle hN hY
  unfold PsQ refP
  rw [hc, hr, growL_same (by omega)]
  rw [if_neg (by omega), if_neg (show ¬ (85 = 86 ∧ _) by omega), if_neg (show ¬ (85 = 87 ∧ _) by omega)]
  by_cases hg : gas < (sstoreN K w s).1
  · rw [if_pos hg]; exact ⟨fun _ => mPsON h (by decide) (by decide) (by decide) (by decide) hre (by decide) hdy (by omega) (by omega) (by show gas < 0 + _; omega), fun hc => absurd hc (by decide)⟩
  · rw [if_neg hg]
    by_cases hg2 : gas ≤ 2300
    · rw [if_pos ⟨rfl, hg2⟩]; exact ⟨fun _ => hN (by omega) hg2, fun hc => absurd hc (by decide)⟩
    · rw [if_neg (fun hc => hg2 hc.2)]; exact ⟨fun hc => absurd rfl hc, fun _ => hY (by omega) (by omega)⟩
theorem flat_bare {K : YK} {w : YW} {s : List Nat} {o : Nat} (hf : flatB o = true) (hfm : famN o ≠ 0) (ho : o < 256) : bareN K w s o = sgN o ∧ reachN s o = 0 := by
  have hc : o ∈ [0, 1, 2, 3, 4, 5, 6, 7, 8, 9, 11, 16, 17, 18, 19, 20, 21, 22, 23, 24, 25, 26, 27, 28, 29, 88, 89, 90, 91, 95, 96, 97, 98, 99, 100, 101, 102, 103, 104, 105, 106, 107, 108, 109, 110, 111, 112, 113, 114, 115, 116, 117, 118, 119, 120, 121, 122, 123, 124, 125, 126, 127, 128, 129, 130, 131, 132, 133, 134, 135, 136, 137, 138, 139, 140, 141, 142, 143, 144, 145, 146, 147, 148, 149, 150, 151, 152, 153, 154, 155, 156, 157, 158, 159] := (by decide +kernel : ∀ o, o < 256 → flatB o = false ∨ famN o = 0 ∨ o ∈ [0, 1, 2, 3, 4, 5, 6, 7, 8, 9, 11, 16, 17, 18, 19, 20, 21, 22, 23, 24, 25, 26, 27, 28, 29, 88, 89, 90, 91, 95, 96, 97, 98, 99, 100, 101, 102, 103, 104, 105, 106, 107, 108, 109, 110, 111, 112, 113, 114, 115, 116, 117, 118, 119, 120, 121, 122, 123, 124, 125, 126, 127, 128, 129, 130, 131, 132, 133, 134, 135, 136, 137, 138, 139, 140, 141, 142, 143, 144, 145, 146, 147, 148, 149, 150, 151, 152, 153, 154, 155, 156, 157, 158, 159]) o ho |>.resolve_left (by rw [hf]; decide) |>.resolve_left hfm
  simp only [List.mem_cons, List.not_mem_nil, or_false] at hc
  rcases hc with rfl | rfl | rfl | rfl | rfl | rfl | rfl | rfl | rfl | rfl | rfl | rfl | rfl | rfl | rfl | rfl | rfl | rfl | rfl | rfl | rfl | rfl | rfl | rfl | rfl | rfl | rfl | rfl | rfl | rfl | rfl | rfl | rfl | rfl | rfl | rfl | rfl | rfl | rfl | rfl | rfl | rfl | rfl | rfl | rfl | rfl | rfl | rfl | rfl | rfl | rfl | rfl | rfl | rfl | rfl | rfl | rfl | rfl | rfl | rfl | rfl | rfl | rfl | rfl | rfl | rfl | rfl | rfl | rfl | rfl | rfl | rfl | rfl | rfl | rfl | rfl | rfl | rfl | rfl | rfl | rfl | rfl | rfl | rfl | rfl | rfl | rfl | rfl | rfl | rfl | rfl | rfl | rfl | rfl <;> exact ⟨rfl, rfl⟩
set_option synthInstance.maxHeartbeats 1000000 in
set_option synthInstance.maxSize 100000 in
/-- mach.Machine.Pass -/
theorem mPass {I : Ent → Prop} {cb sz : Nat} {T : TypeId} {c : Nat → Value} {K : YK} {V : Vl} {w : YW} {pc gas o : Nat} {s mem : List Nat} {M G : List Ent} (h : EI I cb sz c K V pc gas s mem M G) (ho : o < 256) (hf0 : famN o ≠ 0) (hf16 : famN o ≠ 16) (hR : RW K V w) (hst : K.st = []) (hcd : K.code.length ≤ 512) (h0 : V.ix K.self = 0) (h1 : 0 < V.ac.length) (hmem : gas + memC (mem.length / 32) ≤ 1048576) : PsQ I cb sz T c K V w pc gas o s mem M G := by
  have hc : famN o = 0 ∨ famN o = 16 ∨ flatB o = true ∨ o ∈ [48, 50, 51, 52, 53, 54, 56, 58, 61, 64, 65, 66, 67, 68, 69, 70, 71, 72, 80, 92, 93] ∨ o ∈ [32] ∨ o ∈ [160, 161, 162, 163, 164] ∨ o ∈ [243, 253] ∨ o ∈ [55, 57] ∨ o ∈ [94] ∨ o ∈ [81, 82] ∨ o ∈ [83] ∨ o ∈ [49, 59, 63] ∨ o ∈ [60] ∨ o ∈ [10] ∨ o ∈ [84] ∨ o = 62 ∨ o = 85 ∨ o = 86 ∨ o = 87 := (by decide +kernel : ∀ o, o < 256 → famN o = 0 ∨ famN o = 16 ∨ flatB o = true ∨ o ∈ [48, 50, 51, 52, 53, 54, 56, 58, 61, 64, 65, 66, 67, 68, 69, 70, 71, 72, 80, 92, 93] ∨ o ∈ [32] ∨ o ∈ [160, 161, 162, 163, 164] ∨ o ∈ [243, 253] ∨ o ∈ [55, 57] ∨ o ∈ [94] ∨ o ∈ [81, 82] ∨ o ∈ [83] ∨ o ∈ [49, 59, 63] ∨ o ∈ [60] ∨ o ∈ [10] ∨ o ∈ [84] ∨ o = 62 ∨ o = 85 ∨ o = 86 ∨ o = 87) o ho
  rcases hc with hc | hc | hc | hc | hc | hc | hc | hc | hc | hc | hc | hc | hc | hc | hc | hc | hc | hc | hc
  · exact absurd hc hf0
  · exact absurd hc hf16
  · have hb := flat_bare (K := K) (w := w) (s := s) hc hf0 ho
    refine (psFlat h ho hc hb.1 hb.2).toQ ?_
    refine ⟨?_, ?_, ?_, ?_⟩ <;> (rintro rfl; revert hc; decide)
  · exact (psZ h hc hmem).toQ ((by decide : ∀ o ∈ [48, 50, 51, 52, 53, 54, 56, 58, 61, 64, 65, 66, 67, 68, 69, 70, 71, 72, 80, 92, 93], o ≠ 62 ∧ o ≠ 85 ∧ o ≠ 86 ∧ o ≠ 87) o hc)
  · exact (psKec h hc hmem).toQ ((by decide : ∀ o ∈ [32], o ≠ 62 ∧ o ≠ 85 ∧ o ≠ 86 ∧ o ≠ 87) o hc)
  · exact (psLog h hc hmem).toQ ((by decide : ∀ o ∈ [160, 161, 162, 163, 164], o ≠ 62 ∧ o ≠ 85 ∧ o ≠ 86 ∧ o ≠ 87) o hc)
  · exact (psRet h hc hmem).toQ ((by decide : ∀ o ∈ [243, 253], o ≠ 62 ∧ o ≠ 85 ∧ o ≠ 86 ∧ o ≠ 87) o hc)
  · exact (psCpy h hc hmem).toQ ((by decide : ∀ o ∈ [55, 57], o ≠ 62 ∧ o ≠ 85 ∧ o ≠ 86 ∧ o ≠ 87) o hc)
  · exact (psMcp h hc hmem).toQ ((by decide : ∀ o ∈ [94], o ≠ 62 ∧ o ≠ 85 ∧ o ≠ 86 ∧ o ≠ 87) o hc)
  · exact (psMem h hc hmem).toQ ((by decide : ∀ o ∈ [81, 82], o ≠ 62 ∧ o ≠ 85 ∧ o ≠ 86 ∧ o ≠ 87) o hc)
  · exact (psMs8 h hc hmem).toQ ((by decide : ∀ o ∈ [83], o ≠ 62 ∧ o ≠ 85 ∧ o ≠ 86 ∧ o ≠ 87) o hc)
  · exact (psAcc h hc hmem hR).toQ ((by decide : ∀ o ∈ [49, 59, 63], o ≠ 62 ∧ o ≠ 85 ∧ o ≠ 86 ∧ o ≠ 87) o hc)
  · exact (psExt h hc hmem hR).toQ ((by decide : ∀ o ∈ [60], o ≠ 62 ∧ o ≠ 85 ∧ o ≠ 86 ∧ o ≠ 87) o hc)
  · exact (psExp h hc hmem).toQ ((by decide : ∀ o ∈ [10], o ≠ 62 ∧ o ≠ 85 ∧ o ≠ 86 ∧ o ≠ 87) o hc)
  · exact (psLd h hc hmem hR h0 h1).toQ ((by decide : ∀ o ∈ [84], o ≠ 62 ∧ o ≠ 85 ∧ o ≠ 86 ∧ o ≠ 87) o hc)
  · exact ps62 h hc hmem
  · exact ps85 h hc hR hst h0 h1 hmem
  · exact psJ86 h hc hcd hmem
  · exact psJ87 h hc hcd hmem
theorem ar_kn : ∀ o, o < 256 → ((arN o).2.2 = true ↔ famN o ≠ 0) := by
  have : ∀ o, o < 256 → ((arN o).2.2 = true ∧ famN o ≠ 0) ∨ ((arN o).2.2 = false ∧ famN o = 0) := by decide +kernel
  intro o ho
  rcases this o ho with ⟨h1, h2⟩ | ⟨h1, h2⟩
  · simp [h1, h2]
  · simp [h1, h2]
theorem ar_lt : ∀ o, o < 256 → (arN o).1 < 256 ∧ (arN o).2.1 < 256 := by decide +kernel
/-- mach.Machine.Admit -/
theorem mAdm {I : Ent → Prop} {cb sz : Nat} {T : TypeId} {c : Nat → Value} {K : YK} {V : Vl} {w : YW} {pc gas o : Nat} {s mem : List Nat} {M G : List Ent} (h : EI I cb sz c K V pc gas s mem M G) (ho : o < 256) (hf16 : famN o ≠ 16 ∨ s.length < (arN o).1) (hR : RW K V w) (hst : K.st = []) (hcd : K.code.length ≤ 512) (h0 : V.ix K.self = 0) (h1 : 0 < V.ac.length) (hmem : gas + memC (mem.length / 32) ≤ 1048576) :
    (refN K w s gas mem.length o ≠ 0 → CallG Hvaf.prog 120 #[ptr cb 0, .int .u8 (o : Nat), .int .u8 ((arN o).1 : Nat), .int .u8 ((arN o).2.1 : Nat), .int .u16 (sgN o : Nat), .bool (arN o).2.2] ⟨I, ⟨cb, sz, T, c⟩ :: (M ++ G)⟩ (FailP I M cb sz T c V (refN K w s gas mem.length o))) ∧ (refN K w s gas mem.length o = 0 → CallG Hvaf.prog 120 #[ptr cb 0, .int .u8 (o : Nat), .int .u8 ((arN o).1 : Nat), .int .u8 ((arN o).2.1 : Nat), .int .u16 (sgN o : Nat), .bool (arN o).2.2] ⟨I, ⟨cb, sz, T, c⟩ :: (M ++ G)⟩ (PassP I G cb sz T c pc (gas - costN K w s mem.length o) s (growL mem ((reachN s o + 31) / 32)))) := by
  have hsz' : 2435 ≤ sz := by have := h.eS; omega
  have hlt := ar_lt o ho
  by_cases hf0 : famN o = 0
  · have hk : (arN o).2.2 = false := by
      cases hq : (arN o).2.2 with
      | false => rfl
      | true => exact absurd hf0 ((ar_kn o ho).1 hq)
    have hr : refN K w s gas mem.length o = 5 := by unfold refN; rw [if_pos hf0]
    rw [hr, hk]
    exact ⟨fun _ => mAdU hsz' h.eK h.eM (h.fail (by decide) (by decide)), fun hc => absurd hc (by decide)⟩
  · have hk : (arN o).2.2 = true := (ar_kn o ho).2 hf0
    rw [hk]
    by_cases hs1 : s.length < (arN o).1
    · have hr : refN K w s gas mem.length o = 3 := by unfold refN; rw [if_neg hf0, if_pos hs1]
      rw [hr]
      exact ⟨fun _ => mAdS hsz' h.eK h.eM hs1 hlt.1 (h.fail (by decide) (by decide)), fun hc => absurd hc (by decide)⟩
    · by_cases hs2 : 64 < s.length - (arN o).1 + (arN o).2.1
      · have hr : refN K w s gas mem.length o = 4 := by unfold refN; rw [if_neg hf0, if_neg hs1, if_pos hs2]
        rw [hr]
        exact ⟨fun _ => mAdO hsz' h.eK h.eM (by omega) hs2 hlt.2 (h.fail (by decide) (by decide)), fun hc => absurd hc (by decide)⟩
      · rw [refN_P hf0 (by omega) (by omega)]
        obtain ⟨p1, p2⟩ := mPass (T := T) h ho hf0 (hf16.resolve_right hs1) hR hst hcd h0 h1 hmem
        exact ⟨fun hc => mAdP hsz' h.eK h.eM (by omega) (by omega) hlt.2 (p1 hc), fun hc => mAdP hsz' h.eK h.eM (by omega) (by omega) hlt.2 (p2 hc)⟩
end Go.Proofs.YgvafwGreat
