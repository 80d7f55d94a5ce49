import Derived.Test.YgvafwGreatE55
set_option exponentiation.threshold 1000
set_option maxRecDepth 100000
set_option maxHeartbeats 4000000
set_option linter.unusedVariables false
set_option linter.unusedSimpArgs false
-- v2
-- v4
-- v5
-- v6
-- v7
namespace Go.Proofs.YgvafwGreat
open Go.HL Go.Proofs
/-- The growth is paid for. -/
structure Bd (da ds dt dj dl dr cost : Nat) : Prop where
  a : 2600 * da ≤ cost
  s : 2100 * ds ≤ cost
  t : 100 * dt ≤ cost
  j : 33 * dj ≤ cost
  l : 375 * dl ≤ cost
  r : dr ≤ 199 * cost
theorem Bd.zero (cost : Nat) : Bd 0 0 0 0 0 0 cost := ⟨by omega, by omega, by omega, by omega, by omega, by omega⟩
/-- What holds of the frame all along. -/
structure KC (K : YK) : Prop where
  code : K.code.length ≤ 512
  st : K.st = []
  caller : K.caller = adNo 240
theorem l64 {n : Nat} (h : n - 0 + 1 ≤ 64) : n < 64 := by omega
theorem bare_ge {K : YK} {w : YW} {s : List Nat} {m o : Nat} : bareN K w s o ≤ costN K w s m o := by unfold costN; split <;> omega
theorem sst_ge (o v n : Nat) (cold : Bool) : 100 ≤ (sstN o v n cold).1 := by
  unfold sstN; dsimp only; repeat' split
  all_goals omega
theorem sst_cold (o v n : Nat) : 2200 ≤ (sstN o v n true).1 := by
  unfold sstN; dsimp only; repeat' split
  all_goals (first | omega | (rename_i hc; exact absurd rfl hc))
theorem accN_ge (w : YW) (a : Nat) : 100 ≤ accN w a := by unfold accN; split <;> omega
theorem ite_ge {c : Prop} [Decidable c] {a b : Nat} (h1 : c → 1 ≤ a) (h2 : ¬ c → 1 ≤ b) : 1 ≤ if c then a else b := by
  by_cases h : c
  · rw [if_pos h]; exact h1 h
  · rw [if_neg h]; exact h2 h
theorem bare_pos {K : YK} {w : YW} {s : List Nat} {o : Nat} (h0 : o ≠ 0) (h1 : o ≠ 243) (h2 : o ≠ 253) : 1 ≤ bareN K w s o := by
  have ha := accN_ge w (argN s 0)
  have hs : 100 ≤ (sstoreN K w s).1 := sst_ge _ _ _ _
  unfold bareN
  have hl : 1 ≤ (if (findT K.self (argN s 0) w.ms).isSome = true then 100 else 2100) := by split <;> omega
  generalize (if (findT K.self (argN s 0) w.ms).isSome = true then 100 else 2100) = q at *
  repeat (first | refine ite_ge (fun h => by omega) (fun h => ?_) | omega)
theorem acB {w : YW} {a cost : Nat} (h : accN w a ≤ cost) : Bd (if adN a ∈ w.wa then 0 else 1) 0 0 (if adN a ∈ w.wa then 0 else 1) 0 0 cost := by
  unfold accN at h
  by_cases hm : adN a ∈ w.wa
  · rw [if_pos hm]; exact Bd.zero _
  · rw [if_neg hm] at h ⊢; exact ⟨by omega, by omega, by omega, by omega, by omega, by omega⟩
theorem ldB {K : YK} {w : YW} {s : List Nat} {cost : Nat} (h : bareN K w s 84 ≤ cost) : Bd 0 (DS K w s) 0 (DS K w s) 0 0 cost := by
  have h : (if (findT K.self (argN s 0) w.ms).isSome then 100 else 2100) ≤ cost := h
  unfold DS
  by_cases hm : (findT K.self (argN s 0) w.ms).isSome = true
  · rw [if_pos hm]; exact Bd.zero _
  · rw [if_neg hm] at h ⊢; exact ⟨by omega, by omega, by omega, by omega, by omega, by omega⟩
theorem ssB {K : YK} {V : Vl} {w : YW} {s : List Nat} {cost : Nat} (hR : RJ K V w) (hst : K.st = []) (h : bareN K w s 85 ≤ cost) : Bd 0 (DS K w s) 0 3 0 (sstoreN K w s).2.1 cost := by
  have h : (sstoreN K w s).1 ≤ cost := h
  have hs := hR.rel.swm (argN s 0)
  rw [sst_3 hR.rel hst] at h ⊢
  have hge := sst_ge 0 (V.slt (argN s 0)).val (argN s 1) (!(V.slt (argN s 0)).warm)
  have hp : (sstN 0 (V.slt (argN s 0)).val (argN s 1) (!(V.slt (argN s 0)).warm)).2.1 ≤ 19900 := by
    rcases sst_snd (v := (V.slt (argN s 0)).val) (n := argN s 1) (cold := !(V.slt (argN s 0)).warm) with hp | ⟨_, hp⟩ <;> rw [hp] <;> decide
  unfold DS
  rw [← hs]
  cases hw : (V.slt (argN s 0)).warm with
  | true => rw [hw] at h hge hp; rw [if_pos rfl]; exact ⟨by omega, by omega, by omega, by omega, by omega, by omega⟩
  | false =>
    rw [hw] at h hge hp
    have hc := sst_cold 0 (V.slt (argN s 0)).val (argN s 1)
    have hc' : 2200 ≤ cost := Nat.le_trans hc h
    rw [if_neg (by decide)]; exact ⟨by omega, by omega, by omega, by omega, by omega, by omega⟩
set_option synthInstance.maxHeartbeats 1000000 in
set_option synthInstance.maxSize 100000 in
/-- Every instruction that lets the frame run on. -/
theorem exAll {I : Ent → Prop} {cb sz : Nat} {T : TypeId} {c : Nat → Value} {K : YK} {V : Vl} {w : YW} {pc gas o : Nat} {s mem : List Nat} {M G : List Ent} (h : EI I cb sz c K V pc gas s mem M G) (hR : RJ K V w) (hC : KC K) (ho : K.code.getD pc 0 = o) (ho2 : o < 256) (hf0 : famN o ≠ 0) (hf16 : famN o ≠ 16) (hx0 : o ≠ 0) (hx1 : o ≠ 243) (hx2 : o ≠ 253) (hs1 : (arN o).1 ≤ s.length) (hs2 : s.length - (arN o).1 + (arN o).2.1 ≤ 64) (hin : reachN s o ≤ mem.length) (hml : mem.length ≤ 717280) (h62 : o = 62 → argN s 1 + argN s 2 = 0) (h86 : o = 86 → destN K.code (argN s 0) = true) (h87 : o = 87 → argN s 1 ≠ 0 → destN K.code (argN s 0) = true) (ra : V.ac.length < 1990) (rs : V.sl.length < 1980) (rt : V.tp.length < 11990) (rj : V.jr.length < 59980) (rl : V.lg.length < 2798) (rr : V.rf ≤ 209600000) (cost : Nat) (hco : bareN K w s o ≤ cost) :
    ∃ da ds dt dj dl dr, Bd da ds dt dj dl dr cost ∧ CallG Hvaf.prog 121 #[ptr cb 0, .int .u8 (o : Nat)] ⟨I, ⟨cb, sz, T, c⟩ :: (M ++ G)⟩ fun _ S' => ∃ r, OpP cb sz T c K V da ds dt dj dl dr (plainN kecN K ⟨pc, gas, s, mem, w⟩ o) r S' := by
  have hpl : pc < K.code.length := by
    rcases Nat.lt_or_ge pc K.code.length with hc | hc
    · exact hc
    · rw [List.getD_eq_getElem?_getD, List.getElem?_eq_none hc] at ho; exact absurd ho.symm hx0
  have hcd := hC.code
  have hp1 : pc + 1 < 60000 := by omega
  have hpb : pc + 33 < 60000 := by omega
  have hjm : destN K.code (argN s 0) = true → argN s 0 < 512 := fun hd => by
    rcases Nat.lt_or_ge (argN s 0) K.code.length with hc | hc
    · omega
    · rw [dest_lt hc] at hd; exact absurd hd (by decide)
  have hc : famN o = 0 ∨ famN o = 16 ∨ o = 0 ∨ o = 243 ∨ o = 253 ∨ o ∈ [1, 2, 3, 4, 5, 6, 7, 8, 9, 10, 11, 16, 17, 18, 19, 20, 21, 22, 23, 24, 25, 26, 27, 28, 29, 32, 48, 49, 50, 51, 52, 53, 54, 55, 56, 57, 58, 59, 60, 61, 62, 63, 64, 65, 66, 67, 68, 69, 70, 71, 72, 80, 81, 82, 83, 84, 85, 86, 88, 89, 90, 91, 92, 93, 94, 87] ∨ (95 ≤ o ∧ o ≤ 127) ∨ (128 ≤ o ∧ o ≤ 143) ∨ (144 ≤ o ∧ o ≤ 159) ∨ (160 ≤ o ∧ o ≤ 164) := (by decide +kernel : ∀ o, o < 256 → famN o = 0 ∨ famN o = 16 ∨ o = 0 ∨ o = 243 ∨ o = 253 ∨ o ∈ [1, 2, 3, 4, 5, 6, 7, 8, 9, 10, 11, 16, 17, 18, 19, 20, 21, 22, 23, 24, 25, 26, 27, 28, 29, 32, 48, 49, 50, 51, 52, 53, 54, 55, 56, 57, 58, 59, 60, 61, 62, 63, 64, 65, 66, 67, 68, 69, 70, 71, 72, 80, 81, 82, 83, 84, 85, 86, 88, 89, 90, 91, 92, 93, 94, 87] ∨ (95 ≤ o ∧ o ≤ 127) ∨ (128 ≤ o ∧ o ≤ 143) ∨ (144 ≤ o ∧ o ≤ 159) ∨ (160 ≤ o ∧ o ≤ 164)) o ho2
  rcases hc with hc | hc | hc | hc | hc | hc | ⟨h1, h2⟩ | ⟨h1, h2⟩ | ⟨h1, h2⟩ | ⟨h1, h2⟩
  · exact absurd hc hf0
  · exact absurd hc hf16
  · exact absurd hc hx0
  · exact absurd hc hx1
  · exact absurd hc hx2
  · simp only [List.mem_cons, List.not_mem_nil, or_false] at hc
    rcases hc with rfl | rfl | rfl | rfl | rfl | rfl | rfl | rfl | rfl | rfl | rfl | rfl | rfl | rfl | rfl | rfl | rfl | rfl | rfl | rfl | rfl | rfl | rfl | rfl | rfl | rfl | rfl | rfl | rfl | rfl | rfl | rfl | rfl | rfl | rfl | rfl | rfl | rfl | rfl | rfl | rfl | rfl | rfl | rfl | rfl | rfl | rfl | rfl | rfl | rfl | rfl | rfl | rfl | rfl | rfl | rfl | rfl | rfl | rfl | rfl | rfl | rfl | rfl | rfl | rfl | rfl
    · exact ⟨0, 0, 0, 0, 0, 0, Bd.zero _, ex1 h hR hp1 ho hs1⟩
    · exact ⟨0, 0, 0, 0, 0, 0, Bd.zero _, ex2 h hR hp1 ho hs1⟩
    · exact ⟨0, 0, 0, 0, 0, 0, Bd.zero _, ex3 h hR hp1 ho hs1⟩
    · exact ⟨0, 0, 0, 0, 0, 0, Bd.zero _, ex4 h hR hp1 ho hs1⟩
    · exact ⟨0, 0, 0, 0, 0, 0, Bd.zero _, ex5 h hR hp1 ho hs1⟩
    · exact ⟨0, 0, 0, 0, 0, 0, Bd.zero _, ex6 h hR hp1 ho hs1⟩
    · exact ⟨0, 0, 0, 0, 0, 0, Bd.zero _, ex7 h hR hp1 ho hs1⟩
    · exact ⟨0, 0, 0, 0, 0, 0, Bd.zero _, ex8 h hR hp1 ho hs1⟩
    · exact ⟨0, 0, 0, 0, 0, 0, Bd.zero _, ex9 h hR hp1 ho hs1⟩
    · exact ⟨0, 0, 0, 0, 0, 0, Bd.zero _, ex10 h hR hp1 ho hs1⟩
    · exact ⟨0, 0, 0, 0, 0, 0, Bd.zero _, ex11 h hR hp1 ho hs1⟩
    · exact ⟨0, 0, 0, 0, 0, 0, Bd.zero _, ex16 h hR hp1 ho hs1⟩
    · exact ⟨0, 0, 0, 0, 0, 0, Bd.zero _, ex17 h hR hp1 ho hs1⟩
    · exact ⟨0, 0, 0, 0, 0, 0, Bd.zero _, ex18 h hR hp1 ho hs1⟩
    · exact ⟨0, 0, 0, 0, 0, 0, Bd.zero _, ex19 h hR hp1 ho hs1⟩
    · exact ⟨0, 0, 0, 0, 0, 0, Bd.zero _, ex20 h hR hp1 ho hs1⟩
    · exact ⟨0, 0, 0, 0, 0, 0, Bd.zero _, ex21 h hR hp1 ho hs1⟩
    · exact ⟨0, 0, 0, 0, 0, 0, Bd.zero _, ex22 h hR hp1 ho hs1⟩
    · exact ⟨0, 0, 0, 0, 0, 0, Bd.zero _, ex23 h hR hp1 ho hs1⟩
    · exact ⟨0, 0, 0, 0, 0, 0, Bd.zero _, ex24 h hR hp1 ho hs1⟩
    · exact ⟨0, 0, 0, 0, 0, 0, Bd.zero _, ex25 h hR hp1 ho hs1⟩
    · exact ⟨0, 0, 0, 0, 0, 0, Bd.zero _, ex26 h hR hp1 ho hs1⟩
    · exact ⟨0, 0, 0, 0, 0, 0, Bd.zero _, ex27 h hR hp1 ho hs1⟩
    · exact ⟨0, 0, 0, 0, 0, 0, Bd.zero _, ex28 h hR hp1 ho hs1⟩
    · exact ⟨0, 0, 0, 0, 0, 0, Bd.zero _, ex29 h hR hp1 ho hs1⟩
    · exact ⟨0, 0, 0, 0, 0, 0, Bd.zero _, ex32 h hR hp1 hs1 hin⟩
    · exact ⟨0, 0, 0, 0, 0, 0, Bd.zero _, ex48 h hR hp1 ho (l64 hs2)⟩
    · exact ⟨_, 0, 0, _, 0, 0, acB (w := w) (a := argN s 0) (Nat.le_trans (Nat.le_refl _) hco), ex49 h hR hp1 ho hs1 ra (by omega)⟩
    · exact ⟨0, 0, 0, 0, 0, 0, Bd.zero _, ex50 h hR hp1 ho (l64 hs2) hC.caller⟩
    · exact ⟨0, 0, 0, 0, 0, 0, Bd.zero _, ex51 h hR hp1 ho (l64 hs2)⟩
    · exact ⟨0, 0, 0, 0, 0, 0, Bd.zero _, ex52 h hR hp1 ho (l64 hs2)⟩
    · exact ⟨0, 0, 0, 0, 0, 0, Bd.zero _, ex53 h hR hp1 ho hs1⟩
    · exact ⟨0, 0, 0, 0, 0, 0, Bd.zero _, ex54 h hR hp1 ho (l64 hs2)⟩
    · exact ⟨0, 0, 0, 0, 0, 0, Bd.zero _, ex55 h hR hp1 ho hs1 hin⟩
    · exact ⟨0, 0, 0, 0, 0, 0, Bd.zero _, ex56 h hR hp1 ho (l64 hs2)⟩
    · exact ⟨0, 0, 0, 0, 0, 0, Bd.zero _, ex57 h hR hp1 ho hs1 hin⟩
    · exact ⟨0, 0, 0, 0, 0, 0, Bd.zero _, ex58 h hR hp1 ho (l64 hs2)⟩
    · exact ⟨_, 0, 0, _, 0, 0, acB (w := w) (a := argN s 0) (Nat.le_trans (Nat.le_refl _) hco), ex59 h hR hp1 ho hs1 ra (by omega)⟩
    · exact ⟨_, 0, 0, _, 0, 0, acB (w := w) (a := argN s 0) (Nat.le_trans (Nat.le_add_right _ _) hco), ex60 h hR hp1 ho hs1 ra (by omega) hin⟩
    · exact ⟨0, 0, 0, 0, 0, 0, Bd.zero _, ex61 h hR hp1 ho (l64 hs2)⟩
    · exact ⟨0, 0, 0, 0, 0, 0, Bd.zero _, ex62 h hR hp1 ho hs1 (by have := h62 rfl; omega)⟩
    · exact ⟨_, 0, 0, _, 0, 0, acB (w := w) (a := argN s 0) (Nat.le_trans (Nat.le_refl _) hco), ex63 h hR hp1 ho hs1 ra (by omega)⟩
    · exact ⟨0, 0, 0, 0, 0, 0, Bd.zero _, ex64 h hR hp1 ho hs1⟩
    · exact ⟨0, 0, 0, 0, 0, 0, Bd.zero _, ex65 h hR hp1 ho (l64 hs2)⟩
    · exact ⟨0, 0, 0, 0, 0, 0, Bd.zero _, ex66 h hR hp1 ho (l64 hs2)⟩
    · exact ⟨0, 0, 0, 0, 0, 0, Bd.zero _, ex67 h hR hp1 ho (l64 hs2)⟩
    · exact ⟨0, 0, 0, 0, 0, 0, Bd.zero _, ex68 h hR hp1 ho (l64 hs2)⟩
    · exact ⟨0, 0, 0, 0, 0, 0, Bd.zero _, ex69 h hR hp1 ho (l64 hs2)⟩
    · exact ⟨0, 0, 0, 0, 0, 0, Bd.zero _, ex70 h hR hp1 ho (l64 hs2)⟩
    · exact ⟨0, 0, 0, 0, 0, 0, Bd.zero _, ex71 h hR hp1 ho (l64 hs2)⟩
    · exact ⟨0, 0, 0, 0, 0, 0, Bd.zero _, ex72 h hR hp1 ho (l64 hs2)⟩
    · exact ⟨0, 0, 0, 0, 0, 0, Bd.zero _, ex80 h hR hp1 ho hs1⟩
    · exact ⟨0, 0, 0, 0, 0, 0, Bd.zero _, ex81 h hR hp1 ho hs1 hin⟩
    · exact ⟨0, 0, 0, 0, 0, 0, Bd.zero _, ex82 h hR hp1 ho hs1 hin⟩
    · exact ⟨0, 0, 0, 0, 0, 0, Bd.zero _, ex83 h hR hp1 ho hs1 hin⟩
    · exact ⟨0, _, 0, _, 0, 0, ldB hco, ex84 h hR hp1 ho hs1 (by omega) (by omega)⟩
    · exact ⟨0, _, 0, 3, 0, _, ssB hR hC.st hco, ex85 h hR hp1 hC.st ho hs1 rs rj rr⟩
    · exact ⟨0, 0, 0, 0, 0, 0, Bd.zero _, ex86 h hR hp1 ho hs1 (hjm (h86 rfl))⟩
    · exact ⟨0, 0, 0, 0, 0, 0, Bd.zero _, ex88 h hR hp1 ho (l64 hs2)⟩
    · exact ⟨0, 0, 0, 0, 0, 0, Bd.zero _, ex89 h hR hp1 ho (l64 hs2)⟩
    · exact ⟨0, 0, 0, 0, 0, 0, Bd.zero _, ex90 h hR hp1 ho (l64 hs2)⟩
    · exact ⟨0, 0, 0, 0, 0, 0, Bd.zero _, ex91 h hR hp1 ho⟩
    · exact ⟨0, 0, 0, 0, 0, 0, Bd.zero _, ex92 h hR hp1 ho hs1⟩
    · exact ⟨0, 0, 1, 1, 0, 0, ⟨by omega, by omega, (show 100 * 1 ≤ cost from hco), (by have : 100 ≤ cost := hco; omega), by omega, by omega⟩, ex93 h hR hp1 ho hs1 rt (by omega)⟩
    · exact ⟨0, 0, 0, 0, 0, 0, Bd.zero _, ex94 h hR hp1 ho hs1 hin⟩
    · by_cases hz : argN s 1 = 0
      · exact ⟨0, 0, 0, 0, 0, 0, Bd.zero _, ex87z h hR hp1 ho hs1 hz⟩
      · exact ⟨0, 0, 0, 0, 0, 0, Bd.zero _, ex87 h hR hp1 ho hs1 hz (hjm (h87 rfl hz))⟩
  · have har : arN o = (0, 1, true) := (by decide +kernel : ∀ o, o < 256 → o < 95 ∨ 127 < o ∨ arN o = (0, 1, true)) o ho2 |>.resolve_left (by omega) |>.resolve_left (by omega)
    rw [har] at hs2
    exact ⟨0, 0, 0, 0, 0, 0, Bd.zero _, exPush h hR hp1 hpb ho h1 h2 (l64 hs2)⟩
  · have har : (arN o).1 = o - 127 ∧ (arN o).2.1 = o - 126 := (by decide +kernel : ∀ o, o < 256 → o < 128 ∨ 143 < o ∨ ((arN o).1 = o - 127 ∧ (arN o).2.1 = o - 126)) o ho2 |>.resolve_left (by omega) |>.resolve_left (by omega)
    rw [har.1, har.2] at hs2
    rw [har.1] at hs1
    exact ⟨0, 0, 0, 0, 0, 0, Bd.zero _, exDup h hR hp1 ho h1 h2 (by omega)⟩
  · have har : (arN o).1 = o - 142 := (by decide +kernel : ∀ o, o < 256 → o < 144 ∨ 159 < o ∨ (arN o).1 = o - 142) o ho2 |>.resolve_left (by omega) |>.resolve_left (by omega)
    rw [har] at hs1
    exact ⟨0, 0, 0, 0, 0, 0, Bd.zero _, exSwap h hR hp1 ho h1 h2 (by omega)⟩
  · have har : (arN o).1 = o - 158 := (by decide +kernel : ∀ o, o < 256 → o < 160 ∨ 164 < o ∨ (arN o).1 = o - 158) o ho2 |>.resolve_left (by omega) |>.resolve_left (by omega)
    rw [har] at hs1
    have hb : 375 ≤ bareN K w s o := by
      unfold bareN
      repeat (first | rw [if_pos (by omega)] | rw [if_neg (by omega)])
      omega
    exact ⟨0, 0, 0, 1, 1, 0, ⟨by omega, by omega, by omega, by omega, by omega, by omega⟩, exLog h hR hp1 ho h1 h2 hs1 hin (by omega) rl hml⟩
end Go.Proofs.YgvafwGreat
