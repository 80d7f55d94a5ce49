import Derived.Test.YgvafwGreatV27
import Derived.Test.YgvafwGreatL4
import Derived.Test.YgvafwGreatY87
set_option exponentiation.threshold 1000
set_option maxRecDepth 100000
set_option maxHeartbeats 40000000
set_option linter.unusedVariables false
set_option linter.unusedSimpArgs false
-- v2
-- v4
-- v5
-- v6
-- v7
-- still: exact QuV.of (QuG.elS cok hEa (by first | exact hra _ | exact hra2 _) rfl rfl rfl rfl elO hqa (by decide) l0 rfl)
-- still: exact QuV.of (QuG.elF cok hEa (by first | exact hra _ | exact hra2 _) rfl rfl rfl rfl elO hqa (by decide) l20 rfl)
-- still: exact QuV.of (QuG.elS cok hEa (by first | exact hra _ | exact hra2 _) rfl rfl rfl rfl elO hqa (by decide) l21 rfl)
-- still: exact QuV.of (QuG.elF cok hEa (by first | exact hra _ | exact hra2 _) rfl rfl rfl rfl elO hqa (by decide) l25 rfl)
-- still: exact QuV.of (QuG.elF cok hEs (hrs _) rfl rfl rfl rfl elO his (by decide) s0 rfl)
-- still: exact QuV.of (QuG.elS cok hEs (hrs _) rfl rfl rfl rfl elO his (by decide) s1 rfl)
-- still: exact QuV.of (QuG.elS cok hEs (hrs _) rfl rfl rfl rfl elO his (by decide) s5 rfl)
-- still: exact QuV.of (QuG.ldo cok (hrr _ _ _) 0 _ rfl rfl rfl rfl rfl hr0 hc1 rfl)
-- plus: (refine QuG.keep ?_; fail "none")
-- plus: (refine QuG.keep ?_; refine QuG.ld cok (hrc _) rfl rfl rfl rfl (by dsimp only; omega) hav ?_)
-- plus: (refine QuG.keep ?_; refine QuG.elS cok hEa (hra _) rfl rfl rfl rfl elO0 hia (by decide) hea ?_)
namespace Go.Proofs.YgvafwGreat
open Go.HL Go.Proofs

/-- The vault as Export finds it: two accounts that are not empty. -/
structure XV (I : Ent → Prop) (cb sz : Nat) (T : TypeId) (c : Nat → Value) (ac : List VA) (sl : List VSl) (j : Nat) : Prop where
  cbI : I ⟨cb, sz, T, c⟩
  sz : 27019 ≤ sz
  ra : RowI I 29 (c 2435) (ac.map VA.enc)
  rs : RowI I 14 (c 2436) (sl.map VSl.enc)
  cd : ∀ x ∈ ac, Byt ⟨I, []⟩ x.cv x.code
  aok : ∀ x ∈ ac, AdOk x.ad
  anc : ∀ x ∈ ac, x.nonce < 2 ^ 64
  abl : ∀ x ∈ ac, x.bal < 2 ^ 256
  aln : ac.length < 2000
  sln : sl.length < 2000
  sky : ∀ x ∈ sl, x.key < 2 ^ 256 ∧ x.val < 2 ^ 256
  j0 : 0 < j
  jn : j < ac.length
  a0 : (ac.getD 0 dVA).ad = adNo 1
  aj : (ac.getD j dVA).ad = adNo 240
  e0 : emptyV (ac.getD 0 dVA) = false
  ej : emptyV (ac.getD j dVA) = false
  eo : ∀ i, i < ac.length → i ≠ 0 → i ≠ j → emptyV (ac.getD i dVA) = true
/-- The accounts' keys gathered. -/
def kN (j i : Nat) : List SK := (if 0 < i then [⟨0, 1, 0⟩] else []) ++ (if j < i then [⟨0, 240, j⟩] else [])
theorem kN_0 (j : Nat) : kN j 0 = [] := by unfold kN; rw [if_neg (by omega), if_neg (by omega)]; rfl
theorem kN_1 {j : Nat} (h : 0 < j) : kN j 1 = [⟨0, 1, 0⟩] := by unfold kN; rw [if_pos (by omega), if_neg (by omega)]; rfl
theorem kN_j {j : Nat} (h : 0 < j) : kN j (j + 1) = kN j j ++ [⟨0, 240, j⟩] := by unfold kN; rw [if_pos (by omega), if_pos (by omega), if_pos h, if_neg (by omega)]; rfl
theorem kN_o {j i : Nat} (h0 : i ≠ 0) (hj : i ≠ j) : kN j (i + 1) = kN j i := by
  have e0 : (0 < i + 1) = (0 < i) := propext ⟨fun _ => by omega, fun _ => by omega⟩
  have e1 : (j < i + 1) = (j < i) := propext ⟨fun _ => by omega, fun _ => by omega⟩
  unfold kN
  by_cases h : j < i
  · rw [if_pos (by omega), if_pos (by omega), if_pos (by omega), if_pos h]
  · rw [if_pos (by omega), if_neg (by omega), if_pos (by omega), if_neg h]
theorem kN_end {j n : Nat} (h0 : 0 < j) (h : j < n) : kN j n = [⟨0, 1, 0⟩, ⟨0, 240, j⟩] := by unfold kN; rw [if_pos (by omega), if_pos h]; rfl
theorem kN_len (j i : Nat) : (kN j i).length ≤ 2 := by unfold kN; split <;> split <;> exact Nat.le_of_ble_eq_true rfl
theorem bK (w i : Nat) : cellsFrom (fillC z180 [(1, 4, wordV w), (5, 1, .int .i32 (i : Nat))]) 0 6 = (SK.mk 0 w i).enc := rfl
theorem bK1 (w i : Nat) : cellsFrom (fillC z180 [(0, 1, .int .i32 ((1 : Nat) : Int)), (1, 4, .agg (wcs w).toArray), (5, 1, .int .i32 (i : Nat))]) 0 6 = (SK.mk 1 w i).enc := rfl
theorem enc_ad {x : VA} (h : x.ad.length = 20) : (x.enc.drop 0).take 20 = bvs x.ad := by
  have hb : (bvs x.ad).length = 20 := by rw [bvs_len']; exact h
  unfold VA.enc
  rw [List.drop_zero, ← hb, List.take_left]
theorem build_ac {ad bs : List Nat} {z : Nat → Value} {n cn cc : Nat} {ca : Option Addr} (ha : (bvs ad).length = 20) (hb : (bvs bs).length = 32) (hz : z 54 = .slice none 0 0) : cellsFrom (fillC z [(0, 20, bytesV ad), (20, 1, .int .u64 (n : Nat)), (21, 32, bytesV bs), (53, 1, .slice ca cn cc)]) 0 55 = bvs ad ++ (.int .u64 (n : Nat) :: (bvs bs ++ [.slice ca cn cc, .slice none 0 0])) := by
  have e : fillC z [(0, 20, bytesV ad), (20, 1, .int .u64 (n : Nat)), (21, 32, bytesV bs), (53, 1, .slice ca cn cc)] = HL.updN (HL.updN (HL.updN (HL.updN z 0 (bvs ad)) 20 [.int .u64 (n : Nat)]) 21 (bvs bs)) 53 [.slice ca cn cc] := rfl
  rw [e]
  apply List.ext_getElem?
  intro i
  by_cases hi : i < 55
  · rw [cellsFrom_get _ _ _ _ hi, Nat.zero_add]
    simp only [HL.updN, ha, hb, List.length_singleton]
    by_cases h1 : i < 20
    · rw [if_neg (by omega), if_neg (by omega), if_neg (by omega), if_pos (by omega), List.getElem?_append_left (by omega), Nat.sub_zero, List.getD_eq_getElem?_getD, List.getElem?_eq_getElem (by omega)]; rfl
    · rw [List.getElem?_append_right (by omega), ha]
      by_cases h2 : i = 20
      · subst h2; rfl
      · obtain ⟨k, rfl⟩ : ∃ k, i = 21 + k := ⟨i - 21, by omega⟩
        rw [show 21 + k - 20 = k + 1 by omega, List.getElem?_cons_succ]
        by_cases h3 : k < 32
        · rw [if_neg (by omega), if_pos (by omega), List.getElem?_append_left (by omega), List.getD_eq_getElem?_getD, show 21 + k - 21 = k by omega, List.getElem?_eq_getElem (by omega)]; rfl
        · rw [List.getElem?_append_right (by omega), hb]
          have : k = 32 ∨ k = 33 := by omega
          rcases this with rfl | rfl
          · rfl
          · exact congrArg some hz
  · rw [List.getElem?_eq_none (by simp; omega), List.getElem?_eq_none (by simp only [List.length_append, List.length_cons, ha, hb, List.length_nil]; omega)]
theorem enc_20 {x : VA} (h : x.ad.length = 20) : x.enc.getD 20 undef = .int .u64 (x.nonce : Nat) := VA.enc_get _ h 0
theorem enc_25 {x : VA} (h : x.ad.length = 20) : x.enc.getD 25 undef = x.cv := VA.enc_get _ h 5
theorem enc_21 {x : VA} (h : x.ad.length = 20) : (x.enc.drop 21).take 4 = wcs x.bal := by
  have hb : (bvs x.ad).length = 20 := by rw [bvs_len']; exact h
  unfold VA.enc
  rw [show 21 = (bvs x.ad).length + 1 by omega, ← List.drop_drop, List.drop_left]
  rfl
theorem row_castA {c : Nat → Value} {i : Nat} {m ls : List Value} (h : Row (HL.updN c (i * 55) m) 0 ls) : Row (HL.updN c (addS 0 (mulS i 55)) m) 0 ls := by
  rw [addS_eq, mulS_eq, Nat.zero_add]; exact h
theorem ac_bound {r : Nat} (h : r < 2) : addS 0 (mulS r 55) + 55 ≤ mulS 2 55 := by rw [addS_eq, mulS_eq, mulS_eq]; omega
/-- The slots' keys gathered. -/
def skN (sl : List VSl) : Nat → List SK
  | 0 => []
  | i + 1 => skN sl i ++ (if (sl.getD i dVS).val = 0 then [] else [⟨1, (sl.getD i dVS).key, i⟩])
theorem skN_len (sl : List VSl) : ∀ i, (skN sl i).length ≤ i
  | 0 => Nat.le_refl _
  | i + 1 => by
    have := skN_len sl i
    rw [skN, List.length_append]
    split
    · show _ + 0 ≤ _; omega
    · show _ + 1 ≤ _; omega
/-- An account laid. -/
def AX (J : Ent → Prop) (l : List Value) (y : VA) : Prop := ∃ cv, l = bvs y.ad ++ (.int .u64 (y.nonce : Nat) :: (bvs (be32 y.bal) ++ [cv, .slice none 0 0])) ∧ Byt ⟨J, []⟩ cv y.code
/-- The accounts being laid. -/
def AcP (I : Ent → Prop) (G : List Ent) (sb ssz : Nat) (sc : Nat → Value) (rb wb : Nat) (ac : List VA) (j r : Nat) (S' : St) : Prop :=
  ∃ (J : Ent → Prop) (cr cw : Nat → Value) (ms : List (List Value)), HL.Sub I J ∧ S' = ⟨J, ⟨wb, mulS 2 55, 58, cw⟩ :: ⟨rb, mulS ac.length 1, 21, cr⟩ :: ⟨sb, ssz, 180, sc⟩ :: G⟩ ∧ ms.length = r ∧ (∀ l ∈ ms, l.length = 55) ∧ Row cw 0 ms.flatten ∧ (0 < r → cr 0 = .int .i32 ((1 : Nat) : Int)) ∧ ∀ q, q < r → AX J (ms.getD q []) (ac.getD (if q = 0 then 0 else j) dVA)
/-- The slots in the order of the keys. -/
def kvL (sl : List VSl) (L : List SK) : List (Nat × Nat) := L.map fun k => (k.w, (sl.getD k.at_ dVS).val)
/-- An account as it is given. -/
def oaN (y : VA) (ss : List (Nat × Nat)) : OA := ⟨y.ad, y.nonce, be32 y.bal, y.code, ss.map fun p => (be32 p.1, be32 p.2)⟩
theorem skN_mem {sl : List VSl} {x : SK} : ∀ {i : Nat}, x ∈ skN sl i → x.rk = 1 ∧ x.at_ < i ∧ x.w = (sl.getD x.at_ dVS).key ∧ (sl.getD x.at_ dVS).val ≠ 0
  | 0, h => by cases h
  | i + 1, h => by
    rw [skN] at h
    rcases List.mem_append.1 h with h | h
    · obtain ⟨h1, h2, h3⟩ := skN_mem h
      exact ⟨h1, by omega, h3⟩
    · by_cases hv : (sl.getD i dVS).val = 0
      · rw [if_pos hv] at h; cases h
      · rw [if_neg hv] at h
        cases List.mem_singleton.1 h
        exact ⟨rfl, Nat.lt_succ_self i, rfl, hv⟩
def slV (p : Nat × Nat) : List Value := bvs (be32 p.1) ++ bvs (be32 p.2)
theorem row_castB {c : Nat → Value} {i : Nat} {m ls : List Value} (h : Row (HL.updN c (i * 64) m) 0 ls) : Row (HL.updN c (addS 0 (mulS i 64)) m) 0 ls := by
  rw [addS_eq, mulS_eq, Nat.zero_add]; exact h
theorem sl_bound {r m : Nat} (h : r < m) : addS 0 (mulS r 64) + 64 ≤ mulS m 64 := by rw [addS_eq, mulS_eq, mulS_eq]; omega
theorem build_sl {a b : List Nat} {z : Nat → Value} (ha : (bvs a).length = 32) (hb : (bvs b).length = 32) : cellsFrom (fillC z [(0, 32, bytesV a), (32, 32, bytesV b)]) 0 64 = bvs a ++ bvs b := by
  have e : fillC z [(0, 32, bytesV a), (32, 32, bytesV b)] = HL.updN (HL.updN z 0 (bvs a)) 32 (bvs b) := rfl
  rw [e]
  apply List.ext_getElem?
  intro i
  by_cases hi : i < 64
  · rw [cellsFrom_get _ _ _ _ hi, Nat.zero_add]
    simp only [HL.updN, ha, hb]
    by_cases h1 : i < 32
    · rw [if_neg (by omega), if_pos (by omega), List.getElem?_append_left (by omega), Nat.sub_zero, List.getD_eq_getElem?_getD, List.getElem?_eq_getElem (by omega)]; rfl
    · rw [if_pos (by omega), List.getElem?_append_right (by omega), ha, List.getD_eq_getElem?_getD, List.getElem?_eq_getElem (by omega)]; rfl
  · rw [List.getElem?_eq_none (by simp; omega), List.getElem?_eq_none (by rw [List.length_append, ha, hb]; omega)]
theorem vSortedNil {I : Ent → Prop} {G : List Ent} : CallG Hvaf.prog 85 #[.slice none 0 0] ⟨I, G⟩ fun r S' => ⟨I, G⟩ = S' ∧ r = .slice none 0 0 := by
  refine CallG.start (C := mkC Hvaf.prog) cok (args := [.slice none 0 0]) Hvaf.func85 rfl Hvaf.ntmps85 (by simp) (by kernel_rfl) ?_
  repeat (first | refine SeqS.go cok ?_ | refine And.intro ⟨by omega, by omega⟩ ?_ | (refine NatS.keep ?_; first | with_reducible refine NatS.nat ?_))
  intro tb
  repeat (first | refine SeqS.go cok ?_)
  refine W.rounds cok (by kernel_rfl) 1 ?_
  repeat (first | refine SeqS.go cok ?_ | refine CondS.f rfl ?_)
  exact Fin.drop G [_] ⟨rfl, rfl⟩
theorem exOWI {I J J' : Ent → Prop} {cb sz j wb : Nat} {T : TypeId} {c cw : Nat → Value} {ac : List VA} {sl : List VSl} {ms : List (List Value)} (h : XV I cb sz T c ac sl j) (hml : ms.length = 2) (hml2 : ∀ l ∈ ms, l.length = 55) (hrow : Row cw 0 ms.flatten) (hall : ∀ q, q < 2 → AX J (ms.getD q []) (ac.getD (if q = 0 then 0 else j) dVA)) (h1 : HL.Sub I J') (h2 : HL.Sub J J') (h3 : J' ⟨wb, mulS 2 55, 58, cw⟩) : OWI J' (HL.sl wb 0 2 2) [oaN (ac.getD 0 dVA) (kvL sl []), oaN (ac.getD j dVA) []] := by
  have hjn := h.jn
  have hO : ∀ q, q < 2 → OAC J' (ms.getD q []) (oaN (ac.getD (if q = 0 then 0 else j) dVA) []) := fun q hq => by
    obtain ⟨cv, e1, e2⟩ := hall q hq
    have hy : (if q = 0 then 0 else j) < ac.length := by split <;> omega
    have hm := getD_mem (d := dVA) hy
    exact ⟨h.aok _ hm, rfl, be32_lt2 _, by simp [oaN], by simp [oaN], cv, .slice none 0 0, e1, e2.mono h2 (by simp), RowI.nil _ _⟩
  refine ⟨ms, ⟨hml2, .inr ⟨_, 0, 2, by rw [hml], by rw [hml]; exact Nat.le_refl _, h3, hml2, hrow, by rw [hml]; show 0 + 2 * 55 ≤ mulS 2 55; rw [mulS_eq]; decide⟩⟩, hml, fun q hq => ?_⟩
  have hq : q < 2 := hq
  have : q = 0 ∨ q = 1 := by omega
  rcases this with rfl | rfl
  · exact hO 0 hq
  · exact hO 1 hq
theorem _root_.Go.HL.Fin.pick5 {K : Post} {v : Value} {I : Ent → Prop} {a b c d e : Ent} {G : List Ent} (h : K v ⟨fun x => I x ∨ x ∈ [a, c], G⟩) : Fin K v ⟨I, a :: b :: c :: d :: e :: G⟩ :=
  ⟨[b, d, e], [a, c], G, _, perm_sum fun f => by simp only [sumE, sumE_append]; omega, fun _ => .rfl, h⟩
theorem set54 {ad bs : List Nat} {n : Nat} {cv u v : Value} (ha : (bvs ad).length = 20) (hb : (bvs bs).length = 32) : (bvs ad ++ (.int .u64 (n : Nat) :: (bvs bs ++ [cv, u]))).set 54 v = bvs ad ++ (.int .u64 (n : Nat) :: (bvs bs ++ [cv, v])) := by
  rw [set_app (n := 20) (k := 34) ha, List.set_cons_succ, set_app (n := 32) (k := 1) hb]
  rfl
theorem exOWI2 {I J J' : Ent → Prop} {cb sz j wb lb m : Nat} {T : TypeId} {c cw cl : Nat → Value} {ac : List VA} {sl : List VSl} {L : List SK} {ms : List (List Value)} (h : XV I cb sz T c ac sl j) (hml : ms.length = 2) (hall : ∀ q, q < 2 → AX J (ms.getD q []) (ac.getD (if q = 0 then 0 else j) dVA)) (hE : Els ⟨wb, mulS 2 55, 58, cw⟩ 0 55 (ms.set 0 ((ms.getD 0 []).set 54 (HL.sl lb 0 m m)))) (hrl : Row cl 0 ((kvL sl L).map slV).flatten) (hLm : L.length = m) (hmb : m < 2000) (h1 : HL.Sub I J') (h2 : HL.Sub J J') (h3 : J' ⟨wb, mulS 2 55, 58, cw⟩) (h4 : J' ⟨lb, mulS m 64, 127, cl⟩) : OWI J' (HL.sl wb 0 2 2) [oaN (ac.getD 0 dVA) (kvL sl L), oaN (ac.getD j dVA) []] := by
  have hjn := h.jn
  have hl2 : (ms.set 0 ((ms.getD 0 []).set 54 (HL.sl lb 0 m m))).length = 2 := by rw [List.length_set]; exact hml
  refine ⟨ms.set 0 ((ms.getD 0 []).set 54 (HL.sl lb 0 m m)), ⟨hE.len, .inr ⟨_, 0, 2, by rw [hl2], by rw [hl2]; exact Nat.le_refl _, h3, hE⟩⟩, hl2, fun q hq => ?_⟩
  have hq : q < 2 := hq
  have : q = 0 ∨ q = 1 := by omega
  rcases this with rfl | rfl
  · have e0 : (ms.set 0 ((ms.getD 0 []).set 54 (HL.sl lb 0 m m))).getD 0 [] = (ms.getD 0 []).set 54 (HL.sl lb 0 m m) := getD_set (by omega)
    rw [e0]
    obtain ⟨cv, e1, e2⟩ := hall 0 hq
    rw [if_pos rfl] at e1 e2
    have hm := getD_mem (d := dVA) (show 0 < ac.length by omega)
    have hab := (h.aok _ hm).bv
    show OAC J' _ (oaN (ac.getD 0 dVA) (kvL sl L))
    rw [e1, set54 hab rfl]
    have hsl : (kvL sl L).length = m := by unfold kvL; rw [List.length_map]; exact hLm
    refine ⟨h.aok _ hm, rfl, be32_lt2 _, ?_, ?_, cv, _, rfl, e2.mono h2 (by simp), ?_⟩
    · intro p hp
      obtain ⟨p', _, rfl⟩ := List.mem_map.1 hp
      exact ⟨rfl, rfl, be32_lt2 _, be32_lt2 _⟩
    · show ((kvL sl L).map fun p => (be32 p.1, be32 p.2)).length < 2 ^ 30
      rw [List.length_map, hsl]; omega
    · have e3 : (((kvL sl L).map fun p => (be32 p.1, be32 p.2)).map fun p => bvs p.1 ++ bvs p.2) = (kvL sl L).map slV := by rw [List.map_map]; rfl
      show RowI J' 64 _ (((kvL sl L).map fun p => (be32 p.1, be32 p.2)).map fun p => bvs p.1 ++ bvs p.2)
      rw [e3]
      have hll : ((kvL sl L).map slV).length = m := by rw [List.length_map]; exact hsl
      have hle : ∀ l ∈ (kvL sl L).map slV, l.length = 64 := fun l hl => by
        obtain ⟨p, _, rfl⟩ := List.mem_map.1 hl
        rfl
      exact ⟨hle, .inr ⟨_, 0, m, by rw [hll], by omega, h4, hle, hrl, by rw [hll]; show 0 + m * 64 ≤ mulS m 64; rw [mulS_eq]; omega⟩⟩
  · have e0 : (ms.set 0 ((ms.getD 0 []).set 54 (HL.sl lb 0 m m))).getD 1 [] = ms.getD 1 [] := by
      rw [List.getD_eq_getElem?_getD, List.getElem?_set_ne (by decide), ← List.getD_eq_getElem?_getD]
    rw [e0]
    obtain ⟨cv, e1, e2⟩ := hall 1 hq
    rw [if_neg (by decide)] at e1 e2
    have hm := getD_mem (d := dVA) hjn
    exact ⟨h.aok _ hm, rfl, be32_lt2 _, by simp [oaN], by simp [oaN], cv, .slice none 0 0, e1, e2.mono h2 (by simp), RowI.nil _ _⟩
theorem sort2 {I : Ent → Prop} {G : List Ent} {kb ksz j cap : Nat} {kc : Nat → Value} (hE : Els ⟨kb, ksz, 180, kc⟩ 0 6 ([(⟨0, 1, 0⟩ : SK), ⟨0, 240, j⟩].map SK.enc)) (hc : 2 ≤ cap) :
    CallG Hvaf.prog 85 #[HL.sl kb 0 2 cap] ⟨I, ⟨kb, ksz, 180, kc⟩ :: G⟩ fun r S' => ∃ (b sz : Nat) (c : Nat → Value) (cap' : Nat), r = HL.sl b 0 2 cap' ∧ S' = ⟨I, ⟨b, sz, 180, c⟩ :: G⟩ ∧ 2 ≤ cap' ∧ Els ⟨b, sz, 180, c⟩ 0 6 ([(⟨0, 1, 0⟩ : SK), ⟨0, 240, j⟩].map SK.enc) := by
  refine (vSorted (I := I) (G := G) (rk := 0) hE rfl hc ?_ (.inl rfl) (by show 2 < 2 ^ 20; decide)).mono ?_
  · intro x hx
    simp only [List.mem_cons, List.not_mem_nil, or_false] at hx
    rcases hx with rfl | rfl
    · exact ⟨rfl, by show 1 < 2 ^ 256; decide⟩
    · exact ⟨rfl, by show 240 < 2 ^ 256; decide⟩
  · rintro r S' - ⟨b, sz, c, cap', L, rfl, rfl, h1, h2, h3, h4⟩
    have : L = [⟨0, 1, 0⟩, ⟨0, 240, j⟩] := by
      refine List.Perm.eq_of_pairwise (le := fun a b => leK a b = true) (fun a b ha hb h5 h6 => ?_) h4 ?_ h3
      · have ha := h3.mem_iff.1 ha
        have h5 := of_decide_eq_true h5
        have h6 := of_decide_eq_true h6
        simp only [List.mem_cons, List.not_mem_nil, or_false] at ha hb
        rcases ha with rfl | rfl <;> rcases hb with rfl | rfl
        · rfl
        · dsimp only at h5 h6; omega
        · dsimp only at h5 h6; omega
        · rfl
      · refine List.pairwise_cons.2 ⟨fun x hx => ?_, List.pairwise_singleton _ _⟩
        cases List.mem_singleton.1 hx
        rfl
    subst this
    exact ⟨b, sz, c, cap', rfl, rfl, h1, h2⟩
theorem vExport {I : Ent → Prop} {G : List Ent} {cb sz j : Nat} {T : TypeId} {c : Nat → Value} {ac : List VA} {sl : List VSl} (h : XV I cb sz T c ac sl j) :
    CallG Hvaf.prog 32 #[ptr cb 2435] ⟨I, G⟩ fun r S' => S'.G = G ∧ ∃ L : List SK, L.Perm (skN sl sl.length) ∧ (L.Pairwise fun a b => leK a b = true) ∧ OWI S'.I r [oaN (ac.getD 0 dVA) (kvL sl L), oaN (ac.getD j dVA) []] := by
  have hsz := h.sz
  have hjn := h.jn
  have hj0 := h.j0
  have haln := h.aln
  obtain ⟨x, oa, acap, hav, hacap, hxI, hEa⟩ : ∃ x oa acap, c 2435 = HL.sl x.b oa ac.length acap ∧ ac.length ≤ acap ∧ I x ∧ Els x oa 29 (ac.map VA.enc) := by
    rcases h.ra.2 with ⟨_, h2⟩ | ⟨x, o, cap, h1, h2, h3, h4⟩
    · have := congrArg List.length h2; rw [List.length_map, List.length_nil] at this; omega
    · rw [List.length_map] at h1 h2; exact ⟨x, o, cap, h1, h2, h3, h4⟩
  have hrc : ∀ G, Rd ⟨I, G⟩ ⟨cb, sz, T, c⟩ := fun _ => .inl h.cbI
  have hra : ∀ G, Rd ⟨I, G⟩ x := fun _ => .inl hxI
  have hg : ∀ i, i < ac.length → (ac.map VA.enc).getD i [] = (ac.getD i dVA).enc := fun i hi => getD_map (d := dVA) hi
  have hm : ∀ i, i < ac.length → ac.getD i dVA ∈ ac := fun i hi => getD_mem hi
  refine CallG.start (C := mkC Hvaf.prog) cok (args := [ptr cb 2435]) Hvaf.func32 rfl Hvaf.ntmps32 (by simp) (by kernel_rfl) ?_
  repeat (first | (refine QuG.keep ?_; refine QuG.ld cok (hrc _) rfl rfl rfl rfl (by dsimp only; omega) hav ?_) | refine SeqS.go cok ?_)
  refine W.loopF cok (by kernel_rfl) 0 (fun (i : Nat) e' S' => (∃ M v, S' = ⟨I, G ++ M⟩ ∧ OwnL 180 6 v ((kN j i).map SK.enc) M ∧ i ≤ ac.length ∧ slots [(0, ptr cb 2435), (3, v), (22, .int .i64 (ac.length : Nat)), (23, .int .i64 (i : Nat))] e')) (fun i => ac.length - i) 0
    (Rel.perm (G ++ []) [] (by rw [List.append_nil, List.append_nil]) ⟨[], _, rfl, by rw [kN_0]; exact OwnL.nil _ _, Nat.zero_le _, rfl, rfl, rfl, rfl, trivial⟩) (fun e' S' => ∃ M v, S' = ⟨I, G ++ M⟩ ∧ OwnL 180 6 v ((kN j ac.length).map SK.enc) M ∧ slots [(0, ptr cb 2435), (3, v)] e') ?_ ?_
  · rintro e' S2 - ⟨M, v, rfl, hW, hsl⟩
    rw [kN_end hj0 hjn] at hW
    obtain ⟨kb, kcap, kc, rfl, hkc, rfl, hEk⟩ := own_els hW (Nat.le_of_ble_eq_true rfl)
    replace hkc : 2 ≤ kcap := hkc
    refine SeqS.slots cok _ hsl fun e => ?_
    have hso := fun G => sort2 (I := I) (G := G) hEk hkc
    repeat (first | refine SeqS.go cok ?_ | refine CondS.f rfl ?_)
    refine CallG.perm _ List.perm_append_comm ?_
    refine (hso _).mono ?_
    rintro r _ - ⟨sb, ssz, sc, scap, rfl, rfl, hcap2, hEk2⟩
    repeat (first | (refine QuG.keep ?_; refine QuG.ld cok (hrc _) rfl rfl rfl rfl (by dsimp only; omega) hav ?_) | refine SeqS.go cok ?_ | refine And.intro (by dsimp only; omega) ?_ | (refine NatS.keep ?_; first | with_reducible refine NatS.nat ?_))
    intro rb
    repeat (first | refine SeqS.go cok ?_ | refine And.intro (by dsimp only; omega) ?_ | (refine NatS.keep ?_; first | with_reducible refine NatS.nat ?_))
    intro wb
    repeat (first | refine SeqS.go cok ?_)
    refine W.loopF cok (by kernel_rfl) 2 (fun (r : Nat) e' S' => AcP I G sb ssz sc rb wb ac j r S' ∧ r ≤ 2 ∧ slots [(0, ptr cb 2435), (5, HL.sl rb 0 ac.length ac.length), (6, HL.sl wb 0 2 2), (64, HL.sl sb 0 2 scap), (65, .int .i64 2), (66, .int .i64 (r : Nat))] e') (fun r => 2 - r) 0
      (Rel.same ⟨⟨I, _, _, [], fun _ h => h, rfl, rfl, by simp, ⟨fun i hi => absurd hi (by simp)⟩, fun h => absurd h (by decide), fun q hq => absurd hq (by omega)⟩, Nat.zero_le _, rfl, rfl, rfl, rfl, rfl, rfl, trivial⟩) (fun e' S' => AcP I G sb ssz sc rb wb ac j 2 S' ∧ slots [(0, ptr cb 2435), (5, HL.sl rb 0 ac.length ac.length), (6, HL.sl wb 0 2 2)] e') ?_ ?_
    · rintro e' S2 - ⟨⟨J, cr, cw, ms, hs, rfl, hml, hml2, hrow, hc0, hall⟩, hsl⟩
      refine SeqS.slots cok _ hsl fun e => ?_
      have hrc : ∀ G, Rd ⟨J, G⟩ ⟨cb, sz, T, c⟩ := fun _ => .inl (hs _ h.cbI)
      have hrr : ∀ a b M, Rd ⟨J, a :: ⟨rb, mulS ac.length 1, 21, cr⟩ :: (b :: (G ++ M))⟩ ⟨rb, mulS ac.length 1, 21, cr⟩ := fun a b M => .inr (by simp)
      have hr0 : 0 < mulS ac.length 1 := by rw [mulS_eq]; omega
      have hc1 := hc0 (by decide)
      obtain ⟨sad, scap2, hav2⟩ := h.rs.form
      rw [List.length_map] at hav2
      have hsln := h.sln
      repeat (first | (refine QuG.keep ?_; first | refine QuG.ld cok (hrc _) rfl rfl rfl rfl (by dsimp only; omega) hav2 ?_) | refine SeqS.go cok ?_)
      refine W.loopF cok (by kernel_rfl) 4 (fun (i : Nat) e' S' => ∃ M v, S' = ⟨J, ⟨wb, mulS 2 55, 58, cw⟩ :: ⟨rb, mulS ac.length 1, 21, cr⟩ :: ⟨sb, ssz, 180, sc⟩ :: (G ++ M)⟩ ∧ OwnL 180 6 v ((skN sl i).map SK.enc) M ∧ (skN sl i = [] → v = .slice none 0 0 ∧ M = []) ∧ i ≤ sl.length ∧ slots [(0, ptr cb 2435), (5, HL.sl rb 0 ac.length ac.length), (6, HL.sl wb 0 2 2), (10, v), (112, .int .i64 (sl.length : Nat)), (113, .int .i64 (i : Nat))] e') (fun i => sl.length - i) 0
        (Rel.perm (⟨wb, mulS 2 55, 58, cw⟩ :: ⟨rb, mulS ac.length 1, 21, cr⟩ :: ⟨sb, ssz, 180, sc⟩ :: (G ++ [])) [] (by rw [List.append_nil, List.append_nil]) ⟨[], _, rfl, OwnL.nil _ _, fun _ => ⟨rfl, rfl⟩, Nat.zero_le _, rfl, rfl, rfl, rfl, rfl, rfl, trivial⟩) (fun e' S' => ∃ M v, S' = ⟨J, ⟨wb, mulS 2 55, 58, cw⟩ :: ⟨rb, mulS ac.length 1, 21, cr⟩ :: ⟨sb, ssz, 180, sc⟩ :: (G ++ M)⟩ ∧ OwnL 180 6 v ((skN sl sl.length).map SK.enc) M ∧ (skN sl sl.length = [] → v = .slice none 0 0 ∧ M = []) ∧ slots [(0, ptr cb 2435), (6, HL.sl wb 0 2 2), (10, v)] e') ?_ ?_
      · rintro e' S2 - ⟨M, v, rfl, hW2, hnil, hsl⟩
        by_cases hsk : skN sl sl.length = []
        · obtain ⟨rfl, rfl⟩ := hnil hsk
          refine SeqS.slots cok _ hsl fun e => ?_
          skip
          refine vSortedNil.mono ?_
          rintro r _ - ⟨rfl, rfl⟩
          repeat (first | refine SeqS.go cok ?_)
          refine W.rounds cok (by kernel_rfl) 1 ?_
          repeat (first | refine SeqS.go cok ?_ | refine CondS.f rfl ?_)
          refine Fin.frz1 ⟨List.append_nil G, [], by rw [hsk], .nil, exOWI h hml hml2 hrow hall ?_ ?_ ?_⟩
          · exact fun _ hx => .inl (hs _ hx)
          · exact fun _ hx => .inl hx
          · exact .inr List.mem_cons_self
        · obtain ⟨x2, o2, cap2, hav2, hx2, hEs⟩ : ∃ x2 o2 cap2, c 2436 = HL.sl x2.b o2 sl.length cap2 ∧ I x2 ∧ Els x2 o2 14 (sl.map VSl.enc) := by
            rcases h.rs.2 with ⟨_, h2⟩ | ⟨x2, o2, cap2, g1, g2, g3, g4⟩
            · have := congrArg List.length h2; rw [List.length_map, List.length_nil] at this
              exact absurd (by rw [this]; rfl) hsk
            · rw [List.length_map] at g1; exact ⟨x2, o2, cap2, g1, g3, g4⟩
          have hrs : ∀ G, Rd ⟨J, G⟩ x2 := fun _ => .inl (hs _ hx2)
          obtain ⟨kb2, kcap2, kc2, rfl, hkc2, rfl, hEk3⟩ := own_els hW2 (by rw [List.length_map]; exact List.length_pos_iff.2 hsk)
          rw [List.length_map] at hkc2
          rw [List.length_map] at hsl
          have hso2 := fun G => vSorted (I := J) (G := G) (rk := 1) hEk3 rfl hkc2 (fun x hx => ⟨(skN_mem hx).1, by rw [(skN_mem hx).2.2.1]; exact (h.sky _ (getD_mem (skN_mem hx).2.1)).1⟩) (.inr rfl) (by have := skN_len sl sl.length; omega)
          have hskl := skN_len sl sl.length
          have hskp : 0 < (skN sl sl.length).length := List.length_pos_iff.2 hsk
          obtain ⟨m, hm0⟩ : ∃ m, (skN sl sl.length).length = m := ⟨_, rfl⟩
          rw [hm0] at hsl hso2 hkc2 hskl hskp
          refine SeqS.slots cok _ hsl fun e => ?_
          skip
          refine CallG.perm (⟨kb2, mulS kcap2 6, 180, kc2⟩ :: ⟨wb, mulS 2 55, 58, cw⟩ :: ⟨rb, mulS ac.length 1, 21, cr⟩ :: ⟨sb, ssz, 180, sc⟩ :: G) (perm_sum fun f => by simp only [sumE, sumE_append]; omega) ?_
          refine (hso2 _).mono ?_
          rintro r _ - ⟨ob, osz, oc, ocap, L, rfl, rfl, hoc, hEo, hLp, hLw⟩
          have hLm : L.length = m := hLp.length_eq.trans hm0
          repeat (first | refine SeqS.go cok ?_)
          refine W.rounds cok (by kernel_rfl) 2 ?_
          repeat (first | refine SeqS.go cok ?_ | (refine CondS.keep ?_; first | refine CondS.d1 rfl (by omega) ?_))
          refine W.loopF cok (by kernel_rfl) 8 (fun (n : Nat) e' S' => S' = ⟨J, ⟨ob, osz, 180, oc⟩ :: ⟨wb, mulS 2 55, 58, cw⟩ :: ⟨rb, mulS ac.length 1, 21, cr⟩ :: ⟨sb, ssz, 180, sc⟩ :: G⟩ ∧ n ≤ m ∧ slots [(0, ptr cb 2435), (6, HL.sl wb 0 2 2), (10, HL.sl ob 0 m ocap), (13, .int .i64 ((0 : Nat) : Int)), (14, .int .i64 (n : Nat))] e') (fun n => m - n) 0
            (Rel.same ⟨rfl, Nat.zero_le _, rfl, rfl, rfl, rfl, rfl, trivial⟩) (fun e' S' => S' = ⟨J, ⟨ob, osz, 180, oc⟩ :: ⟨wb, mulS 2 55, 58, cw⟩ :: ⟨rb, mulS ac.length 1, 21, cr⟩ :: ⟨sb, ssz, 180, sc⟩ :: G⟩ ∧ slots [(0, ptr cb 2435), (6, HL.sl wb 0 2 2), (10, HL.sl ob 0 m ocap), (13, .int .i64 ((0 : Nat) : Int)), (14, .int .i64 (m : Nat))] e') ?_ ?_
          · rintro e' S2 - ⟨rfl, hsl⟩
            refine SeqS.slots cok _ hsl fun e => ?_
            repeat (first | refine And.intro (by dsimp only; omega) ?_ | (refine NatS.keep ?_; first | with_reducible refine NatS.nat ?_))
            intro lb
            repeat (first | refine SeqS.go cok ?_)
            refine W.loopF cok (by kernel_rfl) 10 (fun (i : Nat) e' S' => (∃ cl, S' = ⟨J, ⟨lb, mulS m 64, 127, cl⟩ :: ⟨ob, osz, 180, oc⟩ :: ⟨wb, mulS 2 55, 58, cw⟩ :: ⟨rb, mulS ac.length 1, 21, cr⟩ :: ⟨sb, ssz, 180, sc⟩ :: G⟩ ∧ Row cl 0 (((kvL sl L).take i).map slV).flatten) ∧ i ≤ m ∧ slots [(0, ptr cb 2435), (6, HL.sl wb 0 2 2), (10, HL.sl ob 0 m ocap), (13, .int .i64 ((0 : Nat) : Int)), (14, .int .i64 (m : Nat)), (15, HL.sl lb 0 m m), (205, .int .i64 (m : Nat)), (206, .int .i64 (i : Nat))] e') (fun i => m - i) 0
              (Rel.same ⟨⟨_, rfl, ⟨fun i hi => absurd hi (by simp)⟩⟩, Nat.zero_le _, rfl, rfl, rfl, rfl, rfl, rfl, rfl, rfl, trivial⟩) (fun e' S' => (∃ cl, S' = ⟨J, ⟨lb, mulS m 64, 127, cl⟩ :: ⟨ob, osz, 180, oc⟩ :: ⟨wb, mulS 2 55, 58, cw⟩ :: ⟨rb, mulS ac.length 1, 21, cr⟩ :: ⟨sb, ssz, 180, sc⟩ :: G⟩ ∧ Row cl 0 ((kvL sl L).map slV).flatten) ∧ slots [(0, ptr cb 2435), (6, HL.sl wb 0 2 2), (10, HL.sl ob 0 m ocap), (13, .int .i64 ((0 : Nat) : Int)), (14, .int .i64 (m : Nat)), (15, HL.sl lb 0 m m)] e') ?_ ?_
            · rintro e' S2 - ⟨⟨cl, rfl, hrl⟩, hsl⟩
              refine SeqS.slots cok _ hsl fun e => ?_
              have hin0 : 0 < (L.map SK.enc).length := by rw [List.length_map]; omega
              have k0 : ((L.map SK.enc).getD 0 []).getD 0 undef = .int .i32 ((1 : Nat) : Int) := by
                rw [getD_map (d := dK) (by omega)]
                have : L.getD 0 dK ∈ L := getD_mem (by omega)
                have := (skN_mem (hLp.mem_iff.1 this)).1
                show Value.int .i32 ((L.getD 0 dK).rk : Nat) = _
                rw [this]
              have hro : Rd ⟨J, ⟨lb, mulS m 64, 127, cl⟩ :: ⟨ob, osz, 180, oc⟩ :: ⟨wb, mulS 2 55, 58, cw⟩ :: ⟨rb, mulS ac.length 1, 21, cr⟩ :: ⟨sb, ssz, 180, sc⟩ :: G⟩ ⟨ob, osz, 180, oc⟩ := .inr (by simp)
              have hEw : Els ⟨wb, mulS 2 55, 58, cw⟩ 0 55 ms := ⟨hml2, hrow, by rw [hml]; show 0 + 2 * 55 ≤ mulS 2 55; rw [mulS_eq]; decide⟩
              have hiw : 0 < ms.length := by omega
              repeat (first | (refine QuG.keep ?_; refine QuG.elF cok hEo hro rfl rfl rfl rfl elO hin0 (by decide) k0 ?_) | (refine OpG.keep ?_; refine OpG.elF cok 2 rfl hEw rfl rfl rfl rfl elO hiw (by decide) (u := HL.sl lb 0 m m) rfl rfl ?_) | refine And.intro (by omega) ?_ | (refine NatS.keep ?_; first | with_reducible refine NatS.nat ?_) | (refine ValS.keep ?_; first | (with_reducible refine ValS.kI32 ?_; first | (with_reducible refine ValS.subI32_L ?_ ?_ ?_ ; omega; omega))))
              intro cw2 hEw2
              repeat (first | refine SeqS.go cok ?_ | (refine ValS.keep ?_; first | (with_reducible refine ValS.kI64 ?_; first | (with_reducible refine ValS.addI64 ?_ ?_ ; omega))) | (refine CondS.keep ?_; first | refine CondS.d0 rfl (by omega) ?_))
              refine Fin.pick5 ⟨rfl, L, hLp, hLw, exOWI2 h hml hall hEw2 hrl hLm (by omega) ?_ ?_ ?_ ?_⟩
              · exact fun _ hx => .inl (hs _ hx)
              · exact fun _ hx => .inl hx
              · exact .inr (List.mem_cons_of_mem _ List.mem_cons_self)
              · exact .inr List.mem_cons_self
            · rintro i e' S2 - ⟨⟨cl, rfl, hrl⟩, hi, hsl⟩
              refine W.slots _ hsl fun e => ?_
              by_cases hlt : i < m
              · have hro : Rd ⟨J, ⟨lb, mulS m 64, 127, cl⟩ :: ⟨ob, osz, 180, oc⟩ :: ⟨wb, mulS 2 55, 58, cw⟩ :: ⟨rb, mulS ac.length 1, 21, cr⟩ :: ⟨sb, ssz, 180, sc⟩ :: G⟩ ⟨ob, osz, 180, oc⟩ := .inr (by simp)
                obtain ⟨k, hk⟩ : ∃ k, L.getD i dK = k := ⟨_, rfl⟩
                have hkm : k ∈ L := hk ▸ getD_mem (by omega)
                obtain ⟨q1, q2, q3, q4⟩ := skN_mem (hLp.mem_iff.1 hkm)
                have hil : i < (L.map SK.enc).length := by rw [List.length_map]; omega
                have hin : 0 + i < (L.map SK.enc).length := by rw [List.length_map]; omega
                have a5 : ((L.map SK.enc).getD (0 + i) []).getD 5 undef = .int .i32 (k.at_ : Nat) := by rw [Nat.zero_add, getD_map (d := dK) (by omega), hk]; rfl
                obtain ⟨y, hy⟩ : ∃ y, sl.getD k.at_ dVS = y := ⟨_, rfl⟩
                have hyb := h.sky _ (hy ▸ getD_mem q2 : y ∈ sl)
                have his : k.at_ < (sl.map VSl.enc).length := by rw [List.length_map]; exact q2
                have hyg : (sl.map VSl.enc).getD k.at_ [] = y.enc := by rw [getD_map (d := dVS) q2, hy]
                have s1 : (((sl.map VSl.enc).getD k.at_ []).drop 1).take 4 = wcs y.key := by rw [hyg]; rfl
                have s5 : (((sl.map VSl.enc).getD k.at_ []).drop 5).take 4 = wcs y.val := by rw [hyg]; rfl
                have hbk := fun S => UBE32_spec (S := S) hyb.1
                have hbv := fun S => UBE32_spec (S := S) hyb.2
                repeat (first | (refine QuG.keep ?_; refine QuG.elF cok hEo hro rfl rfl rfl rfl elO hin (by decide) a5 ?_) | (refine QuG.keep ?_; first | refine QuG.ld cok (hrc _) rfl rfl rfl rfl (by dsimp only; omega) hav2 ?_ | refine QuG.elS cok hEs (hrs _) rfl rfl rfl rfl elO his (by decide) s1 ?_ | refine QuG.elS cok hEs (hrs _) rfl rfl rfl rfl elO his (by decide) s5 ?_) | refine SeqS.go cok ?_ | refine And.intro (by omega) ?_ | (refine NatS.keep ?_; first | with_reducible refine NatS.nat ?_) | (refine ValS.keep ?_; first | (with_reducible refine ValS.kI64 ?_; first | (with_reducible refine ValS.addI64 ?_ ?_ ; omega))) | refine W.drawI 38 cok [0, 1, 3, 7, 0, 0, 0, 96, 240, 496, 1008, 2047, 4095] [0, 1, 2, 3, 4, 5, 6, 7, 8, 9, 10, 11, 12] [3, 10] (by kernel_rfl) (by kernel_rfl) ?_ | refine W.drawI 39 cok [0, 0, 0, 4, 12, 28, 60, 0, 128, 384, 896, 2044, 4092, 8191, 16383] [0, 1, 2, 3, 4, 5, 7, 8, 9, 10, 6, 11, 12, 13, 14] [5, 10] (by kernel_rfl) (by kernel_rfl) ?_ | (refine CondS.keep ?_; first | refine CondS.d1 rfl (by omega) ?_))
                refine (hbk _).mono ?_
                rintro r1 _ - ⟨rfl, rfl⟩
                repeat (first | (refine still_in ?_; first | refine still_nil ?_ | refine still_drop (by decide) ?_ | (refine still_keep (by decide) rfl ?_ ?_; first | exact QuV.of (QuG.elS cok hEs (hrs _) rfl rfl rfl rfl elO his (by decide) s5 rfl))))
                refine (hbv _).mono ?_
                rintro r2 _ - ⟨rfl, rfl⟩
                have hB := build_sl (z := z127) (a := be32 y.key) (b := be32 y.val) rfl rfl
                have m1 : (bvs (be32 y.key) ++ bvs (be32 y.val)).length = 64 := rfl
                have m2 : ∀ u ∈ bvs (be32 y.key) ++ bvs (be32 y.val), one u = true := fun u hu => by
                  rcases List.mem_append.1 hu with hu | hu <;> exact one_bvs _ u hu
                repeat (first | (refine OpG.keep ?_; refine OpG.upS cok 0 (vs := bvs (be32 y.key) ++ bvs (be32 y.val)) rfl rfl rfl rfl (congrArg (fun l : List Value => Value.agg l.toArray) hB) m1 m2 (sl_bound hlt) ?_) | refine SeqS.go cok ?_ | refine And.intro (fillOk_of (Eq.refl true)) ?_ | refine And.intro (Eq.refl true) ?_ | refine And.intro (by omega) ?_ | (refine NatS.keep ?_; first | with_reducible refine NatS.nat ?_) | (refine ValS.keep ?_; first | (with_reducible refine ValS.kI64 ?_; first | (with_reducible refine ValS.addI64_L ?_ ?_ ; omega))) | (refine still_in ?_; first | refine still_drop (by decide) ?_))
                have hil2 : i < (kvL sl L).length := by unfold kvL; rw [List.length_map]; omega
                refine ⟨i + 1, Rel.same ⟨⟨_, rfl, ?_⟩, hlt, rfl, rfl, rfl, rfl, rfl, rfl, rfl, rfl, trivial⟩, by show m - (i + 1) < m - i; omega⟩
                rw [List.take_succ_eq_append_getElem hil2, List.map_append]
                have e1 : slV ((kvL sl L)[i]) = bvs (be32 y.key) ++ bvs (be32 y.val) := by
                  have : (kvL sl L)[i] = (k.w, y.val) := by
                    have h1 : (kvL sl L)[i]? = some (k.w, y.val) := by
                      unfold kvL
                      rw [List.getElem?_map, List.getElem?_eq_getElem (by omega)]
                      have h2 : L[i] = k := by rw [← hk, List.getD_eq_getElem?_getD, List.getElem?_eq_getElem (by omega)]; rfl
                      rw [Option.map_some, h2, hy]
                    rw [List.getElem?_eq_getElem hil2] at h1
                    exact Option.some.inj h1
                  rw [this, q3, hy]; rfl
                rw [List.map_cons, List.map_nil, e1]
                refine row_castB (row_snoc hrl ?_ ?_)
                · intro l hl
                  obtain ⟨p, _, rfl⟩ := List.mem_map.1 hl
                  rfl
                · rw [List.length_map, List.length_take]; omega
              · obtain rfl : i = m := by omega
                rw [List.take_of_length_le (by unfold kvL; rw [List.length_map]; omega)] at hrl
                repeat (first | refine SeqS.go cok ?_ | (refine CondS.keep ?_; first | refine CondS.d0 rfl (by omega) ?_))
                exact ⟨⟨cl, rfl, hrl⟩, rfl, rfl, rfl, rfl, rfl, rfl, trivial⟩
          · rintro n e' S2 - ⟨rfl, hi, hsl⟩
            refine W.slots _ hsl fun e => ?_
            have hro : Rd ⟨J, ⟨ob, osz, 180, oc⟩ :: ⟨wb, mulS 2 55, 58, cw⟩ :: ⟨rb, mulS ac.length 1, 21, cr⟩ :: ⟨sb, ssz, 180, sc⟩ :: G⟩ ⟨ob, osz, 180, oc⟩ := .inr (by simp)
            have hin0 : 0 < (L.map SK.enc).length := by rw [List.length_map]; omega
            have hrk1 : ∀ n, n < m → ((L.map SK.enc).getD n []).getD 0 undef = .int .i32 ((1 : Nat) : Int) := fun n hn => by
              rw [getD_map (d := dK) (by omega)]
              have : L.getD n dK ∈ L := getD_mem (by omega)
              have := (skN_mem (hLp.mem_iff.1 this)).1
              show Value.int .i32 ((L.getD n dK).rk : Nat) = _
              rw [this]
            have k0 := hrk1 0 (by omega)
            by_cases hlt : n < m
            · have hin : 0 + n < (L.map SK.enc).length := by rw [List.length_map]; omega
              have kn := hrk1 (0 + n) (by omega)
              repeat (first | (refine QuG.keep ?_; refine QuG.elF cok hEo hro rfl rfl rfl rfl elO hin (by decide) kn ?_) | (refine QuG.keep ?_; refine QuG.elF cok hEo hro rfl rfl rfl rfl elO hin0 (by decide) k0 ?_) | refine SeqS.go cok ?_ | refine GuardS.yes rfl ?_ | refine CondS.t rfl ?_ | refine And.intro (by omega) ?_ | (refine NatS.keep ?_; first | with_reducible refine NatS.nat ?_) | (refine ValS.keep ?_; first | (with_reducible refine ValS.kI64 ?_; first | (with_reducible refine ValS.addI64_L ?_ ?_ ; omega) | (with_reducible refine ValS.addI64 ?_ ?_ ; omega))) | refine W.drawI 32 cok [0, 0, 3, 0, 8, 31, 63, 127, 127, 127, 895, 2047, 4095, 8191, 127, 127, 49279, 114815, 245887, 524287, 1048575] [0, 1, 2, 3, 4, 5, 6, 7, 8, 9, 10, 11, 12, 13, 14, 15, 16, 17, 18, 19, 20] [13, 18] (by kernel_rfl) (by kernel_rfl) ?_ | (refine GuardS.keep ?_; first | refine GuardS.T1 rfl (by omega) ?_))
              exact ⟨n + 1, Rel.same ⟨rfl, hlt, rfl, rfl, rfl, rfl, rfl, trivial⟩, by show m - (n + 1) < m - n; omega⟩
            · obtain rfl : n = m := by omega
              repeat (first | refine SeqS.go cok ?_ | refine GuardS.no rfl ?_ | refine CondS.f rfl ?_ | (refine ValS.keep ?_; first | (with_reducible refine ValS.kI64 ?_; first | (with_reducible refine ValS.addI64 ?_ ?_ ; omega))) | refine W.drawI 32 cok [0, 0, 3, 0, 8, 31, 63, 127, 127, 127, 895, 2047, 4095, 8191, 127, 127, 49279, 114815, 245887, 524287, 1048575] [0, 1, 2, 3, 4, 5, 6, 7, 8, 9, 10, 11, 12, 13, 14, 15, 16, 17, 18, 19, 20] [13, 18] (by kernel_rfl) (by kernel_rfl) ?_ | (refine GuardS.keep ?_; first | refine GuardS.T0 rfl (by omega) ?_))
              exact ⟨rfl, rfl, rfl, rfl, rfl, rfl, trivial⟩
      · rintro i e' S2 - ⟨M, v, rfl, hW2, hnil, hi, hsl⟩
        obtain ⟨vad, vcap, rfl⟩ := hW2.form
        have hskl := skN_len sl i
        refine W.slots _ hsl fun e => ?_
        by_cases hlt : i < sl.length
        · obtain ⟨x2, o2, cap2, hav2, hx2, hEs⟩ : ∃ x2 o2 cap2, c 2436 = HL.sl x2.b o2 sl.length cap2 ∧ I x2 ∧ Els x2 o2 14 (sl.map VSl.enc) := by
            rcases h.rs.2 with ⟨_, h2⟩ | ⟨x2, o2, cap2, g1, g2, g3, g4⟩
            · have := congrArg List.length h2; rw [List.length_map, List.length_nil] at this; omega
            · rw [List.length_map] at g1; exact ⟨x2, o2, cap2, g1, g3, g4⟩
          have his : i < (sl.map VSl.enc).length := by rw [List.length_map]; exact hlt
          have hrs : ∀ G, Rd ⟨J, G⟩ x2 := fun _ => .inl (hs _ hx2)
          obtain ⟨y, hy⟩ : ∃ y, sl.getD i dVS = y := ⟨_, rfl⟩
          have hyg : (sl.map VSl.enc).getD i [] = y.enc := by rw [getD_map (d := dVS) hlt, hy]
          have hyb := h.sky _ (hy ▸ getD_mem hlt : y ∈ sl)
          have s0 : ((sl.map VSl.enc).getD i []).getD 0 undef = .int .i32 ((0 : Nat) : Int) := by rw [hyg]; rfl
          have s1 : (((sl.map VSl.enc).getD i []).drop 1).take 4 = wcs y.key := by rw [hyg]; rfl
          have s5 : (((sl.map VSl.enc).getD i []).drop 5).take 4 = wcs y.val := by rw [hyg]; rfl
          have hiz := fun S => UIsZero_spec (S := S) hyb.2
          by_cases hz : y.val = 0
          · rw [decide_eq_true hz] at hiz
            have hsk : skN sl (i + 1) = skN sl i := by rw [skN, hy, if_pos hz, List.append_nil]
            repeat (first | (refine QuG.keep ?_; first | refine QuG.l1E cok 1 rfl rfl rfl rfl rfl (by first | exact Nat.le_of_ble_eq_true rfl | omega | (dsimp only; omega) | (simp only [addS_eq, mulS_eq]; omega)) (by assumption) ?_) | (refine QuG.keep ?_; first | refine QuG.ld cok (hrc _) rfl rfl rfl rfl (by dsimp only; omega) hav2 ?_ | refine QuG.elF cok hEs (hrs _) rfl rfl rfl rfl elO his (by decide) s0 ?_ | refine QuG.elS cok hEs (hrs _) rfl rfl rfl rfl elO his (by decide) s5 ?_) | refine SeqS.go cok ?_ | refine GuardS.yes rfl ?_ | refine And.intro (by omega) ?_ | (refine NatS.keep ?_; first | with_reducible refine NatS.nat ?_) | (refine ValS.keep ?_; first | (with_reducible refine ValS.kI64 ?_; first | (with_reducible refine ValS.convI64 ?_ ?_ ; omega))) | (refine GuardS.keep ?_; first | refine GuardS.T1 rfl (by omega) ?_) | (refine CondS.keep ?_; first | refine CondS.d1 rfl (by omega) ?_))
            refine (hiz _).mono ?_
            rintro r _ - ⟨rfl, rfl⟩
            repeat (first | refine SeqS.go cok ?_ | refine GuardS.yes rfl ?_ | refine CondS.f rfl ?_ | (refine ValS.keep ?_; first | (with_reducible refine ValS.kI64 ?_; first | (with_reducible refine ValS.addI64_L ?_ ?_ ; omega))))
            exact ⟨i + 1, Rel.same ⟨M, _, rfl, by rw [hsk]; exact hW2, by rw [hsk]; exact hnil, hlt, rfl, rfl, rfl, rfl, rfl, rfl, trivial⟩, by show sl.length - (i + 1) < sl.length - i; omega⟩
          · rw [decide_eq_false hz] at hiz
            have hsk : skN sl (i + 1) = skN sl i ++ [⟨1, y.key, i⟩] := by rw [skN, hy, if_neg hz]
            repeat (first | (refine QuG.keep ?_; first | refine QuG.l1E cok 1 rfl rfl rfl rfl rfl (by first | exact Nat.le_of_ble_eq_true rfl | omega | (dsimp only; omega) | (simp only [addS_eq, mulS_eq]; omega)) (by assumption) ?_) | (refine QuG.keep ?_; first | refine QuG.ld cok (hrc _) rfl rfl rfl rfl (by dsimp only; omega) hav2 ?_ | refine QuG.elF cok hEs (hrs _) rfl rfl rfl rfl elO his (by decide) s0 ?_ | refine QuG.elS cok hEs (hrs _) rfl rfl rfl rfl elO his (by decide) s5 ?_) | refine SeqS.go cok ?_ | refine GuardS.yes rfl ?_ | refine And.intro (by omega) ?_ | (refine NatS.keep ?_; first | with_reducible refine NatS.nat ?_) | (refine ValS.keep ?_; first | (with_reducible refine ValS.kI64 ?_; first | (with_reducible refine ValS.convI64 ?_ ?_ ; omega))) | (refine GuardS.keep ?_; first | refine GuardS.T1 rfl (by omega) ?_) | (refine CondS.keep ?_; first | refine CondS.d1 rfl (by omega) ?_))
            refine (hiz _).mono ?_
            rintro r _ - ⟨rfl, rfl⟩
            repeat (first | (refine QuG.keep ?_; first | refine QuG.l1E cok 1 rfl rfl rfl rfl rfl (by first | exact Nat.le_of_ble_eq_true rfl | omega | (dsimp only; omega) | (simp only [addS_eq, mulS_eq]; omega)) (by assumption) ?_) | (refine QuG.keep ?_; first | refine QuG.elF cok hEs (hrs _) rfl rfl rfl rfl elO his (by decide) s0 ?_ | refine QuG.elS cok hEs (hrs _) rfl rfl rfl rfl elO his (by decide) s1 ?_) | refine SeqS.go cok ?_ | refine GuardS.yes rfl ?_ | refine CondS.t rfl ?_ | refine And.intro (fillOk_of (Eq.refl true)) ?_ | refine And.intro (Eq.refl true) ?_ | refine And.intro (by omega) ?_ | refine And.intro (by dsimp only; omega) ?_ | (refine NatS.keep ?_; first | with_reducible refine NatS.nat ?_) | (refine ValS.keep ?_; first | (with_reducible refine ValS.kI32 ?_; first | (with_reducible refine ValS.convI32 ?_ ?_ ; omega))) | refine W.drawI 26 cok [0, 0, 0, 4, 12, 28, 62, 126, 0, 256, 768, 1792, 0, 4096, 16382, 32766, 65535, 131071] [0, 1, 2, 3, 4, 5, 6, 7, 8, 9, 10, 11, 12, 13, 14, 15, 16, 17] [5, 7, 11] (by kernel_rfl) (by kernel_rfl) ?_)
            intro tb
            repeat (first | (refine still_in ?_; first | refine still_nil ?_ | refine still_drop (by decide) ?_))
            refine OpG.keep ?_
            refine OpG.app1 cok (L := _ :: _ :: _ :: G) (M := M) (vss := (skN sl i).map SK.enc) (el := (SK.mk 1 y.key i).enc) rfl rfl rfl rfl rfl rfl rfl rfl rfl hW2 ?_ ?_ ?_ ?_ ?_
            · exact row_eq (bK1 y.key i) (Row.updN2 _ 0 _)
            · rfl
            · exact SK.one _
            · rw [List.length_map]; omega
            intro v' M' hO'
            repeat (first | refine SeqS.go cok ?_ | (refine ValS.keep ?_; first | (with_reducible refine ValS.kI64 ?_; first | (with_reducible refine ValS.addI64_L ?_ ?_ ; omega))) | (refine still_in ?_; first | refine still_drop (by decide) ?_))
            exact ⟨i + 1, Rel.same ⟨M', v', rfl, by rw [hsk, List.map_append]; exact hO', fun hn => absurd hn (by rw [hsk]; simp), hlt, rfl, rfl, rfl, rfl, rfl, rfl, trivial⟩, by show sl.length - (i + 1) < sl.length - i; omega⟩
        · obtain rfl : i = sl.length := by omega
          repeat (first | refine SeqS.go cok ?_ | (refine CondS.keep ?_; first | refine CondS.d0 rfl (by omega) ?_))
          exact ⟨M, _, rfl, hW2, hnil, rfl, rfl, rfl, trivial⟩
    · rintro r e' S2 - ⟨⟨J, cr, cw, ms, hs, rfl, hml, hml2, hrow, hc0, hall⟩, hr, hsl⟩
      refine W.slots _ hsl fun e => ?_
      by_cases hlt : r < 2
      · have hrc : ∀ G, Rd ⟨J, G⟩ ⟨cb, sz, T, c⟩ := fun _ => .inl (hs _ h.cbI)
        have hra : ∀ G, Rd ⟨J, G⟩ x := fun _ => .inl (hs _ hxI)
        have hrk : ∀ a b, Rd ⟨J, a :: b :: ⟨sb, ssz, 180, sc⟩ :: G⟩ ⟨sb, ssz, 180, sc⟩ := fun a b => .inr (by simp)
        obtain ⟨q, hq⟩ : ∃ q, (if r = 0 then 0 else j) = q := ⟨_, rfl⟩
        have hqn : q < ac.length := by rw [← hq]; split <;> omega
        have hki : r < ([(⟨0, 1, 0⟩ : SK), ⟨0, 240, j⟩].map SK.enc).length := hlt
        obtain ⟨kw, hkl⟩ : ∃ kw, ((([(⟨0, 1, 0⟩ : SK), ⟨0, 240, j⟩].map SK.enc).getD r []).drop 0).take 6 = (SK.mk 0 kw q).enc := by
          have : r = 0 ∨ r = 1 := by omega
          rcases this with rfl | rfl
          · exact ⟨1, by rw [← hq]; rfl⟩
          · exact ⟨240, by rw [← hq]; rfl⟩
        repeat (first | (refine QuG.keep ?_; refine QuG.elS cok hEk2 (hrk _ _) rfl rfl rfl rfl elO0 hki (by decide) hkl ?_) | refine SeqS.go cok ?_ | refine And.intro (by omega) ?_ | (refine NatS.keep ?_; first | with_reducible refine NatS.nat ?_) | (refine CondS.keep ?_; first | refine CondS.d1 rfl (by omega) ?_))
        intro tb
        obtain ⟨y, hy⟩ : ∃ y, ac.getD q dVA = y := ⟨_, rfl⟩
        have hyg := hg q hqn
        have hym := hm q hqn
        rw [hy] at hyg hym
        have h20 := (h.aok _ hym).len
        have hqa : q < (ac.map VA.enc).length := by rw [List.length_map]; exact hqn
        have l0 : (((ac.map VA.enc).getD q []).drop 0).take 20 = bvs y.ad := by rw [hyg]; exact enc_ad h20
        have l20 : ((ac.map VA.enc).getD q []).getD 20 undef = .int .u64 (y.nonce : Nat) := by rw [hyg]; exact enc_20 h20
        have l21 : (((ac.map VA.enc).getD q []).drop 21).take 4 = wcs y.bal := by rw [hyg]; exact enc_21 h20
        obtain ⟨ya, yc, hyc, hyB⟩ : ∃ ya yc, y.cv = .slice ya y.code.length yc ∧ Byt ⟨I, []⟩ (.slice ya y.code.length yc) y.code := by
          have := h.cd _ hym
          obtain ⟨a, cc, e, _⟩ := this.form
          exact ⟨a, cc, e, e ▸ this⟩
        have l25 : ((ac.map VA.enc).getD q []).getD 25 undef = .slice ya y.code.length yc := by rw [hyg, enc_25 h20]; exact hyc
        have hbe := fun S => UBE32_spec (S := S) (h.abl _ hym)
        have hab := (h.aok _ hym).bv
        repeat (first | (refine QuG.keep ?_; refine QuG.elS cok hEa (hra _) rfl rfl rfl rfl elO hqa (by decide) l0 ?_) | (refine QuG.keep ?_; refine QuG.elF cok hEa (hra _) rfl rfl rfl rfl elO hqa (by decide) l20 ?_) | (refine QuG.keep ?_; refine QuG.elS cok hEa (hra _) rfl rfl rfl rfl elO hqa (by decide) l21 ?_) | (refine QuG.keep ?_; refine QuG.elF cok hEa (hra _) rfl rfl rfl rfl elO hqa (by decide) l25 ?_) | (refine QuG.keep ?_; refine QuG.ld cok (hrc _) rfl rfl rfl rfl (by dsimp only; omega) hav ?_) | refine SeqS.go cok ?_ | refine And.intro (by omega) ?_ | (refine NatS.keep ?_; first | with_reducible refine NatS.nat ?_) | (refine ValS.keep ?_; first | (with_reducible refine ValS.kI32 ?_; first | (with_reducible refine ValS.convI32 ?_ ?_ ; omega) | (with_reducible refine ValS.addI32_L ?_ ?_ ; omega))) | (refine QuG.keep ?_; first | refine QuG.l1 cok 0 rfl rfl rfl rfl rfl (by first | exact Nat.le_of_ble_eq_true rfl | omega | (dsimp only; omega) | (simp only [addS_eq, mulS_eq]; omega)) ?_) | (refine OpG.keep ?_; first | refine OpG.s1 cok 2 rfl rfl rfl rfl rfl (by first | exact Nat.le_of_ble_eq_true rfl | omega | (dsimp only; omega) | (simp only [addS_eq, mulS_eq]; omega)) rfl rfl ?_ | refine OpG.sL cok 0 rfl rfl rfl rfl rfl rfl rfl (by first | exact Nat.le_of_ble_eq_true rfl | omega | (dsimp only; omega) | (simp only [addS_eq, mulS_eq]; omega)) ?_) | refine W.drawI 16 cok [0, 1, 3, 7, 0, 16, 63, 127] [0, 1, 2, 3, 4, 5, 6, 7] [3, 5] (by kernel_rfl) (by kernel_rfl) ?_ | refine W.drawI 18 cok [0, 0, 0, 4, 12, 28, 0, 64, 192, 448, 0, 1024, 3072, 7168, 15360, 0, 32768, 98304, 229376, 523264, 1048572, 2097151, 4194303] [0, 1, 2, 3, 4, 5, 6, 7, 8, 9, 10, 11, 12, 13, 15, 16, 17, 18, 14, 19, 20, 21, 22] [5, 9, 13, 18] (by kernel_rfl) (by kernel_rfl) ?_)
        refine (hbe _).mono ?_
        rintro r1 _ - ⟨rfl, rfl⟩
        repeat (first | (refine still_in ?_; first | refine still_nil ?_ | refine still_drop (by decide) ?_ | (refine still_keep (by decide) rfl ?_ ?_; first | exact QuV.of (QuG.elS cok hEa (by first | exact hra _ | exact hra2 _) rfl rfl rfl rfl elO hqa (by decide) l0 rfl) | exact QuV.of (QuG.elF cok hEa (by first | exact hra _ | exact hra2 _) rfl rfl rfl rfl elO hqa (by decide) l20 rfl) | exact QuV.of (QuG.elF cok hEa (by first | exact hra _ | exact hra2 _) rfl rfl rfl rfl elO hqa (by decide) l25 rfl))))
        refine callBS (vCopied (Byt.ext (hyB.mono hs (by simp)))) fun oa' oc J2 hs2 hoN => ?_
        have hra2 : ∀ G, Rd ⟨J2, G⟩ x := fun _ => .inl (hs2 _ (hs _ hxI))
        have h32 : (bvs (be32 y.bal)).length = 32 := by rw [bvs_len']; rfl
        have hB := build_ac (z := z58) (n := y.nonce) (ca := oa') (cn := y.code.length) (cc := oc) hab h32 rfl
        have m1 : (bvs y.ad ++ (.int .u64 (y.nonce : Nat) :: (bvs (be32 y.bal) ++ [Value.slice oa' y.code.length oc, .slice none 0 0]))).length = 55 := by simp only [List.length_append, List.length_cons, hab, h32, List.length_nil]
        have m2 : ∀ u ∈ bvs y.ad ++ (.int .u64 (y.nonce : Nat) :: (bvs (be32 y.bal) ++ [Value.slice oa' y.code.length oc, .slice none 0 0])), one u = true := by
          intro u hu
          simp only [List.mem_append, List.mem_cons, List.not_mem_nil, or_false] at hu
          rcases hu with hu | rfl | hu | rfl | rfl
          · exact one_bvs _ u hu
          · rfl
          · exact one_bvs _ u hu
          · rfl
          · rfl
        repeat (first | (refine OpG.keep ?_; refine OpG.upS cok 1 (vs := bvs y.ad ++ (.int .u64 (y.nonce : Nat) :: (bvs (be32 y.bal) ++ [Value.slice oa' y.code.length oc, .slice none 0 0]))) rfl rfl rfl rfl (congrArg (fun l : List Value => Value.agg l.toArray) hB) m1 m2 (ac_bound hlt) ?_) | refine And.intro ⟨⟨by assumption, Nat.le_of_ble_eq_true rfl⟩, fillOk_of (Eq.refl true)⟩ ?_ | refine SeqS.go cok ?_ | refine And.intro (Eq.refl true) ?_ | refine And.intro (by omega) ?_ | (refine NatS.keep ?_; first | with_reducible refine NatS.nat ?_) | (refine ValS.keep ?_; first | (with_reducible refine ValS.kI64 ?_; first | (with_reducible refine ValS.addI64_L ?_ ?_ ; omega))) | (refine still_in ?_; first | refine still_drop (by decide) ?_ | (refine still_keep (by decide) rfl ?_ ?_; first | exact QuV.of (QuG.elS cok hEa (by first | exact hra _ | exact hra2 _) rfl rfl rfl rfl elO hqa (by decide) l0 rfl) | exact QuV.of (QuG.elF cok hEa (by first | exact hra _ | exact hra2 _) rfl rfl rfl rfl elO hqa (by decide) l20 rfl))))
        refine ⟨r + 1, Rel.drop _ [_] ⟨⟨J2, _, _, ms ++ [_], hs.trans hs2, rfl, by rw [List.length_append, hml]; rfl, ?_, row_castA (row_snoc hrow hml2 hml), ?_, ?_⟩, hlt, rfl, rfl, rfl, rfl, rfl, rfl, trivial⟩, by show 2 - (r + 1) < 2 - r; omega⟩
        · intro l hl
          rcases List.mem_append.1 hl with hl | hl
          · exact hml2 l hl
          · rw [List.mem_singleton.1 hl]; exact m1
        · intro _
          have : r = 0 ∨ r = 1 := by omega
          rcases this with rfl | rfl
          · obtain rfl : 0 = q := hq
            rfl
          · obtain rfl : j = q := hq
            refine Eq.trans (updNe ?_) (hc0 (by decide))
            show 0 ≠ addS 0 (mulS j 1)
            rw [addS_eq, mulS_eq]; omega
        · intro p hp
          by_cases hp2 : p < r
          · rw [List.getD_eq_getElem?_getD, List.getElem?_append_left (by omega), ← List.getD_eq_getElem?_getD]
            obtain ⟨cv, e1, e2⟩ := hall p hp2
            exact ⟨cv, e1, e2.mono hs2 (by simp)⟩
          · obtain rfl : p = r := by omega
            rw [List.getD_eq_getElem?_getD, List.getElem?_append_right (by omega), hml, Nat.sub_self, hq, hy]
            exact ⟨_, rfl, hoN⟩
      · obtain rfl : r = 2 := by omega
        repeat (first | refine SeqS.go cok ?_ | refine CondS.f rfl ?_)
        exact ⟨⟨J, cr, cw, ms, hs, rfl, hml, hml2, hrow, hc0, hall⟩, rfl, rfl, rfl, trivial⟩
  · rintro i e' S2 - ⟨M, v, rfl, hW, hi, hsl⟩
    obtain ⟨vad, vcap, rfl⟩ := hW.form
    have hkl := kN_len j i
    refine W.slots _ hsl fun e => ?_
    by_cases hlt : i < ac.length
    · have hia : i < (ac.map VA.enc).length := by rw [List.length_map]; exact hlt
      have hem := fun G => vEmpty (I := I) (G := G) (x := x) (o := oa) (i := i) hEa (hra G) hia (hg i hlt) (h.aok _ (hm i hlt)).len (h.abl _ (hm i hlt)) (h.anc _ (hm i hlt)) (h.cd _ (hm i hlt))
      by_cases h0 : i = 0
      · subst h0
        rw [h.e0] at hem
        have hea : (((ac.map VA.enc).getD 0 []).drop 0).take 20 = bvs (adNo 1) := by rw [hg 0 hlt, enc_ad (h.aok _ (hm 0 hlt)).len, h.a0]
        rw [kN_0] at hW
        repeat (first | (refine QuG.keep ?_; refine QuG.ld cok (hrc _) rfl rfl rfl rfl (by dsimp only; omega) hav ?_) | refine SeqS.go cok ?_ | refine And.intro (by omega) ?_ | (refine NatS.keep ?_; first | with_reducible refine NatS.nat ?_) | (refine CondS.keep ?_; first | refine CondS.d1 rfl (by omega) ?_))
        refine (hem _).mono ?_
        rintro r _ - ⟨rfl, rfl⟩
        repeat (first | (refine QuG.keep ?_; refine QuG.ld cok (hrc _) rfl rfl rfl rfl (by dsimp only; omega) hav ?_) | (refine QuG.keep ?_; refine QuG.elS cok hEa (hra _) rfl rfl rfl rfl elO0 hia (by decide) hea ?_) | refine SeqS.go cok ?_ | refine CondS.t rfl ?_ | refine And.intro (by omega) ?_ | (refine NatS.keep ?_; first | with_reducible refine NatS.nat ?_))
        refine vAddrWord1.mono ?_
        rintro r _ - ⟨rfl, rfl⟩
        repeat (first | refine And.intro (fillOk_of (Eq.refl true)) ?_ | refine And.intro (Eq.refl true) ?_ | refine And.intro (by dsimp only; omega) ?_ | (refine ValS.keep ?_; first | (with_reducible refine ValS.kI32 ?_; first | (with_reducible refine ValS.convI32 ?_ ?_ ; omega))))
        intro tb
        skip
        refine OpG.keep ?_
        refine OpG.app1 cok (L := G) (M := M) (vss := (([] : List SK)).map SK.enc) (el := (SK.mk 0 1 0).enc) rfl rfl rfl rfl rfl rfl rfl rfl rfl hW ?_ ?_ ?_ ?_ ?_
        · exact row_eq (bK 1 0) (Row.updN2 _ 0 _)
        · rfl
        · exact SK.one _
        · decide
        intro v' M' hO'
        repeat (first | refine SeqS.go cok ?_ | (refine ValS.keep ?_; first | (with_reducible refine ValS.kI64 ?_; first | (with_reducible refine ValS.addI64_L ?_ ?_ ; omega))))
        exact ⟨1, Rel.same ⟨M', v', rfl, by rw [kN_1 hj0]; exact hO', hlt, rfl, rfl, rfl, rfl, trivial⟩, by show ac.length - 1 < ac.length - 0; omega⟩
      · by_cases hj : i = j
        · subst hj
          rw [h.ej] at hem
          have hea : (((ac.map VA.enc).getD i []).drop 0).take 20 = bvs (adNo 240) := by rw [hg i hlt, enc_ad (h.aok _ (hm i hlt)).len, h.aj]
          repeat (first | (refine QuG.keep ?_; refine QuG.ld cok (hrc _) rfl rfl rfl rfl (by dsimp only; omega) hav ?_) | refine SeqS.go cok ?_ | refine And.intro (by omega) ?_ | (refine NatS.keep ?_; first | with_reducible refine NatS.nat ?_) | (refine CondS.keep ?_; first | refine CondS.d1 rfl (by omega) ?_))
          refine (hem _).mono ?_
          rintro r _ - ⟨rfl, rfl⟩
          repeat (first | (refine QuG.keep ?_; refine QuG.ld cok (hrc _) rfl rfl rfl rfl (by dsimp only; omega) hav ?_) | (refine QuG.keep ?_; refine QuG.elS cok hEa (hra _) rfl rfl rfl rfl elO0 hia (by decide) hea ?_) | refine SeqS.go cok ?_ | refine CondS.t rfl ?_ | refine And.intro (by omega) ?_ | (refine NatS.keep ?_; first | with_reducible refine NatS.nat ?_))
          refine vAddrWord240.mono ?_
          rintro r _ - ⟨rfl, rfl⟩
          repeat (first | refine And.intro (fillOk_of (Eq.refl true)) ?_ | refine And.intro (Eq.refl true) ?_ | refine And.intro (by dsimp only; omega) ?_ | (refine ValS.keep ?_; first | (with_reducible refine ValS.kI32 ?_; first | (with_reducible refine ValS.convI32 ?_ ?_ ; omega))))
          intro tb
          skip
          refine OpG.keep ?_
          refine OpG.app1 cok (L := G) (M := M) (vss := (kN i i).map SK.enc) (el := (SK.mk 0 240 i).enc) rfl rfl rfl rfl rfl rfl rfl rfl rfl hW ?_ ?_ ?_ ?_ ?_
          · exact row_eq (bK 240 i) (Row.updN2 _ 0 _)
          · rfl
          · exact SK.one _
          · rw [List.length_map]; omega
          intro v' M' hO'
          repeat (first | refine SeqS.go cok ?_ | (refine ValS.keep ?_; first | (with_reducible refine ValS.kI64 ?_; first | (with_reducible refine ValS.addI64_L ?_ ?_ ; omega))))
          exact ⟨i + 1, Rel.same ⟨M', v', rfl, by rw [kN_j hj0, List.map_append]; exact hO', hlt, rfl, rfl, rfl, rfl, trivial⟩, by show ac.length - (i + 1) < ac.length - i; omega⟩
        · rw [h.eo i hlt h0 hj] at hem
          repeat (first | (refine QuG.keep ?_; refine QuG.ld cok (hrc _) rfl rfl rfl rfl (by dsimp only; omega) hav ?_) | refine SeqS.go cok ?_ | refine And.intro (by omega) ?_ | (refine NatS.keep ?_; first | with_reducible refine NatS.nat ?_) | (refine CondS.keep ?_; first | refine CondS.d1 rfl (by omega) ?_))
          refine (hem _).mono ?_
          rintro r _ - ⟨rfl, rfl⟩
          repeat (first | refine SeqS.go cok ?_ | refine CondS.f rfl ?_ | (refine ValS.keep ?_; first | (with_reducible refine ValS.kI64 ?_; first | (with_reducible refine ValS.addI64_L ?_ ?_ ; omega))))
          exact ⟨i + 1, Rel.same ⟨M, _, rfl, by rw [kN_o h0 hj]; exact hW, hlt, rfl, rfl, rfl, rfl, trivial⟩, by show ac.length - (i + 1) < ac.length - i; omega⟩
    · obtain rfl : i = ac.length := by omega
      repeat (first | refine SeqS.go cok ?_ | (refine CondS.keep ?_; first | refine CondS.d0 rfl (by omega) ?_))
      exact ⟨M, _, rfl, hW, rfl, rfl, trivial⟩
end Go.Proofs.YgvafwGreat
