import Derived.Test.YgvafwGreatHX
import Derived.Test.YgvafwGreatV12
import Derived.Test.YgvafwGreatV10
set_option exponentiation.threshold 1000
set_option maxRecDepth 100000
set_option maxHeartbeats 4000000
set_option linter.unusedVariables false
set_option linter.unusedSimpArgs false
-- v2
-- v4
-- v5
-- v6
-- v7
-- still: exact QuV.of (QuG.elF cok hE hrd rfl rfl rfl rfl elO hi' (by decide) hen rfl)
-- still: exact QuV.of (QuG.elF cok hEa hra rfl rfl rfl rfl elO hia (by decide) hea rfl)
-- plus: (refine QuG.keep ?_; refine QuG.elF cok hE hrd rfl rfl rfl rfl elO hi' (by decide) hen ?_)
-- plus: (refine QuG.keep ?_; refine QuG.elF cok hEa hra rfl rfl rfl rfl elO hia (by decide) hea ?_)
namespace Go.Proofs.YgvafwGreat
open Go.HL Go.Proofs

def coolS (x : VSl) : VSl := { x with warm := false, orig := x.val }
def coolA (x : VA) : VA := { x with warm := false, made := false, gone := false }
/-- The first i entries done. -/
def partL {α : Type} (f : α → α) (l : List α) (i : Nat) : List α := (l.take i).map f ++ l.drop i
theorem partL_len {α : Type} {f : α → α} {l : List α} {i : Nat} : (partL f l i).length = l.length := by
  unfold partL; rw [List.length_append, List.length_map, List.length_take, List.length_drop]; omega
theorem partL_get {α : Type} {f : α → α} {l : List α} {i : Nat} {d : α} (h : i < l.length) : (partL f l i).getD i d = l.getD i d := by
  unfold partL
  have hl : ((l.take i).map f).length = i := by rw [List.length_map, List.length_take]; omega
  rw [List.getD_eq_getElem?_getD, List.getElem?_append_right (by omega), hl, Nat.sub_self, List.getElem?_drop, Nat.add_zero, ← List.getD_eq_getElem?_getD]
theorem partL_set {α : Type} {f : α → α} {l : List α} {i : Nat} {d : α} (h : i < l.length) : (partL f l i).set i (f (l.getD i d)) = partL f l (i + 1) := by
  unfold partL
  have hl : ((l.take i).map f).length = i := by rw [List.length_map, List.length_take]; omega
  rw [List.set_append_right _ _ (by omega), hl, Nat.sub_self, List.drop_eq_getElem_cons h, List.set_cons_zero, List.take_succ_eq_append_getElem h, List.map_append, List.append_assoc, List.getD_eq_getElem?_getD, List.getElem?_eq_getElem h]
  rfl
theorem partL_end {α : Type} {f : α → α} {l : List α} : partL f l l.length = l.map f := by
  unfold partL; rw [List.take_length, List.drop_length, List.append_nil]
theorem map_setM {α β : Type} {f : α → β} {l : List α} {i : Nat} {x : α} : (l.map f).set i (f x) = (l.set i x).map f := by rw [List.map_set]
/-- The vault as Export sees it. -/
structure XI (I : Ent → Prop) (c : Nat → Value) (ac : List VA) (sl : List VSl) (MA MS : List Ent) : Prop where
  oa : OwnL 177 29 (c 2435) (ac.map VA.enc) MA
  os : OwnL 186 14 (c 2436) (sl.map VSl.enc) MS
  cd : ∀ x ∈ ac, Byt ⟨I, []⟩ x.cv x.code
theorem coolS_enc {x : VSl} : setN (x.enc.set 13 (.bool false)) 9 (wcs x.val) = (coolS x).enc := by simp [setN, VSl.enc, wcs, coolS]
theorem els_own {T : TypeId} {k b cap : Nat} {c : Nat → Value} {v : Value} {vss : List (List Value)} (hv : v = HL.sl b 0 vss.length cap) (hc : vss.length ≤ cap) (hE : Els ⟨b, mulS cap k, T, c⟩ 0 k vss) : OwnL T k v vss [⟨b, mulS cap k, T, c⟩] := ⟨hE.len, .inr ⟨b, cap, c, hv, hc, rfl, hE.row⟩⟩
theorem own_els {T : TypeId} {k : Nat} {v : Value} {vss : List (List Value)} {M : List Ent} (h : OwnL T k v vss M) (hl : 0 < vss.length) : ∃ b cap c, v = HL.sl b 0 vss.length cap ∧ vss.length ≤ cap ∧ M = [⟨b, mulS cap k, T, c⟩] ∧ Els ⟨b, mulS cap k, T, c⟩ 0 k vss := by
  rcases h.out with ⟨_, h2, _⟩ | ⟨b, cap, c, h1, h2, h3, h4⟩
  · rw [h2] at hl; exact absurd hl (by decide)
  · refine ⟨b, cap, c, h1, h2, h3, h.len, h4, ?_⟩
    show 0 + vss.length * k ≤ mulS cap k
    rw [mulS_eq, Nat.zero_add]; exact Nat.mul_le_mul_right k h2
theorem perm_end {R G MA MS MJ ML MT MH : List Ent} (hp : G.Perm (MA ++ (MS ++ (MJ ++ (ML ++ (MT ++ MH)))))) {x : Ent} : (x :: (R ++ G)).Perm (x :: (MJ ++ (MA ++ (MS ++ (R ++ (ML ++ (MT ++ MH))))))) := by
  refine perm_sum fun f => ?_
  have := sumE_perm (f := f) hp
  simp only [sumE, sumE_append] at this ⊢; omega
theorem coolA_enc {x : VA} (h : x.ad.length = 20) : ((x.enc.set 26 (.bool false)).set 27 (.bool false)).set 28 (.bool false) = (coolA x).enc := by
  have hb : (bvs x.ad).length = 20 := by rw [bvs_len']; exact h
  unfold VA.enc coolA
  rw [set_app (n := 20) (k := 6) hb, set_app (n := 20) (k := 7) hb, set_app (n := 20) (k := 8) hb]
  rfl
theorem getD_set {l : List (List Value)} {i : Nat} {x : List Value} (h : i < l.length) : (l.set i x).getD i [] = x := by
  rw [List.getD_eq_getElem?_getD, List.getElem?_set_self h]; rfl
/-- vault.Vault.EndTx -/
theorem vEndTx {I : Ent → Prop} {R G : List Ent} {cb sz : Nat} {T : TypeId} {c : Nat → Value} {V : Vl} (hsz : 27019 ≤ sz) (hV : VI I c V G) (hO : VOk V) (hg : ∀ x ∈ V.ac, x.gone = false) (hj0 : 0 < V.jr.length) (ha0 : 0 < V.ac.length) :
    CallG Hvaf.prog 129 #[ptr cb 2435] ⟨I, ⟨cb, sz, T, c⟩ :: (R ++ G)⟩ fun r S' => ∃ c' MA MS Y, S' = ⟨I, ⟨cb, sz, T, c'⟩ :: (MA ++ (MS ++ Y))⟩ ∧ Out c c' ∧ XI I c' (V.ac.map coolA) (V.sl.map coolS) MA MS := by
  obtain ⟨MA, MS, MJ, ML, MT, MH, hp, hb⟩ := hV.own
  obtain ⟨jb, jcap, cj, hjv, hjc, rfl, hEj⟩ := own_els hb.oj (by rw [List.length_map]; exact hj0)
  obtain ⟨ab, acap, ca, hav, hac, rfl, hEa⟩ := own_els hb.oa (by rw [List.length_map]; exact ha0)
  rw [List.length_map] at hjv hjc hav hac
  have hln := hO.sln
  have hla := hO.aln
  have hlj := hO.jln
  obtain ⟨sad, scap, hsv⟩ := hb.os.form
  rw [List.length_map] at hsv
  have hos := hb.os
  refine CallG.perm _ (perm_end hp) ?_
  generalize R ++ (ML ++ (MT ++ MH)) = X
  have hea : ((V.ac.map VA.enc).getD 0 []).getD 28 undef = .bool false := by
    rw [getD_map (d := dVA) ha0]
    have hm := getD_mem (d := dVA) ha0
    have h20 := (hO.aok _ hm).bv
    have h28 : (V.ac.getD 0 dVA).enc.getD 28 undef = .bool (V.ac.getD 0 dVA).gone := by
      unfold VA.enc
      rw [List.getD_eq_getElem?_getD, List.getElem?_append_right (by omega), h20]; rfl
    rw [h28, hg _ hm]
  have hia : 0 < (V.ac.map VA.enc).length := by rw [List.length_map]; exact ha0
  have hfj : 0 + V.jr.length * 9 ≤ mulS jcap 9 := by rw [mulS_eq]; omega
  refine CallG.start (C := mkC Hvaf.prog) cok (args := [ptr cb 2435]) Hvaf.func129 rfl Hvaf.ntmps129 (by simp) (by kernel_rfl) ?_
  repeat (first | (refine QuG.keep ?_; first | refine QuG.l1E cok 0 rfl rfl rfl rfl rfl (by first | exact Nat.le_of_ble_eq_true rfl | omega | (dsimp only; omega) | (simp only [addS_eq, mulS_eq]; omega)) (by assumption) ?_))
  refine OpG.keep ?_
  refine OpG.clearX cok 1 rfl rfl rfl rfl rfl rfl hj0 hfj (by decide) ?_
  intro cj'
  repeat (first | (refine QuG.keep ?_; first | refine QuG.l1E cok 0 rfl rfl rfl rfl rfl (by first | exact Nat.le_of_ble_eq_true rfl | omega | (dsimp only; omega) | (simp only [addS_eq, mulS_eq]; omega)) (by assumption) ?_) | refine SeqS.go cok ?_ | refine And.intro (Eq.refl true) ?_ | refine And.intro (by omega) ?_ | (refine NatS.keep ?_; first | with_reducible refine NatS.lit ?_) | (refine ValS.keep ?_; first | with_reducible refine ValS.sl0 ?_) | (refine OpG.keep ?_; first | refine OpG.s1 cok 0 rfl rfl rfl rfl rfl (by first | exact Nat.le_of_ble_eq_true rfl | omega | (dsimp only; omega) | (simp only [addS_eq, mulS_eq]; omega)) rfl rfl ?_))
  refine W.loopF cok (by kernel_rfl) 0 (fun (i : Nat) e' S' => (∃ (c1 : Nat → Value) (M : List Ent), S' = ⟨I, ⟨cb, sz, T, c1⟩ :: ⟨jb, mulS jcap 9, 228, cj'⟩ :: ⟨ab, mulS acap 29, 177, ca⟩ :: (M ++ X)⟩ ∧ Out c c1 ∧ c1 2435 = HL.sl ab 0 V.ac.length acap ∧ c1 2436 = .slice sad V.sl.length scap ∧ OwnL 186 14 (.slice sad V.sl.length scap) ((partL coolS V.sl i).map VSl.enc) M) ∧ i ≤ V.sl.length ∧ slots [(0, ptr cb 2435), (37, .int .i64 (V.sl.length : Nat)), (38, .int .i64 (i : Nat))] e') (fun i => V.sl.length - i) 0
    (Rel.same ⟨⟨_, MS, rfl, ?_, hav, hsv, hsv ▸ hos⟩, Nat.zero_le _, rfl, rfl, rfl, trivial⟩) (fun e' S' => (∃ (c1 : Nat → Value) (M : List Ent), S' = ⟨I, ⟨cb, sz, T, c1⟩ :: ⟨jb, mulS jcap 9, 228, cj'⟩ :: ⟨ab, mulS acap 29, 177, ca⟩ :: (M ++ X)⟩ ∧ Out c c1 ∧ c1 2435 = HL.sl ab 0 V.ac.length acap ∧ c1 2436 = .slice sad V.sl.length scap ∧ OwnL 186 14 (.slice sad V.sl.length scap) ((V.sl.map coolS).map VSl.enc) M) ∧ slots [(0, ptr cb 2435)] e') ?_ ?_
  · intro k hk
    rw [updNe (by omega), updNe (by omega), updNe (by omega), updNe (by omega), updNe (by omega), updNe (by omega)]
  · rintro e' S2 - ⟨⟨c1, M, rfl, hOut, hc1, hc2, hW⟩, hsl⟩
    refine SeqS.slots cok _ hsl fun e => ?_
    repeat (first | (refine QuG.keep ?_; first | refine QuG.l1E cok 0 rfl rfl rfl rfl rfl (by first | exact Nat.le_of_ble_eq_true rfl | omega | (dsimp only; omega) | (simp only [addS_eq, mulS_eq]; omega)) (by assumption) ?_) | refine SeqS.go cok ?_)
    refine W.loopF cok (by kernel_rfl) 2 (fun (i : Nat) e' S' => (∃ (ca' : Nat → Value), S' = ⟨I, ⟨cb, sz, T, c1⟩ :: ⟨jb, mulS jcap 9, 228, cj'⟩ :: ⟨ab, mulS acap 29, 177, ca'⟩ :: (M ++ X)⟩ ∧ Els ⟨ab, mulS acap 29, 177, ca'⟩ 0 29 ((partL coolA V.ac i).map VA.enc)) ∧ i ≤ V.ac.length ∧ slots [(0, ptr cb 2435), (97, .int .i64 (V.ac.length : Nat)), (98, .int .i64 (i : Nat))] e') (fun i => V.ac.length - i) 0
      (Rel.same ⟨⟨ca, rfl, hEa⟩, Nat.zero_le _, rfl, rfl, rfl, trivial⟩) (fun e' S' => ∃ (ca' : Nat → Value), S' = ⟨I, ⟨cb, sz, T, c1⟩ :: ⟨jb, mulS jcap 9, 228, cj'⟩ :: ⟨ab, mulS acap 29, 177, ca'⟩ :: (M ++ X)⟩ ∧ Els ⟨ab, mulS acap 29, 177, ca'⟩ 0 29 ((V.ac.map coolA).map VA.enc)) ?_ ?_
    · rintro e' S2 - ⟨ca', rfl, hEn⟩
      skip
      refine Fin.perm [] (⟨cb, sz, T, c1⟩ :: ([⟨ab, mulS acap 29, 177, ca'⟩] ++ (M ++ (⟨jb, mulS jcap 9, 228, cj'⟩ :: X)))) (perm_sum fun f => ?_) ⟨c1, _, M, _, rfl, hOut, ⟨?_, ?_, ?_⟩⟩
      · simp only [sumE, sumE_append]; omega
      · exact els_own (by rw [List.length_map, List.length_map]; exact hc1) (by rw [List.length_map, List.length_map]; exact hac) hEn
      · rw [hc2]; exact hW
      · intro x hx
        obtain ⟨y, hy, rfl⟩ := List.mem_map.1 hx
        exact hV.cd y hy
    · rintro i e' S2 - ⟨⟨ca', rfl, hE⟩, hi, hsl⟩
      refine W.slots _ hsl fun e => ?_
      by_cases hlt : i < V.ac.length
      · have hi' : i < ((partL coolA V.ac i).map VA.enc).length := by rw [List.length_map, partL_len]; exact hlt
        have hg0 : ((partL coolA V.ac i).map VA.enc).getD i [] = (V.ac.getD i dVA).enc := by rw [getD_map (d := dVA) (by rw [partL_len]; exact hlt), partL_get hlt]
        have hm := getD_mem (d := dVA) hlt
        have h20 := (hO.aok _ hm).bv
        have h20' := (hO.aok _ hm).len
        have hen : (((partL coolA V.ac i).map VA.enc).getD i []).getD 28 undef = .bool false := by
          rw [hg0]
          have h28 : (V.ac.getD i dVA).enc.getD 28 undef = .bool (V.ac.getD i dVA).gone := by
            unfold VA.enc
            rw [List.getD_eq_getElem?_getD, List.getElem?_append_right (by omega), h20]; rfl
          rw [h28, hg _ hm]
        have hrd : Rd ⟨I, ⟨cb, sz, T, c1⟩ :: ⟨jb, mulS jcap 9, 228, cj'⟩ :: ⟨ab, mulS acap 29, 177, ca'⟩ :: (M ++ X)⟩ ⟨ab, mulS acap 29, 177, ca'⟩ := .inr (by simp)
        repeat (first | (refine OpG.keep ?_; refine OpG.elF cok 2 rfl hE rfl rfl rfl rfl elO hi' (by decide) (u := .bool false) rfl rfl ?_) | (refine QuG.keep ?_; first | refine QuG.l1E cok 0 rfl rfl rfl rfl rfl (by first | exact Nat.le_of_ble_eq_true rfl | omega | (dsimp only; omega) | (simp only [addS_eq, mulS_eq]; omega)) (by assumption) ?_) | (refine QuG.keep ?_; refine QuG.elF cok hE hrd rfl rfl rfl rfl elO hi' (by decide) hen ?_) | refine SeqS.go cok ?_ | refine CondS.f rfl ?_ | refine And.intro (by omega) ?_ | (refine NatS.keep ?_; first | with_reducible refine NatS.nat ?_) | (refine CondS.keep ?_; first | refine CondS.d1 rfl (by omega) ?_))
        intro ca1 hE1
        rw [hg0] at hE1
        have hi1 : i < (((partL coolA V.ac i).map VA.enc).set i ((V.ac.getD i dVA).enc.set 26 (.bool false))).length := by rw [List.length_set]; exact hi'
        repeat (first | (refine OpG.keep ?_; refine OpG.elF cok 2 rfl hE1 rfl rfl rfl rfl elO hi1 (by decide) (u := .bool false) rfl rfl ?_) | refine SeqS.go cok ?_)
        intro ca2 hE2
        rw [getD_set hi', List.set_set] at hE2
        have hi2 : i < (((partL coolA V.ac i).map VA.enc).set i (((V.ac.getD i dVA).enc.set 26 (.bool false)).set 27 (.bool false))).length := by rw [List.length_set]; exact hi'
        repeat (first | (refine OpG.keep ?_; refine OpG.elF cok 2 rfl hE2 rfl rfl rfl rfl elO hi2 (by decide) (u := .bool false) rfl rfl ?_) | refine SeqS.go cok ?_)
        intro ca3 hE3
        rw [getD_set hi', List.set_set, coolA_enc h20', map_setM, partL_set hlt] at hE3
        repeat (first | refine SeqS.go cok ?_ | (refine ValS.keep ?_; first | (with_reducible refine ValS.kI64 ?_; first | (with_reducible refine ValS.addI64_L ?_ ?_ ; omega))))
        exact ⟨i + 1, Rel.same ⟨⟨ca3, rfl, hE3⟩, hlt, rfl, rfl, rfl, trivial⟩, by show V.ac.length - (i + 1) < V.ac.length - i; omega⟩
      · obtain rfl : i = V.ac.length := by omega
        rw [partL_end] at hE
        repeat (first | refine SeqS.go cok ?_ | (refine CondS.keep ?_; first | refine CondS.d0 rfl (by omega) ?_))
        exact ⟨ca', rfl, hE⟩
  · rintro i e' S2 - ⟨⟨c1, M, rfl, hOut, hc1, hc2, hW⟩, hi, hsl⟩
    refine W.slots _ hsl fun e => ?_
    by_cases hlt : i < V.sl.length
    · have hpl : i < ((partL coolS V.sl i).map VSl.enc).length := by rw [List.length_map, partL_len]; exact hlt
      obtain ⟨b, cap, cs, hv, hcap, rfl, hE⟩ := own_els hW (by omega)
      rw [List.length_map, partL_len] at hv hcap
      have hc3 : c1 2436 = HL.sl b 0 V.sl.length cap := hc2.trans hv
      have hi' := hpl
      have hg0 : ((partL coolS V.sl i).map VSl.enc).getD i [] = (V.sl.getD i dVS).enc := by rw [getD_map (d := dVS) (by rw [partL_len]; exact hlt), partL_get hlt]
      have hen : (((partL coolS V.sl i).map VSl.enc).getD i []).getD 0 undef = .int .i32 ((0 : Nat) : Int) := by rw [hg0]; rfl
      have hrd : Rd ⟨I, ⟨cb, sz, T, c1⟩ :: ⟨jb, mulS jcap 9, 228, cj'⟩ :: ⟨ab, mulS acap 29, 177, ca⟩ :: ⟨b, mulS cap 14, 186, cs⟩ :: X⟩ ⟨b, mulS cap 14, 186, cs⟩ := .inr (by simp)
      have hra : Rd ⟨I, ⟨cb, sz, T, c1⟩ :: ⟨jb, mulS jcap 9, 228, cj'⟩ :: ⟨ab, mulS acap 29, 177, ca⟩ :: ⟨b, mulS cap 14, 186, cs⟩ :: X⟩ ⟨ab, mulS acap 29, 177, ca⟩ := .inr (by simp)
      repeat (first | (refine OpG.keep ?_; refine OpG.elF cok 3 rfl hE rfl rfl rfl rfl elO hi' (by decide) (u := .bool false) rfl rfl ?_) | (refine QuG.keep ?_; first | refine QuG.l1E cok 0 rfl rfl rfl rfl rfl (by first | exact Nat.le_of_ble_eq_true rfl | omega | (dsimp only; omega) | (simp only [addS_eq, mulS_eq]; omega)) (by assumption) ?_) | (refine QuG.keep ?_; refine QuG.elF cok hE hrd rfl rfl rfl rfl elO hi' (by decide) hen ?_) | (refine QuG.keep ?_; refine QuG.elF cok hEa hra rfl rfl rfl rfl elO hia (by decide) hea ?_) | refine SeqS.go cok ?_ | refine GuardS.yes rfl ?_ | refine CondS.f rfl ?_ | refine And.intro (by omega) ?_ | (refine NatS.keep ?_; first | with_reducible refine NatS.nat ?_) | (refine ValS.keep ?_; first | (with_reducible refine ValS.kI64 ?_; first | (with_reducible refine ValS.convI64 ?_ ?_ ; omega))) | refine W.drawI 11 cok [0, 1, 3, 7, 15, 31, 63, 127, 255, 511, 1023, 63, 2111, 6207, 14399, 30783, 65535, 131071, 262143, 524287, 1048575, 2097151, 4194303, 524287, 8912895, 25690111, 59244543, 134217727, 268435455, 536870911, 1073741823] [0, 1, 2, 3, 4, 5, 6, 7, 8, 9, 10, 11, 12, 13, 14, 15, 16, 17, 18, 19, 20, 21, 22, 23, 24, 25, 26, 27, 28, 29, 30] [3, 9, 14, 22, 26, 29] (by kernel_rfl) (by kernel_rfl) ?_ | (refine GuardS.keep ?_; first | refine GuardS.T1 rfl (by omega) ?_) | (refine CondS.keep ?_; first | refine CondS.d1 rfl (by omega) ?_))
      intro cs1 hE1
      rw [hg0] at hE1
      have hi1 : i < (((partL coolS V.sl i).map VSl.enc).set i ((V.sl.getD i dVS).enc.set 13 (.bool false))).length := by rw [List.length_set]; exact hi'
      have hl5 : (((((partL coolS V.sl i).map VSl.enc).set i ((V.sl.getD i dVS).enc.set 13 (.bool false))).getD i []).drop 5).take 4 = wcs (V.sl.getD i dVS).val := by rw [getD_set hi']; rfl
      have hrd1 : Rd ⟨I, ⟨cb, sz, T, c1⟩ :: ⟨jb, mulS jcap 9, 228, cj'⟩ :: ⟨ab, mulS acap 29, 177, ca⟩ :: ⟨b, mulS cap 14, 186, cs1⟩ :: X⟩ ⟨b, mulS cap 14, 186, cs1⟩ := .inr (by simp)
      repeat (first | (refine QuG.keep ?_; refine QuG.elS cok hE1 hrd1 rfl rfl rfl rfl elO hi1 (by decide) hl5 ?_) | (refine OpG.keep ?_; refine OpG.elS cok 3 rfl hE1 rfl rfl rfl elO hi1 (vs := wcs (V.sl.getD i dVS).val) rfl rfl (Nat.le_of_ble_eq_true rfl) (wcs_one _) ?_) | refine SeqS.go cok ?_)
      intro cs2 hE2
      rw [getD_set hi', List.set_set, coolS_enc, map_setM, partL_set hlt] at hE2
      repeat (first | refine SeqS.go cok ?_ | (refine ValS.keep ?_; first | (with_reducible refine ValS.kI64 ?_; first | (with_reducible refine ValS.addI64_L ?_ ?_ ; omega))))
      exact ⟨i + 1, Rel.same ⟨⟨c1, [_], rfl, hOut, hc1, hc2, els_own (by rw [List.length_map, partL_len]; exact hv) (by rw [List.length_map, partL_len]; exact hcap) hE2⟩, hlt, rfl, rfl, rfl, trivial⟩, by show V.sl.length - (i + 1) < V.sl.length - i; omega⟩
    · obtain rfl : i = V.sl.length := by omega
      rw [partL_end] at hW
      repeat (first | refine SeqS.go cok ?_ | (refine CondS.keep ?_; first | refine CondS.d0 rfl (by omega) ?_))
      exact ⟨⟨c1, M, rfl, hOut, hc1, hc2, hW⟩, rfl, trivial⟩
end Go.Proofs.YgvafwGreat
