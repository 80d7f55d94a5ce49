import Derived.Test.YgvafwGreatV24
set_option exponentiation.threshold 1000
set_option maxRecDepth 100000
set_option maxHeartbeats 4000000
set_option linter.unusedVariables false
set_option linter.unusedSimpArgs false
-- v2
-- v4
-- v5
-- v6
-- v7
-- plus: (refine QuG.keep ?_; refine QuG.elS cok hEA hrd rfl rfl rfl rfl elO0 hiA (by decide) hlA ?_)
-- plus: (refine QuG.keep ?_; refine QuG.elS cok hEB hrd rfl rfl rfl rfl elO0 hjB (by decide) hlB ?_)
namespace Go.Proofs.YgvafwGreat
open Go.HL Go.Proofs

/-- A merge underway. -/
def MgP (I : Ent → Prop) (G : List Ent) (tb tsz fb fsz oo : Nat) (T TF : TypeId) (ct cf : Nat → Value) (A B : List SK) (k i j : Nat) (S' : St) : Prop :=
  ∃ (ct' : Nat → Value) (O : List SK), S' = ⟨I, ⟨tb, tsz, T, ct'⟩ :: ⟨fb, fsz, TF, cf⟩ :: G⟩ ∧ k = i + j ∧ i ≤ A.length ∧ j ≤ B.length ∧ O.length = k ∧ O ++ List.merge (A.drop i) (B.drop j) leK = List.merge A B leK ∧ Row ct' oo (O.map SK.enc).flatten ∧ ∀ p, p < oo ∨ oo + (A.length + B.length) * 6 ≤ p → ct' p = ct p
theorem mg_next {ct ct' : Nat → Value} {oo k n : Nat} {A B O : List SK} {x : SK} (hk : k < n) (hO : O.length = k) (hr : Row ct' oo (O.map SK.enc).flatten) (hf : ∀ p, p < oo ∨ oo + n * 6 ≤ p → ct' p = ct p) : Row (HL.updN ct' (addS oo (mulS k 6)) x.enc) oo ((O ++ [x]).map SK.enc).flatten ∧ ∀ p, p < oo ∨ oo + n * 6 ≤ p → HL.updN ct' (addS oo (mulS k 6)) x.enc p = ct p := by
  rw [addS_eq, mulS_eq]
  refine ⟨?_, fun p hp => ?_⟩
  · rw [List.map_append]
    exact row_snocO hr (fun l hl => by obtain ⟨y, _, rfl⟩ := List.mem_map.1 hl; rfl) (by rw [List.length_map]; exact hO)
  · have : x.enc.length = 6 := rfl
    simp only [HL.updN, this]
    rw [if_neg (by omega)]
    exact hf p hp
theorem mg_bound {oo k n tsz : Nat} (hk : k < n) (ho : oo + n * 6 ≤ tsz) : addS oo (mulS k 6) + 6 ≤ tsz := by rw [addS_eq, mulS_eq]; omega
/-- vault.merge -/
theorem vMerge {I : Ent → Prop} {G : List Ent} {tb tsz fb fsz oo oa ob n : Nat} {T TF : TypeId} {ct cf : Nat → Value} {A B : List SK} {rk : Nat} (hEA : Els ⟨fb, fsz, TF, cf⟩ oa 6 (A.map SK.enc)) (hEB : Els ⟨fb, fsz, TF, cf⟩ ob 6 (B.map SK.enc)) (hn : n = A.length + B.length) (ho : oo + n * 6 ≤ tsz) (hA : ∀ x ∈ A, x.rk = rk ∧ x.w < 115792089237316195423570985008687907853269984665640564039457584007913129639936) (hB : ∀ x ∈ B, x.rk = rk ∧ x.w < 115792089237316195423570985008687907853269984665640564039457584007913129639936) (hrk : rk = 0 ∨ rk = 1) (hln : n < 2 ^ 20) :
    CallG Hvaf.prog 167 #[HL.sl tb oo n n, HL.sl fb oa A.length A.length, HL.sl fb ob B.length B.length] ⟨I, ⟨tb, tsz, T, ct⟩ :: ⟨fb, fsz, TF, cf⟩ :: G⟩ fun r S' => ∃ ct', S' = ⟨I, ⟨tb, tsz, T, ct'⟩ :: ⟨fb, fsz, TF, cf⟩ :: G⟩ ∧ Row ct' oo ((List.merge A B leK).map SK.enc).flatten ∧ ∀ p, p < oo ∨ oo + n * 6 ≤ p → ct' p = ct p := by
  refine CallG.start (C := mkC Hvaf.prog) cok (args := [HL.sl tb oo n n, HL.sl fb oa A.length A.length, HL.sl fb ob B.length B.length]) Hvaf.func167 rfl Hvaf.ntmps167 (by simp) (by kernel_rfl) ?_
  repeat (first | refine SeqS.go cok ?_)
  refine W.loopF cok (by kernel_rfl) 0 (fun (k : Nat) e' S' => ∃ i j, MgP I G tb tsz fb fsz oo T TF ct cf A B k i j S' ∧ slots [(0, HL.sl tb oo n n), (1, HL.sl fb oa A.length A.length), (2, HL.sl fb ob B.length B.length), (6, .int .i64 (i : Nat)), (7, .int .i64 (j : Nat)), (10, .int .i64 (n : Nat)), (11, .int .i64 (k : Nat))] e') (fun k => n - k) 0
    (Rel.same ⟨0, 0, ⟨ct, [], rfl, rfl, Nat.zero_le _, Nat.zero_le _, rfl, rfl, ⟨fun i hi => absurd hi (by simp)⟩, fun _ _ => rfl⟩, rfl, rfl, rfl, rfl, rfl, rfl, rfl, trivial⟩) (fun e' S' => ∃ i j, MgP I G tb tsz fb fsz oo T TF ct cf A B n i j S') ?_ ?_
  · rintro e' S2 - ⟨i, j, ct', O, rfl, hk, hi, hj, hOl, hOm, hr, hf⟩
    skip
    have hOe : O = List.merge A B leK := by
      rw [List.drop_eq_nil_of_le (by omega), List.drop_eq_nil_of_le (by omega)] at hOm
      simpa using hOm
    refine Fin.same ⟨ct', rfl, hOe ▸ hr, fun p hp => hf p (by rw [hn] at hp; exact hp)⟩
  · rintro k e' S2 - ⟨i, j, ⟨ct', O, rfl, hk, hi, hj, hOl, hOm, hr, hf⟩, hsl⟩
    rw [← hn] at hf
    refine W.slots _ hsl fun e => ?_
    by_cases hlt : k < n
    · have hrd : Rd ⟨I, ⟨tb, tsz, T, ct'⟩ :: ⟨fb, fsz, TF, cf⟩ :: G⟩ ⟨fb, fsz, TF, cf⟩ := .inr (by simp)
      have hbd := mg_bound hlt ho
      by_cases hjB' : j < B.length
      · have hjB : j < (B.map SK.enc).length := by rw [List.length_map]; exact hjB'
        have hlB := mapK_get hjB'
        have hnxB := fun h => mg_next (ct := ct) (A := A) (B := B) (x := B.getD j dK) hlt hOl hr h
        have hmemB : B.getD j dK ∈ B := by rw [List.getD_eq_getElem?_getD, List.getElem?_eq_getElem hjB']; exact List.getElem_mem _
        by_cases hiA' : i < A.length
        · have hiA : i < (A.map SK.enc).length := by rw [List.length_map]; exact hiA'
          have hlA := mapK_get hiA'
          have hmemA : A.getD i dK ∈ A := by rw [List.getD_eq_getElem?_getD, List.getElem?_eq_getElem hiA']; exact List.getElem_mem _
          obtain ⟨ra, fa⟩ := els_row hEA hiA'
          obtain ⟨rb, fb'⟩ := els_row hEB hjB'
          have hbf := vBefore hrd rb ra fb' fa (hB _ hmemB).1 (hA _ hmemA).1 hrk (hB _ hmemB).2 (hA _ hmemA).2
          by_cases hw : (B.getD j dK).w < (A.getD i dK).w
          · rw [decide_eq_true hw] at hbf
            repeat (first | refine SeqS.go cok ?_ | refine GuardS.yes rfl ?_ | refine And.intro (by omega) ?_ | (refine NatS.keep ?_; first | with_reducible refine NatS.nat ?_) | refine W.drawI 5 cok [0, 0, 2, 7, 15, 31, 31, 95, 255, 511, 1023, 1023, 4095, 1023, 1023, 25599, 65535, 131071, 262143, 524287] [0, 1, 2, 3, 4, 5, 6, 7, 8, 9, 10, 11, 12, 13, 14, 15, 16, 17, 18, 19] [] (by kernel_rfl) (by kernel_rfl) ?_ | (refine GuardS.keep ?_; first | refine GuardS.T1 rfl (by omega) ?_ | refine GuardS.F0 rfl (by omega) ?_) | (refine CondS.keep ?_; first | refine CondS.d1 rfl (by omega) ?_))
            refine hbf.mono ?_
            rintro r _ - ⟨rfl, rfl⟩
            repeat (first | (refine QuG.keep ?_; refine QuG.elS cok hEB hrd rfl rfl rfl rfl elO0 hjB (by decide) hlB ?_) | refine SeqS.go cok ?_ | refine GuardS.yes rfl ?_ | refine CondS.f rfl ?_ | refine And.intro (by omega) ?_ | (refine NatS.keep ?_; first | with_reducible refine NatS.nat ?_) | (refine ValS.keep ?_; first | (with_reducible refine ValS.kI64 ?_; first | (with_reducible refine ValS.addI64_L ?_ ?_ ; omega))) | (refine OpG.keep ?_; first | refine OpG.sL cok 0 rfl rfl rfl rfl rfl rfl rfl (by first | exact Nat.le_of_ble_eq_true rfl | omega | (dsimp only; omega) | (simp only [addS_eq, mulS_eq]; omega)) ?_))
            refine ⟨k + 1, Rel.same ⟨i, j + 1, ⟨_, O ++ [B.getD j dK], rfl, by omega, hi, hjB', by rw [List.length_append, hOl]; rfl, ?_, (hnxB hf).1, by rw [← hn]; exact (hnxB hf).2⟩, rfl, rfl, rfl, rfl, rfl, rfl, rfl, trivial⟩, by show n - (k + 1) < n - k; omega⟩
            rw [List.append_assoc, List.singleton_append, ← mergeB hjB' (.inr ⟨hiA', hw⟩)]; exact hOm
          · rw [decide_eq_false hw] at hbf
            repeat (first | refine SeqS.go cok ?_ | refine GuardS.yes rfl ?_ | refine And.intro (by omega) ?_ | (refine NatS.keep ?_; first | with_reducible refine NatS.nat ?_) | refine W.drawI 5 cok [0, 0, 2, 7, 15, 31, 31, 95, 255, 511, 1023, 1023, 4095, 1023, 1023, 25599, 65535, 131071, 262143, 524287] [0, 1, 2, 3, 4, 5, 6, 7, 8, 9, 10, 11, 12, 13, 14, 15, 16, 17, 18, 19] [] (by kernel_rfl) (by kernel_rfl) ?_ | (refine GuardS.keep ?_; first | refine GuardS.T1 rfl (by omega) ?_ | refine GuardS.F0 rfl (by omega) ?_) | (refine CondS.keep ?_; first | refine CondS.d1 rfl (by omega) ?_))
            refine hbf.mono ?_
            rintro r _ - ⟨rfl, rfl⟩
            repeat (first | (refine QuG.keep ?_; refine QuG.elS cok hEA hrd rfl rfl rfl rfl elO0 hiA (by decide) hlA ?_) | refine SeqS.go cok ?_ | refine GuardS.yes rfl ?_ | refine CondS.t rfl ?_ | refine And.intro (by omega) ?_ | (refine NatS.keep ?_; first | with_reducible refine NatS.nat ?_) | (refine ValS.keep ?_; first | (with_reducible refine ValS.kI64 ?_; first | (with_reducible refine ValS.addI64_L ?_ ?_ ; omega))) | (refine OpG.keep ?_; first | refine OpG.sL cok 0 rfl rfl rfl rfl rfl rfl rfl (by first | exact Nat.le_of_ble_eq_true rfl | omega | (dsimp only; omega) | (simp only [addS_eq, mulS_eq]; omega)) ?_))
            have hnxA := mg_next (ct := ct) (A := A) (B := B) (x := A.getD i dK) hlt hOl hr hf
            refine ⟨k + 1, Rel.same ⟨i + 1, j, ⟨_, O ++ [A.getD i dK], rfl, by omega, hiA', hj, by rw [List.length_append, hOl]; rfl, ?_, hnxA.1, by rw [← hn]; exact hnxA.2⟩, rfl, rfl, rfl, rfl, rfl, rfl, rfl, trivial⟩, by show n - (k + 1) < n - k; omega⟩
            rw [List.append_assoc, List.singleton_append, ← mergeA hiA' (.inr ⟨hjB', hw⟩)]; exact hOm
        · repeat (first | (refine QuG.keep ?_; refine QuG.elS cok hEB hrd rfl rfl rfl rfl elO0 hjB (by decide) hlB ?_) | refine SeqS.go cok ?_ | refine GuardS.yes rfl ?_ | refine GuardS.no rfl ?_ | refine CondS.f rfl ?_ | refine And.intro (by omega) ?_ | (refine NatS.keep ?_; first | with_reducible refine NatS.nat ?_) | (refine ValS.keep ?_; first | (with_reducible refine ValS.kI64 ?_; first | (with_reducible refine ValS.addI64_L ?_ ?_ ; omega))) | (refine OpG.keep ?_; first | refine OpG.sL cok 0 rfl rfl rfl rfl rfl rfl rfl (by first | exact Nat.le_of_ble_eq_true rfl | omega | (dsimp only; omega) | (simp only [addS_eq, mulS_eq]; omega)) ?_) | refine W.drawI 5 cok [0, 0, 2, 7, 15, 31, 31, 95, 255, 511, 1023, 1023, 4095, 1023, 1023, 25599, 65535, 131071, 262143, 524287] [0, 1, 2, 3, 4, 5, 6, 7, 8, 9, 10, 11, 12, 13, 14, 15, 16, 17, 18, 19] [] (by kernel_rfl) (by kernel_rfl) ?_ | (refine GuardS.keep ?_; first | refine GuardS.T0 rfl (by omega) ?_ | refine GuardS.F0 rfl (by omega) ?_) | (refine CondS.keep ?_; first | refine CondS.d1 rfl (by omega) ?_))
          refine ⟨k + 1, Rel.same ⟨i, j + 1, ⟨_, O ++ [B.getD j dK], rfl, by omega, hi, hjB', by rw [List.length_append, hOl]; rfl, ?_, (hnxB hf).1, by rw [← hn]; exact (hnxB hf).2⟩, rfl, rfl, rfl, rfl, rfl, rfl, rfl, trivial⟩, by show n - (k + 1) < n - k; omega⟩
          rw [List.append_assoc, List.singleton_append, ← mergeB hjB' (.inl (by omega))]; exact hOm
      · have hiA' : i < A.length := by omega
        have hiA : i < (A.map SK.enc).length := by rw [List.length_map]; exact hiA'
        have hlA := mapK_get hiA'
        repeat (first | (refine QuG.keep ?_; refine QuG.elS cok hEA hrd rfl rfl rfl rfl elO0 hiA (by decide) hlA ?_) | refine SeqS.go cok ?_ | refine GuardS.no rfl ?_ | refine GuardS.U rfl ?_ | refine CondS.t rfl ?_ | refine And.intro (by omega) ?_ | (refine NatS.keep ?_; first | with_reducible refine NatS.nat ?_) | (refine ValS.keep ?_; first | (with_reducible refine ValS.kI64 ?_; first | (with_reducible refine ValS.addI64_L ?_ ?_ ; omega))) | (refine OpG.keep ?_; first | refine OpG.sL cok 0 rfl rfl rfl rfl rfl rfl rfl (by first | exact Nat.le_of_ble_eq_true rfl | omega | (dsimp only; omega) | (simp only [addS_eq, mulS_eq]; omega)) ?_) | refine W.drawI 5 cok [0, 0, 2, 7, 15, 31, 31, 95, 255, 511, 1023, 1023, 4095, 1023, 1023, 25599, 65535, 131071, 262143, 524287] [0, 1, 2, 3, 4, 5, 6, 7, 8, 9, 10, 11, 12, 13, 14, 15, 16, 17, 18, 19] [] (by kernel_rfl) (by kernel_rfl) ?_ | (refine GuardS.keep ?_; first | refine GuardS.F1 rfl (by omega) ?_) | (refine CondS.keep ?_; first | refine CondS.d1 rfl (by omega) ?_))
        have hnxA := mg_next (ct := ct) (A := A) (B := B) (x := A.getD i dK) hlt hOl hr hf
        refine ⟨k + 1, Rel.same ⟨i + 1, j, ⟨_, O ++ [A.getD i dK], rfl, by omega, hiA', hj, by rw [List.length_append, hOl]; rfl, ?_, hnxA.1, by rw [← hn]; exact hnxA.2⟩, rfl, rfl, rfl, rfl, rfl, rfl, rfl, trivial⟩, by show n - (k + 1) < n - k; omega⟩
        rw [List.append_assoc, List.singleton_append, ← mergeA hiA' (.inl (by omega))]; exact hOm
    · obtain rfl : k = n := by omega
      repeat (first | refine SeqS.go cok ?_ | (refine CondS.keep ?_; first | refine CondS.d0 rfl (by omega) ?_))
      exact ⟨i, j, ct', O, rfl, hk, hi, hj, hOl, hOm, hr, by rw [← hn]; exact hf⟩
end Go.Proofs.YgvafwGreat
