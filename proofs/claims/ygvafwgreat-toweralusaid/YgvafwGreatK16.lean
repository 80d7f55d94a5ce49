import Derived.Test.YgvafwGreatK15
import Derived.Test.YgvafwGreatE4
set_option maxRecDepth 100000
set_option maxHeartbeats 4000000
set_option linter.unusedVariables false
set_option linter.unusedSimpArgs false
-- v2
-- v4
-- v5
-- v6
-- v7
namespace Go.Proofs.YgvafwGreat
open Go.HL Go.Proofs
theorem Byt.part {S : St} {x : Ent} {o : Nat} {ds : List Nat} (h8 : ∀ d ∈ ds, d < 256) (hx : Rd S x) (hb : Bs x o ds) {om m : Nat} (ho : om = o + m) (hm : m + 136 ≤ ds.length) : Byt S (sl x.b om 136 136) ((ds.drop m).take 136) := by
  have hl : ((ds.drop m).take 136).length = 136 := by simp; omega
  refine ⟨fun d hd => h8 d (List.mem_of_mem_drop (List.mem_of_mem_take hd)), by rw [hl]; decide, _, 136, by rw [hl]; rfl, by rw [hl]; exact Nat.le_refl _, by decide, .inr ⟨x, om, rfl, hx, ?_⟩⟩
  subst ho
  refine ⟨by rw [hl]; have := hb.1; omega, fun i hi => ?_⟩
  rw [hl] at hi
  rw [drop_take hm hi, Nat.add_assoc]
  exact hb.2 _ (by omega)
theorem Byt.last {S : St} {x : Ent} {ps : List Nat} (h8 : ∀ d ∈ ps, d < 256) (hl : ps.length = 136) (hx : Rd S x) (hb : Bs x 0 ps) : Byt S (sl x.b 0 136 136) ps :=
  ⟨h8, by rw [hl]; decide, _, 136, by rw [hl]; rfl, by rw [hl]; exact Nat.le_refl _, by decide, .inr ⟨x, 0, rfl, hx, hb⟩⟩
theorem _root_.Go.HL.ValS.cast {v v' : Value} {q : Value → Prop} (h : v = v') (hq : q v') : ValS v q := ⟨by rw [h]; exact hq⟩
/-- keccak.Sum, data with a block -/
theorem kSumY {I : Ent → Prop} {G : List Ent} {x : Ent} {o cap : Nat} {ds : List Nat} (h8 : ∀ d ∈ ds, d < 256) (hx : Rd ⟨I, G⟩ x) (hbs : Bs x o ds) (hcap : ds.length ≤ cap) (hc63 : cap < 2 ^ 63) (hl : ds.length < 2 ^ 30) :
    CallG Hvaf.prog 176 #[.slice (some ⟨x.b, o, none⟩) ds.length cap] ⟨I, G⟩ fun r S' => ⟨I, G⟩ = S' ∧ r = bytesV (kecL ds) := by
  have hx1 := hbs.1
  have hx2 : ∀ k, k < ds.length → x.c (o + k) = .int .u8 (ds.getD k 0 : Nat) := hbs.2
  refine CallG.start (C := mkC Hvaf.prog) cok (args := [.slice (some ⟨x.b, o, none⟩) ds.length cap]) Hvaf.func176 rfl Hvaf.ntmps176 (by simp) (by kernel_rfl) ?_
  intro ob
  repeat (first | refine SeqS.go cok ?_)
  intro ab
  repeat (first | refine SeqS.go cok ?_)
  refine W.loopE cok (by kernel_rfl) 0 (fun (m : Nat) e' S' => ∃ ca om, S' = ⟨I, ⟨ab, 25, 328, ca⟩ :: ⟨ob, 32, 22, z_int__u8_0⟩ :: G⟩ ∧ 136 * m ≤ ds.length ∧ LC ca (stL ds m) ∧ om ≤ x.sz ∧ (136 * m < ds.length → om = o + 136 * m) ∧ slots [(0, .slice (some ⟨x.b, om, none⟩) (ds.length - 136 * m) (cap - 136 * m)), (2, ptr ob 0), (3, ptr ab 0)] e') (fun m => ds.length - 136 * m) 0
    ⟨_, o, rfl, by omega, ⟨fun i hi => rfl⟩, by omega, fun _ => rfl, rfl, rfl, rfl, trivial⟩
    (fun e' S' => ∃ ca om, S' = ⟨I, ⟨ab, 25, 328, ca⟩ :: ⟨ob, 32, 22, z_int__u8_0⟩ :: G⟩ ∧ LC ca (stL ds (ds.length / 136)) ∧ om ≤ x.sz ∧ (136 * (ds.length / 136) < ds.length → om = o + 136 * (ds.length / 136)) ∧ slots [(0, .slice (some ⟨x.b, om, none⟩) (ds.length - 136 * (ds.length / 136)) (cap - 136 * (ds.length / 136))), (2, ptr ob 0), (3, ptr ab 0)] e') ?_ ?_
  · rintro e' S2 - ⟨ca, om, rfl, hC, hom, hom2, hsl⟩
    obtain ⟨r, hr⟩ : ∃ r, r = ds.length - 136 * (ds.length / 136) := ⟨_, rfl⟩
    obtain ⟨M, hM⟩ : ∃ M, M = ds.length / 136 := ⟨_, rfl⟩
    have hr136 : r < 136 := by omega
    have hxr : ∀ i, i < r → x.c (om + i) = .int .u8 (ds.getD (136 * (ds.length / 136) + i) 0 : Nat) := fun i hi => by
      rw [hom2 (by omega), Nat.add_assoc]; exact hx2 _ (by omega)
    have hxs : om + r ≤ x.sz := by
      by_cases h0 : r = 0
      · omega
      · have := hom2 (by omega); omega
    have hbs2 := fun lb => last_bs (lb := lb) (T := 332) (z := z_int__u8_0) (k := if r = 135 then 1 else 0) hr (fun _ _ => rfl) hxr rfl
    have hst := st_last ds
    have hlim := lim_st h8 (ds.length / 136)
    have hl8 := lastP_lt h8
    have hll := lastP_len ds
    generalize lastP ds = ps at *
    have hk : (if r = 135 then 1 else 0 : Nat) < 256 := by split <;> decide
    have h135 : upd (updN z_int__u8_0 0 (cellsFrom x.c om (mulS r 1))) (addS 0 (mulS r 1)) (.int .u8 ((1 : Nat) : Int)) (addS 0 (mulS 135 1)) = .int .u8 ((if r = 135 then 1 else 0 : Nat) : Int) := by
      rw [addS_mulS _ _ _ rfl, addS_mulS _ _ _ rfl, Nat.zero_add, Nat.zero_add, updN_cellsFrom, mulS_eq, Nat.mul_one]
      by_cases h5 : r = 135
      · rw [if_pos h5, h5, updEqK]
      · rw [if_neg h5, updNeK (by omega)]
        show (if 0 ≤ 135 ∧ 135 < 0 + r then _ else _) = _
        rw [if_neg (by omega)]; rfl
    generalize (if r = 135 then 1 else 0 : Nat) = kk at *
    rw [← hr] at hsl
    generalize hM' : ds.length / 136 = M' at *
    refine SeqS.slots cok _ hsl fun e => ?_
    skip
    intro lb
    repeat (first | refine SeqS.go cok ?_ | refine And.intro (Eq.refl true) ?_ | (refine ValS.keep ?_; first | with_reducible refine ValS.sl0 ?_))
    refine OpG.keep ?_
    refine OpG.copyQ cok 0 (q := r) (by show min r 136 = r; omega) rfl (y := x) (hx.mono (fun _ h => h) (fun y h => by simp [h])) rfl rfl rfl rfl rfl rfl rfl ?_ ?_ ?_ ?_
    · show 0 + mulS r 1 ≤ 136; rw [mulS_eq]; omega
    · show om + mulS r 1 ≤ x.sz; rw [mulS_eq]; omega
    · intro p hp
      have hp : p < mulS r 1 := hp
      rw [mulS_eq] at hp
      show one (x.c (om + p)) = true
      rw [hxr p (by omega)]; rfl
    repeat (first | (refine QuG.keep ?_; first | refine QuG.l1E cok 0 rfl rfl rfl rfl rfl (by first | exact Nat.le_of_ble_eq_true rfl | omega | (dsimp only; omega) | (simp only [addS_eq, mulS_eq]; omega)) (by assumption) ?_) | refine SeqS.go cok ?_ | refine And.intro (by omega) ?_ | refine And.intro (by dsimp only; omega) ?_ | (refine NatS.keep ?_; first | with_reducible refine NatS.lit ?_ | with_reducible refine NatS.nat ?_) | (refine ValS.keep ?_; first | (with_reducible refine ValS.kU8 ?_; first | (with_reducible refine ValS.orU8_L ?_ ?_ ?_ ; omega; omega))) | (refine OpG.keep ?_; first | refine OpG.s1 cok 0 rfl rfl rfl rfl rfl (by first | exact Nat.le_of_ble_eq_true rfl | omega | (dsimp only; omega) | (simp only [addS_eq, mulS_eq]; omega)) rfl rfl ?_))
    refine CallG.focus 1 rfl ?_
    refine (kAbsorb (I := I) (ab := ab) (T := 328) (Nat.le_refl 25) hC hlim (Byt.last (x := ⟨lb, 136, 332, _⟩) hl8 hll (.inr List.mem_cons_self) (hbs2 lb)) hll).mono ?_
    rintro _ _ - ⟨c1, rfl, h1⟩
    rw [← hst] at h1
    have hlm := lim_st h8 (M' + 1)
    repeat (first | refine SeqS.go cok ?_)
    intro fb
    repeat (first | refine SeqS.go cok ?_)
    have hkl := kecF_len ds
    have hkst := fun i hi => kecF_step (ds := ds) (i := i) (z := z_int__u8_0) hi (by rw [hM']; exact hlm i)
    rw [hM'] at hkst
    refine W.loopE cok (by kernel_rfl) 2 (fun (i : Nat) e' S' => ∃ cl, S' = ⟨I, ⟨fb, 32, 22, updN z_int__u8_0 0 (ivs .u8 (kecF ds i))⟩ :: ⟨ab, 25, 328, c1⟩ :: ⟨lb, 136, 332, cl⟩ :: ⟨ob, 32, 22, z_int__u8_0⟩ :: G⟩ ∧ i ≤ 4 ∧ slots [(2, ptr ob 0), (3, ptr ab 0), (5, ptr fb 0), (6, .int .i64 (i : Nat))] e') (fun i => 4 - i) 0
      ⟨upd (upd (updN z_int__u8_0 0 (cellsFrom x.c om (mulS r 1))) (addS 0 (mulS r 1)) (.int .u8 ((1 : Nat) : Int))) (addS 0 (mulS 135 1)) (.int .u8 ((kk ||| 128 : Nat) : Int)), ?_, Nat.zero_le _, rfl, rfl, rfl, rfl, trivial⟩
      (fun e' S' => ∃ cl, S' = ⟨I, ⟨fb, 32, 22, updN z_int__u8_0 0 (ivs .u8 (kecF ds 4))⟩ :: ⟨ab, 25, 328, c1⟩ :: ⟨lb, 136, 332, cl⟩ :: ⟨ob, 32, 22, z_int__u8_0⟩ :: G⟩ ∧ slots [(2, ptr ob 0), (5, ptr fb 0)] e') ?_ ?_
    · refine congrArg (fun c => (⟨I, ⟨fb, 32, 22, c⟩ :: ⟨ab, 25, 328, c1⟩ :: ⟨lb, 136, 332, _⟩ :: ⟨ob, 32, 22, z_int__u8_0⟩ :: G⟩ : St)) (updN_self ⟨fun p hp => ?_⟩).symm
      have hp2 : p < 32 := by simpa [ivs, hkl] using hp
      rw [kecF_get hp2, if_neg (by omega)]; rfl
    · rintro e' S2 - ⟨cl, rfl, hsl⟩
      rw [kecF_end]
      have hl : (ivs .u8 (kecL ds)).length = 32 := by simp [kecL]
      have ho : ∀ u ∈ ivs .u8 (kecL ds), one u = true := by intro u hu; obtain ⟨d, _, rfl⟩ := List.mem_map.1 hu; rfl
      refine SeqS.slots cok _ hsl fun e => ?_
      repeat (first | (refine QuG.keep ?_; first | refine QuG.upL cok 0 rfl rfl rfl rfl rfl rfl (by assumption) (by first | exact Nat.le_of_ble_eq_true rfl | omega) ?_) | (refine OpG.keep ?_; first | refine OpG.upS cok 3 rfl rfl rfl rfl rfl (by assumption) (by first | assumption | exact one_bvs _) (by first | exact Nat.le_of_ble_eq_true rfl | omega) ?_) | (refine LdG.keep ?_; first | refine LdG.upL cok 3 rfl rfl rfl rfl rfl rfl (by assumption) (by first | exact Nat.le_of_ble_eq_true rfl | omega) ?_) | refine SeqS.go cok ?_)
      exact Fin.drop G [_, _, _, _] ⟨rfl, rfl⟩
    · rintro i e' S2 - ⟨cl, rfl, hi, hsl⟩
      refine W.slots _ hsl fun e => ?_
      by_cases hlt : i < 4
      · have hlv := h1.at (o := addS 0 (mulS i 1)) (by rw [addS_mulS _ _ _ rfl, Nat.zero_add]) (show i < 25 by omega)
        have hai : stL ds (M' + 1) i < 18446744073709551616 := hlm i
        have hst2 := hkst i hlt
        have htl : trnN (stL ds (M' + 1) i) < 18446744073709551616 := trnN_lt
        generalize stL ds (M' + 1) i = ai at *
        repeat (first | (refine QuG.keep ?_; first | refine QuG.l1E cok 1 rfl rfl rfl rfl rfl (by first | exact Nat.le_of_ble_eq_true rfl | omega | (dsimp only; omega) | (simp only [addS_eq, mulS_eq]; omega)) (by assumption) ?_) | refine SeqS.go cok ?_ | refine And.intro (Eq.refl true) ?_ | refine And.intro (by dsimp only; omega) ?_ | (refine NatS.keep ?_; first | with_reducible refine NatS.nat ?_) | (refine ValS.keep ?_; first | (with_reducible refine ValS.kI64 ?_; first | (with_reducible refine ValS.mulI64_M ?_ ?_ ; omega)) | with_reducible refine ValS.sl0 ?_) | refine W.drawI 14 cok [0, 0, 2, 0, 8, 24, 56, 127] [0, 1, 2, 3, 4, 5, 6, 7] [5] (by kernel_rfl) (by kernel_rfl) ?_ | (refine CondS.keep ?_; first | refine CondS.d1 rfl (by omega) ?_))
        refine (kTurned hai).mono ?_
        rintro r _ - ⟨rfl, rfl⟩
        repeat (first | (refine still_in ?_; first | refine still_nil ?_ | refine still_drop (by decide) ?_))
        refine (PutBE64_spec (len := 32) (cap := 32) (off := 8 * i) (x := ⟨fb, 32, 22, _⟩) (by omega) (Nat.le_refl _) (Nat.le_refl _) (by decide) htl).mono ?_
        rintro r _ - ⟨rfl, rfl⟩
        repeat (first | refine SeqS.go cok ?_ | (refine ValS.keep ?_; first | (with_reducible refine ValS.kI64 ?_; first | (with_reducible refine ValS.addI64_L ?_ ?_ ; omega))) | (refine still_in ?_; first | refine still_drop (by decide) ?_))
        exact ⟨i + 1, ⟨cl, congrArg (fun c => (⟨I, ⟨fb, 32, 22, c⟩ :: ⟨ab, 25, 328, c1⟩ :: ⟨lb, 136, 332, cl⟩ :: ⟨ob, 32, 22, z_int__u8_0⟩ :: G⟩ : St)) hst2, hlt, rfl, rfl, rfl, rfl, trivial⟩, by show 4 - (i + 1) < 4 - i; omega⟩
      · obtain rfl : i = 4 := by omega
        repeat (first | refine SeqS.go cok ?_ | refine CondS.f rfl ?_)
        exact ⟨cl, rfl, rfl, rfl, trivial⟩
  · rintro m e' S2 - ⟨ca, om, rfl, hm, hC, hom, hom2, hsl⟩
    refine W.slots _ hsl fun e => ?_
    by_cases hlt : 136 * m + 136 ≤ ds.length
    · have hb := Byt.part (S := ⟨I, ⟨ob, 32, 22, z_int__u8_0⟩ :: G⟩) h8 (hx.mono (fun _ h => h) (fun y h => List.mem_cons_of_mem _ h)) hbs (hom2 (by omega)) hlt
      have hab := kAbsorb (I := I) (ab := ab) (T := 328) (Nat.le_refl 25) hC (lim_st h8 m) hb (by simp; omega)
      rw [← st_full hlt] at hab
      by_cases hcz : cap - 136 * m = 136
      · have hsv : Value.slice (some ⟨x.b, if cap - 136 * m = 136 then om else addS om (mulS 136 1), none⟩) (ds.length - 136 * m - 136) (cap - 136 * m - 136) = .slice (some ⟨x.b, om, none⟩) (ds.length - 136 * (m + 1)) (cap - 136 * (m + 1)) := by
          rw [if_pos hcz, show ds.length - 136 * m - 136 = ds.length - 136 * (m + 1) by omega, show cap - 136 * m - 136 = cap - 136 * (m + 1) by omega]
        repeat (first | refine SeqS.go cok ?_ | refine And.intro (Eq.refl true) ?_ | refine And.intro (by omega) ?_ | refine And.intro (by dsimp only; omega) ?_ | (refine NatS.keep ?_; first | with_reducible refine NatS.lit ?_) | (refine ValS.keep ?_; first | with_reducible refine ValS.sl0 ?_) | (refine CondS.keep ?_; first | refine CondS.d1 rfl (by omega) ?_))
        refine hab.mono ?_
        rintro r _ - ⟨c1, rfl, h1⟩
        repeat (first | refine SeqS.go cok ?_ | refine And.intro (Eq.refl true) ?_ | refine And.intro (by omega) ?_ | (refine NatS.keep ?_; first | with_reducible refine NatS.lit ?_))
        refine ValS.cast hsv ?_
        skip
        exact ⟨m + 1, ⟨c1, om, rfl, by omega, h1, hom, fun h => by omega, rfl, rfl, rfl, trivial⟩, by show ds.length - 136 * (m + 1) < ds.length - 136 * m; omega⟩
      · have hsv : Value.slice (some ⟨x.b, addS om (mulS 136 1), none⟩) (ds.length - 136 * m - 136) (cap - 136 * m - 136) = .slice (some ⟨x.b, om + 136, none⟩) (ds.length - 136 * (m + 1)) (cap - 136 * (m + 1)) := by
          rw [addS_mulS _ _ _ rfl, show ds.length - 136 * m - 136 = ds.length - 136 * (m + 1) by omega, show cap - 136 * m - 136 = cap - 136 * (m + 1) by omega]
        repeat (first | refine SeqS.go cok ?_ | refine And.intro (Eq.refl true) ?_ | refine And.intro (by omega) ?_ | refine And.intro (by dsimp only; omega) ?_ | (refine NatS.keep ?_; first | with_reducible refine NatS.lit ?_) | (refine ValS.keep ?_; first | with_reducible refine ValS.sl0 ?_) | (refine CondS.keep ?_; first | refine CondS.d1 rfl (by omega) ?_))
        refine hab.mono ?_
        rintro r _ - ⟨c1, rfl, h1⟩
        repeat (first | refine SeqS.go cok ?_ | refine And.intro (Eq.refl true) ?_ | refine And.intro (by omega) ?_ | (refine NatS.keep ?_; first | with_reducible refine NatS.lit ?_) | (refine ValS.keep ?_; first | (with_reducible refine ValS.slN ?_ ?_; omega)))
        exact ⟨m + 1, ⟨c1, om + 136, rfl, by omega, h1, by have := hom2 (by omega); omega, fun h => by have := hom2 (by omega); omega, hsv, rfl, rfl, trivial⟩, by show ds.length - 136 * (m + 1) < ds.length - 136 * m; omega⟩
    · have : m = ds.length / 136 := by omega
      subst this
      repeat (first | refine SeqS.go cok ?_ | (refine CondS.keep ?_; first | refine CondS.d0 rfl (by omega) ?_))
      exact ⟨ca, om, rfl, hC, hom, hom2, rfl, rfl, rfl, trivial⟩
/-- keccak.Sum, no data -/
theorem kSumZ {I : Ent → Prop} {G : List Ent} : CallG Hvaf.prog 176 #[.slice none 0 0] ⟨I, G⟩ fun r S' => ⟨I, G⟩ = S' ∧ r = bytesV (kecL []) := by
  have h8 : ∀ d ∈ ([] : List Nat), d < 256 := by simp
  have hst := st_last []
  have hl8 := lastP_lt h8
  have hll := lastP_len []
  have hlim := lim_st h8 0
  have hlm := lim_st h8 1
  have hbs2 := fun lb => last_bs (ds := []) (lb := lb) (T := 332) (z := z_int__u8_0) (xc := z_int__u8_0) (om := 0) (r := 0) (k := 0) rfl (fun _ _ => rfl) (fun i hi => by omega) rfl
  rw [show ([] : List Nat).length / 136 = 0 from rfl] at hst
  have hz0 : updN z_int__u8_0 0 (cellsFrom z_int__u8_0 0 (mulS 0 1)) = z_int__u8_0 := by
    funext i; rw [updN_cellsFrom, mulS_eq]
    show (if 0 ≤ i ∧ i < 0 + 0 * 1 then _ else _) = _
    rw [if_neg (by omega)]
  rw [hz0] at hbs2
  generalize lastP [] = ps at *
  have h135 : upd z_int__u8_0 (addS 0 (mulS 0 1)) (.int .u8 ((1 : Nat) : Int)) (addS 0 (mulS 135 1)) = .int .u8 ((0 : Nat) : Int) := by
    rw [addS_mulS _ _ _ rfl, addS_mulS _ _ _ rfl, updNeK (by omega)]; rfl
  have hkl := kecF_len []
  have hkst := fun i hi => kecF_step (ds := []) (i := i) (z := z_int__u8_0) hi (hlm i)
  refine CallG.start (C := mkC Hvaf.prog) cok (args := [.slice none 0 0]) Hvaf.func176 rfl Hvaf.ntmps176 (by simp) (by kernel_rfl) ?_
  intro ob
  repeat (first | refine SeqS.go cok ?_)
  intro ab
  repeat (first | refine SeqS.go cok ?_)
  refine W.loopE cok (by kernel_rfl) 0 (fun (m : Nat) e' S' => S' = ⟨I, ⟨ab, 25, 328, z_int__u64_0⟩ :: ⟨ob, 32, 22, z_int__u8_0⟩ :: G⟩ ∧ slots [(0, .slice none 0 0), (2, ptr ob 0), (3, ptr ab 0)] e') (fun m => 0) 0
    ⟨rfl, rfl, rfl, rfl, trivial⟩
    (fun e' S' => S' = ⟨I, ⟨ab, 25, 328, z_int__u64_0⟩ :: ⟨ob, 32, 22, z_int__u8_0⟩ :: G⟩ ∧ slots [(0, .slice none 0 0), (2, ptr ob 0), (3, ptr ab 0)] e') ?_ ?_
  · rintro e' S2 - ⟨rfl, hsl⟩
    refine SeqS.slots cok _ hsl fun e => ?_
    skip
    intro lb
    repeat (first | refine SeqS.go cok ?_ | refine And.intro (Eq.refl true) ?_ | (refine ValS.keep ?_; first | with_reducible refine ValS.sl0 ?_))
    refine OpG.keep ?_
    refine OpG.copy0 cok rfl rfl rfl rfl rfl ?_
    repeat (first | (refine QuG.keep ?_; first | refine QuG.l1E cok 0 rfl rfl rfl rfl rfl (by first | exact Nat.le_of_ble_eq_true rfl | omega | (dsimp only; omega) | (simp only [addS_eq, mulS_eq]; omega)) (by assumption) ?_) | refine SeqS.go cok ?_ | refine And.intro (by dsimp only; omega) ?_ | (refine NatS.keep ?_; first | with_reducible refine NatS.lit ?_ | with_reducible refine NatS.nat ?_) | (refine ValS.keep ?_; first | (with_reducible refine ValS.kU8 ?_; first | (with_reducible refine ValS.orU8_L ?_ ?_ ?_ ; omega; omega))) | (refine OpG.keep ?_; first | refine OpG.s1 cok 0 rfl rfl rfl rfl rfl (by first | exact Nat.le_of_ble_eq_true rfl | omega | (dsimp only; omega) | (simp only [addS_eq, mulS_eq]; omega)) rfl rfl ?_))
    refine CallG.focus 1 rfl ?_
    refine (kAbsorb (I := I) (ab := ab) (T := 328) (Nat.le_refl 25) (a := stL [] 0) ⟨fun i hi => rfl⟩ hlim (Byt.last (x := ⟨lb, 136, 332, _⟩) hl8 hll (.inr List.mem_cons_self) (hbs2 lb)) hll).mono ?_
    rintro _ _ - ⟨c1, rfl, h1⟩
    rw [← hst] at h1
    repeat (first | refine SeqS.go cok ?_)
    intro fb
    repeat (first | refine SeqS.go cok ?_)
    refine W.loopE cok (by kernel_rfl) 2 (fun (i : Nat) e' S' => ∃ cl, S' = ⟨I, ⟨fb, 32, 22, updN z_int__u8_0 0 (ivs .u8 (kecF [] i))⟩ :: ⟨ab, 25, 328, c1⟩ :: ⟨lb, 136, 332, cl⟩ :: ⟨ob, 32, 22, z_int__u8_0⟩ :: G⟩ ∧ i ≤ 4 ∧ slots [(2, ptr ob 0), (3, ptr ab 0), (5, ptr fb 0), (6, .int .i64 (i : Nat))] e') (fun i => 4 - i) 0
      ⟨upd (upd z_int__u8_0 (addS 0 (mulS 0 1)) (.int .u8 ((1 : Nat) : Int))) (addS 0 (mulS 135 1)) (.int .u8 ((0 ||| 128 : Nat) : Int)), ?_, Nat.zero_le _, rfl, rfl, rfl, rfl, trivial⟩
      (fun e' S' => ∃ cl, S' = ⟨I, ⟨fb, 32, 22, updN z_int__u8_0 0 (ivs .u8 (kecF [] 4))⟩ :: ⟨ab, 25, 328, c1⟩ :: ⟨lb, 136, 332, cl⟩ :: ⟨ob, 32, 22, z_int__u8_0⟩ :: G⟩ ∧ slots [(2, ptr ob 0), (5, ptr fb 0)] e') ?_ ?_
    · refine congrArg (fun c => (⟨I, ⟨fb, 32, 22, c⟩ :: ⟨ab, 25, 328, c1⟩ :: ⟨lb, 136, 332, _⟩ :: ⟨ob, 32, 22, z_int__u8_0⟩ :: G⟩ : St)) (updN_self ⟨fun p hp => ?_⟩).symm
      have hp2 : p < 32 := by simpa [ivs, hkl] using hp
      rw [kecF_get hp2, if_neg (by omega)]; rfl
    · rintro e' S2 - ⟨cl, rfl, hsl⟩
      rw [kecF_end]
      have hl : (ivs .u8 (kecL [])).length = 32 := by simp [kecL]
      have ho : ∀ u ∈ ivs .u8 (kecL []), one u = true := by intro u hu; obtain ⟨d, _, rfl⟩ := List.mem_map.1 hu; rfl
      generalize kecL [] = kk at *
      refine SeqS.slots cok _ hsl fun e => ?_
      repeat (first | (refine QuG.keep ?_; first | refine QuG.upL cok 0 rfl rfl rfl rfl rfl rfl (by assumption) (by first | exact Nat.le_of_ble_eq_true rfl | omega) ?_) | (refine OpG.keep ?_; first | refine OpG.upS cok 3 rfl rfl rfl rfl rfl (by assumption) (by first | assumption | exact one_bvs _) (by first | exact Nat.le_of_ble_eq_true rfl | omega) ?_) | (refine LdG.keep ?_; first | refine LdG.upL cok 3 rfl rfl rfl rfl rfl rfl (by assumption) (by first | exact Nat.le_of_ble_eq_true rfl | omega) ?_) | refine SeqS.go cok ?_)
      exact Fin.drop G [_, _, _, _] ⟨rfl, rfl⟩
    · rintro i e' S2 - ⟨cl, rfl, hi, hsl⟩
      refine W.slots _ hsl fun e => ?_
      by_cases hlt : i < 4
      · have hlv := h1.at (o := addS 0 (mulS i 1)) (by rw [addS_mulS _ _ _ rfl, Nat.zero_add]) (show i < 25 by omega)
        have hai : stL [] 1 i < 18446744073709551616 := hlm i
        have hst2 := hkst i hlt
        have htl : trnN (stL [] 1 i) < 18446744073709551616 := trnN_lt
        change updN _ _ (bvs (be8 (trnN (stL [] 1 i)))) = _ at hst2
        change c1 _ = .int .u64 (stL [] 1 i : Nat) at hlv
        generalize stL [] 1 i = ai at *
        repeat (first | (refine QuG.keep ?_; first | refine QuG.l1E cok 1 rfl rfl rfl rfl rfl (by first | exact Nat.le_of_ble_eq_true rfl | omega | (dsimp only; omega) | (simp only [addS_eq, mulS_eq]; omega)) (by assumption) ?_) | refine SeqS.go cok ?_ | refine And.intro (Eq.refl true) ?_ | refine And.intro (by dsimp only; omega) ?_ | (refine NatS.keep ?_; first | with_reducible refine NatS.nat ?_) | (refine ValS.keep ?_; first | (with_reducible refine ValS.kI64 ?_; first | (with_reducible refine ValS.mulI64_M ?_ ?_ ; omega)) | with_reducible refine ValS.sl0 ?_) | refine W.drawI 14 cok [0, 0, 2, 0, 8, 24, 56, 127] [0, 1, 2, 3, 4, 5, 6, 7] [5] (by kernel_rfl) (by kernel_rfl) ?_ | (refine CondS.keep ?_; first | refine CondS.d1 rfl (by omega) ?_))
        refine (kTurned hai).mono ?_
        rintro r _ - ⟨rfl, rfl⟩
        repeat (first | (refine still_in ?_; first | refine still_nil ?_ | refine still_drop (by decide) ?_))
        refine (PutBE64_spec (len := 32) (cap := 32) (off := 8 * i) (x := ⟨fb, 32, 22, _⟩) (by omega) (Nat.le_refl _) (Nat.le_refl _) (by decide) htl).mono ?_
        rintro r _ - ⟨rfl, rfl⟩
        repeat (first | refine SeqS.go cok ?_ | (refine ValS.keep ?_; first | (with_reducible refine ValS.kI64 ?_; first | (with_reducible refine ValS.addI64_L ?_ ?_ ; omega))) | (refine still_in ?_; first | refine still_drop (by decide) ?_))
        exact ⟨i + 1, ⟨cl, congrArg (fun c => (⟨I, ⟨fb, 32, 22, c⟩ :: ⟨ab, 25, 328, c1⟩ :: ⟨lb, 136, 332, cl⟩ :: ⟨ob, 32, 22, z_int__u8_0⟩ :: G⟩ : St)) hst2, hlt, rfl, rfl, rfl, rfl, trivial⟩, by show 4 - (i + 1) < 4 - i; omega⟩
      · obtain rfl : i = 4 := by omega
        repeat (first | refine SeqS.go cok ?_ | refine CondS.f rfl ?_)
        exact ⟨cl, rfl, rfl, rfl, trivial⟩
  · rintro m e' S2 - ⟨rfl, hsl⟩
    refine W.slots _ hsl fun e => ?_
    repeat (first | refine SeqS.go cok ?_ | refine CondS.f rfl ?_)
    exact ⟨rfl, rfl, rfl, rfl, trivial⟩
/-- keccak.Sum -/
theorem kSumE {I : Ent → Prop} {G : List Ent} {v : Value} {ds : List Nat} (hB : Byt ⟨I, G⟩ v ds) (hl : ds.length < 2 ^ 30) : CallG Hvaf.prog 176 #[v] ⟨I, G⟩ fun r S' => ⟨I, G⟩ = S' ∧ r = bytesV (kecN ds) := by
  rw [kec_same hB.1]
  rcases hB.cases with ⟨rfl, rfl⟩ | ⟨x, o, cap, rfl, h5, h6, hx, hbs⟩
  · exact kSumZ
  · exact kSumY hB.1 hx hbs h5 h6 hl
end Go.Proofs.YgvafwGreat
