import Derived.Test.YgvafwGreatY22
set_option maxRecDepth 100000
set_option maxHeartbeats 4000000
set_option linter.unusedVariables false
set_option linter.unusedSimpArgs false
-- v2
-- v4
-- v5
-- v6
namespace Go.Proofs.YgvafwGreat
open Go.HL Go.Proofs

/-- A memory lengthened to w words. -/
def growL (mem : List Nat) (w : Nat) : List Nat := if w ≤ mem.length / 32 then mem else mem ++ List.replicate (32 * w - mem.length) 0
theorem growL_lt {mem : List Nat} (h : ∀ d ∈ mem, d < 256) (w : Nat) : ∀ d ∈ growL mem w, d < 256 := by
  unfold growL; split
  · exact h
  · intro d hd
    rcases List.mem_append.1 hd with hd | hd
    · exact h d hd
    · rw [List.eq_of_mem_replicate hd]; decide
theorem upd_self {c : Nat → Value} {i : Nat} : upd c i (c i) = c := by
  funext k; unfold upd; split
  · rename_i h; rw [h]
  · rfl
theorem perm_grow {x y : Ent} {G M : List Ent} : (x :: y :: (G ++ M)).Perm ([] ++ ((y :: (G ++ [x])) ++ M)) := by
  rw [List.nil_append]
  refine (List.Perm.swap _ _ _).trans ?_
  rw [List.cons_append]
  refine List.Perm.cons _ ?_
  rw [List.append_assoc, List.singleton_append]
  exact List.perm_middle.symm
theorem grow_row {c : Nat → Value} {mem : List Nat} {x : Ent} {q n : Nat} (hb : Bs x q mem) (hn : mem.length ≤ n) (hz : ∀ i, i < n → c i = .int .u8 (0 : Nat)) : Row (updN c 0 (cellsFrom x.c q (min mem.length n))) 0 (bvs (mem ++ List.replicate (n - mem.length) 0)) := by
  refine ⟨fun i hi => ?_⟩
  rw [bvs_len, List.length_append, List.length_replicate] at hi
  rw [bvs_get (by rw [List.length_append, List.length_replicate]; exact hi), updN_cellsFrom]
  dsimp only
  by_cases h : i < mem.length
  · rw [if_pos (by omega), Nat.zero_add, Nat.sub_zero, hb.2 i h, List.getD_eq_getElem?_getD, List.getD_eq_getElem?_getD, List.getElem?_append_left h]
  · rw [if_neg (by omega), Nat.zero_add, hz i (by omega), List.getD_eq_getElem?_getD, List.getElem?_append_right (by omega), List.getElem?_replicate, if_pos (by omega)]; rfl
theorem zero_row {c : Nat → Value} {n : Nat} (hz : ∀ i, i < n → c i = .int .u8 (0 : Nat)) : Row c 0 (bvs ([] ++ List.replicate (n - 0) 0)) := by
  refine ⟨fun i hi => ?_⟩
  rw [bvs_len] at hi
  have hi2 : i < n := by simpa using hi
  rw [bvs_get hi, Nat.zero_add, hz i hi2, List.nil_append, Nat.sub_zero, List.getD_eq_getElem?_getD, List.getElem?_replicate, if_pos hi2]; rfl
/-- yp.Frame.grow -/
theorem yGrow {I : Ent → Prop} {G M : List Ent} {fb sz to : Nat} {T : TypeId} {c : Nat → Value} {mem : List Nat} {v : Value} (hsz : 60 ≤ sz) (hm : MemO (c 9) mem M) (hN : NatI I v to) (hto : to < 2 ^ 29) :
    CallG Hvaf.prog 70 #[ptr fb 0, v] ⟨I, ⟨fb, sz, T, c⟩ :: (G ++ M)⟩ fun r S' => ∃ J w M', S' = ⟨J, ⟨fb, sz, T, upd c 9 w⟩ :: (G ++ M')⟩ ∧ MemO w (growL mem ((to + 31) / 32)) M' := by
  have hml := hm.len
  have hbm : Byt ⟨I, ⟨fb, sz, T, c⟩ :: (G ++ M)⟩ (c 9) mem := hm.byt (fun x hx => by simp [hx])
  obtain ⟨ad, cap, hc, k1, k2, k3⟩ := hbm.form
  have hg8 := growL_lt hm.b8 ((to + 31) / 32)
  by_cases h : (to + 31) / 32 ≤ mem.length / 32
  · unfold growL
    rw [if_pos h]
    refine CallG.start (C := mkC Hvaf.prog) cok (args := [ptr fb 0, v]) Hvaf.func70 rfl Hvaf.ntmps70 (by simp) (by kernel_rfl) ?_
    skip
    refine callN (yWords hN (Nat.lt_of_lt_of_le (show to + 31 < 2 ^ 31 by omega) (by decide +kernel))) ?_
    intro rhN1 I hshN1 hN1
    try replace hN := hN.up hshN1
    skip
    refine (ySmall hN1).mono ?_
    rw [if_pos (show (to + 31) / 32 < 2 ^ 64 by omega)]
    rintro r _ - ⟨rfl, rfl⟩
    repeat (first | (refine QuG.keep ?_; first | refine QuG.l1E cok 0 rfl rfl rfl rfl rfl (by first | exact Nat.le_of_ble_eq_true rfl | omega | (dsimp only; omega) | (simp only [addS_eq, mulS_eq]; omega)) (by assumption) ?_) | refine SeqS.go cok ?_ | refine And.intro (by omega) ?_ | (refine ValS.keep ?_; first | (with_reducible refine ValS.kI64 ?_; first | (with_reducible refine ValS.quoI64_L ?_ ?_ ; omega)) | (with_reducible refine ValS.kU64 ?_; first | (with_reducible refine ValS.convU64 ?_ ?_ ; omega))) | (refine CondS.keep ?_; first | refine CondS.d0 rfl (by omega) ?_))
    exact Fin.same ⟨_, c 9, M, by rw [upd_self], hm⟩
  · have hgl : (growL mem ((to + 31) / 32)).length = 32 * ((to + 31) / 32) := by
      unfold growL; rw [if_neg h]; simp; omega
    have hge : growL mem ((to + 31) / 32) = mem ++ List.replicate (32 * ((to + 31) / 32) - mem.length) 0 := by unfold growL; rw [if_neg h]
    obtain ⟨w, hw⟩ : ∃ w, (to + 31) / 32 = w := ⟨_, rfl⟩
    have hsm := fun (J : Ent → Prop) (r : Value) (hr : NatI J r w) => ySmall (G := ⟨fb, sz, T, c⟩ :: (G ++ M)) hr
    simp only [if_pos (show w < 2 ^ 64 by omega)] at hsm
    have hwd := yWords (G := ⟨fb, sz, T, c⟩ :: (G ++ M)) hN (Nat.lt_of_lt_of_le (show to + 31 < 2 ^ 31 by omega) (by decide +kernel))
    rw [hw] at hgl hge hwd hg8 ⊢
    have hg8' : ∀ d ∈ growL mem w, d < 256 := hg8
    have hw2 : w < 2 ^ 26 := by omega
    have hwm : mem.length / 32 < w := by omega
    rcases hbm.cases with ⟨hnil, rfl⟩ | ⟨x, q, cap', hv, h1, h2, hx, hbs⟩
    · clear hc
      refine CallG.start (C := mkC Hvaf.prog) cok (args := [ptr fb 0, v]) Hvaf.func70 rfl Hvaf.ntmps70 (by simp) (by kernel_rfl) ?_
      skip
      refine callN hwd fun r1 J hs1 hr1 => ?_
      skip
      refine (hsm _ _ hr1).mono ?_
      rintro r _ - ⟨rfl, rfl⟩
      repeat (first | (refine QuG.keep ?_; first | refine QuG.l1E cok 0 rfl rfl rfl rfl rfl (by first | exact Nat.le_of_ble_eq_true rfl | omega | (dsimp only; omega) | (simp only [addS_eq, mulS_eq]; omega)) (by assumption) ?_) | refine SeqS.go cok ?_ | refine And.intro (by omega) ?_ | refine And.intro (by dsimp only; omega) ?_ | (refine NatS.keep ?_; first | with_reducible refine NatS.nat ?_) | (refine ValS.keep ?_; first | (with_reducible refine ValS.kI64 ?_; first | (with_reducible refine ValS.quoI64_L ?_ ?_ ; omega)) | (with_reducible refine ValS.kU64 ?_; first | (with_reducible refine ValS.convU64 ?_ ?_ ; omega) | (with_reducible refine ValS.mulU64_M ?_ ?_ ; omega))) | (refine CondS.keep ?_; first | refine CondS.d1 rfl (by omega) ?_))
      intro b
      repeat (first | (refine QuG.keep ?_; first | refine QuG.l1E cok 1 rfl rfl rfl rfl rfl (by first | exact Nat.le_of_ble_eq_true rfl | omega | (dsimp only; omega) | (simp only [addS_eq, mulS_eq]; omega)) (by assumption) ?_) | refine SeqS.go cok ?_)
      refine OpG.keep ?_
      refine OpG.copy0 cok rfl rfl rfl rfl rfl ?_
      repeat (first | refine SeqS.go cok ?_ | (refine OpG.keep ?_; first | refine OpG.s1 cok 1 rfl rfl rfl rfl rfl (by first | exact Nat.le_of_ble_eq_true rfl | omega | (dsimp only; omega) | (simp only [addS_eq, mulS_eq]; omega)) rfl rfl ?_))
      refine ⟨M, [], ⟨fb, sz, T, _⟩ :: (G ++ [⟨b, mulS (32 * w) 1, 5, zc { kind := 1, size := 1, bytes := 1, zero := z_int__u8_0 }⟩]), J, ?_, fun _ => by simp, J, sl b 0 (32 * w) (32 * w), [⟨b, mulS (32 * w) 1, 5, zc { kind := 1, size := 1, bytes := 1, zero := z_int__u8_0 }⟩], rfl, hg8', by rw [hgl]; omega, .inr ⟨b, zc { kind := 1, size := 1, bytes := 1, zero := z_int__u8_0 }, by rw [hgl], ?_⟩⟩
      · exact perm_grow
      have hrow := zero_row (c := zc { kind := 1, size := 1, bytes := 1, zero := z_int__u8_0 }) (n := 32 * w) (fun i _ => rfl)
      have hu := updN_self hrow
      have hge' : growL [] w = [] ++ List.replicate (32 * w - 0) 0 := hge
      rw [hgl, hge', hu]
      simp only [mulS_eq, Nat.mul_one]
    · have hxr : ∀ (J : Ent → Prop) (b : Ent), Sub I J → Rd ⟨J, b :: ⟨fb, sz, T, c⟩ :: (G ++ M)⟩ x := fun J b hs => hx.mono hs (fun y hy => List.mem_cons_of_mem _ hy)
      clear hc
      refine CallG.start (C := mkC Hvaf.prog) cok (args := [ptr fb 0, v]) Hvaf.func70 rfl Hvaf.ntmps70 (by simp) (by kernel_rfl) ?_
      skip
      refine callN hwd fun r1 J hs1 hr1 => ?_
      skip
      refine (hsm _ _ hr1).mono ?_
      rintro r _ - ⟨rfl, rfl⟩
      repeat (first | (refine QuG.keep ?_; first | refine QuG.l1E cok 0 rfl rfl rfl rfl rfl (by first | exact Nat.le_of_ble_eq_true rfl | omega | (dsimp only; omega) | (simp only [addS_eq, mulS_eq]; omega)) (by assumption) ?_) | refine SeqS.go cok ?_ | refine And.intro (by omega) ?_ | refine And.intro (by dsimp only; omega) ?_ | (refine NatS.keep ?_; first | with_reducible refine NatS.nat ?_) | (refine ValS.keep ?_; first | (with_reducible refine ValS.kI64 ?_; first | (with_reducible refine ValS.quoI64_L ?_ ?_ ; omega)) | (with_reducible refine ValS.kU64 ?_; first | (with_reducible refine ValS.convU64 ?_ ?_ ; omega) | (with_reducible refine ValS.mulU64_M ?_ ?_ ; omega))) | (refine CondS.keep ?_; first | refine CondS.d1 rfl (by omega) ?_))
      intro b
      repeat (first | (refine QuG.keep ?_; first | refine QuG.l1E cok 1 rfl rfl rfl rfl rfl (by first | exact Nat.le_of_ble_eq_true rfl | omega | (dsimp only; omega) | (simp only [addS_eq, mulS_eq]; omega)) (by assumption) ?_) | refine SeqS.go cok ?_)
      refine OpG.keep ?_
      refine OpG.copy cok 0 rfl (y := x) (hxr _ _ hs1) rfl rfl rfl rfl rfl rfl rfl ?_ ?_ ?_ ?_
      · show 0 + mulS (Nat.min mem.length (32 * w)) 1 ≤ mulS (32 * w) 1
        rw [mulS_eq, mulS_eq]
        show 0 + (min mem.length (32 * w)) * 1 ≤ 32 * w * 1
        omega
      · show q + mulS (Nat.min mem.length (32 * w)) 1 ≤ x.sz
        have := hbs.1
        rw [mulS_eq]
        show q + (min mem.length (32 * w)) * 1 ≤ x.sz
        omega
      · intro p hp
        have hp : p < mulS (Nat.min mem.length (32 * w)) 1 := hp
        rw [mulS_eq, Nat.mul_one] at hp
        have hp2 : p < min mem.length (32 * w) := hp
        rw [hbs.2 p (by omega)]; rfl
      repeat (first | refine SeqS.go cok ?_ | (refine OpG.keep ?_; first | refine OpG.s1 cok 1 rfl rfl rfl rfl rfl (by first | exact Nat.le_of_ble_eq_true rfl | omega | (dsimp only; omega) | (simp only [addS_eq, mulS_eq]; omega)) rfl rfl ?_))
      refine ⟨M, [], ⟨fb, sz, T, _⟩ :: (G ++ [⟨b, mulS (32 * w) 1, 5, updN (zc { kind := 1, size := 1, bytes := 1, zero := z_int__u8_0 }) 0 (cellsFrom x.c q (mulS (Nat.min mem.length (32 * w)) 1))⟩]), J, ?_, fun _ => by simp, J, sl b 0 (32 * w) (32 * w), [⟨b, mulS (32 * w) 1, 5, updN (zc { kind := 1, size := 1, bytes := 1, zero := z_int__u8_0 }) 0 (cellsFrom x.c q (mulS (Nat.min mem.length (32 * w)) 1))⟩], rfl, hg8', by rw [hgl]; omega, .inr ⟨b, updN (zc { kind := 1, size := 1, bytes := 1, zero := z_int__u8_0 }) 0 (cellsFrom x.c q (mulS (Nat.min mem.length (32 * w)) 1)), by rw [hgl], ?_⟩⟩
      · exact perm_grow
      have hrow := grow_row (c := zc { kind := 1, size := 1, bytes := 1, zero := z_int__u8_0 }) (n := 32 * w) hbs (by omega) (fun i _ => rfl)
      have hu := updN_self hrow
      rw [hgl, hge]
      simp only [mulS_eq, Nat.mul_one]
      exact congrArg (fun c => [(⟨b, 32 * w, 5, c⟩ : Ent)]) hu.symm
end Go.Proofs.YgvafwGreat
