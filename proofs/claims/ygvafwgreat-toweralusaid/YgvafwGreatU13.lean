import Derived.Test.YgvafwGreatU12
set_option maxRecDepth 100000
set_option maxHeartbeats 4000000
set_option linter.unusedVariables false
set_option linter.unusedSimpArgs false
-- v2
namespace Go.Proofs.YgvafwGreat
open Go.HL Go.Proofs

theorem bev_append (a b : List Nat) : bev (a ++ b) = bev b + 256 ^ b.length * bev a := by
  simp [bev, val_append]
theorem Ow_vc (ds : List Nat) : Ow (vc (bytesV ds)) ds := by
  refine ⟨fun i hi => ?_⟩
  show (bvs ds).toArray.toList.getD i undef = _
  rw [List.toList_toArray, bvs_getD ds i hi]
theorem bev_lt (ds : List Nat) (h : ∀ d ∈ ds, d < 256) : bev ds < 256 ^ ds.length := by
  have := val_lt ds.reverse (fun d hd => h d (List.mem_reverse.1 hd))
  simpa [bev] using this
theorem part8 {ds : List Nat} (hd : ∀ d ∈ ds, d < 256) (o : Nat) (h : o + 8 ≤ ds.length) : bev ((ds.drop o).take 8) < 18446744073709551616 := by
  have := bev_lt ((ds.drop o).take 8) (fun d h => hd d (List.mem_of_mem_drop (List.mem_of_mem_take h)))
  rw [show ((ds.drop o).take 8).length = 8 by simp; omega] at this
  exact this
theorem bev32 {ds : List Nat} (hl : ds.length = 32) : bev ds = bev ((ds.drop 24).take 8) + 18446744073709551616 * bev ((ds.drop 16).take 8) + 340282366920938463463374607431768211456 * bev ((ds.drop 8).take 8) + 6277101735386680763835789423207666416102355444464034512896 * bev ((ds.drop 0).take 8) := by
  have e : ds = ((ds.drop 0).take 8 ++ (ds.drop 8).take 8) ++ ((ds.drop 16).take 8 ++ (ds.drop 24).take 8) := by
    apply List.ext_getElem?
    intro i
    simp only [List.getElem?_append, List.length_append, List.length_take, List.length_drop, hl, List.getElem?_take, List.getElem?_drop]
    by_cases h1 : i < 8
    · rw [if_pos (by omega), if_pos (by omega), if_pos (by omega), Nat.zero_add]
    · by_cases h2 : i < 16
      · rw [if_pos (by omega), if_neg (by omega), if_pos (by omega)]; congr 1; omega
      · by_cases h3 : i < 24
        · rw [if_neg (by omega), if_pos (by omega), if_pos (by omega)]; congr 1; omega
        · by_cases h4 : i < 32
          · rw [if_neg (by omega), if_neg (by omega), if_pos (by omega)]; congr 1; omega
          · rw [if_neg (by omega), if_neg (by omega), if_neg (by omega)]; exact List.getElem?_eq_none (by omega)
  have l8 : ∀ o, o + 8 ≤ 32 → ((ds.drop o).take 8).length = 8 := fun o h => by simp; omega
  have e2 : bev ds = bev (((ds.drop 0).take 8 ++ (ds.drop 8).take 8) ++ ((ds.drop 16).take 8 ++ (ds.drop 24).take 8)) := by rw [← e]
  rw [e2, bev_append, bev_append, bev_append, List.length_append, l8 16 (by omega), l8 24 (by omega), l8 8 (by omega), show (256 : Nat) ^ 8 = 18446744073709551616 from rfl, show (256 : Nat) ^ (8 + 8) = 340282366920938463463374607431768211456 from rfl]
  omega

/-- u256.FromBytes -/
theorem FromBytes_spec {S : St} {ds : List Nat} (hl : ds.length = 32) (hd : ∀ d ∈ ds, d < 256) :
    CallG Hvaf.prog 93 #[bytesV ds] S fun r S' => S = S' ∧ r = wordV (bev ds) := by
  have hsz : (bytesV ds).cells.size = 32 := by show (bvs ds).toArray.size = 32; simp [hl]
  refine CallG.start (C := mkC Hvaf.prog) cok (args := [bytesV ds]) Hvaf.func93 rfl Hvaf.ntmps93 (by simp) (by kernel_rfl) ?_
  intro xb xr
  have hB : Byt ⟨S.I, [⟨xr, 4, 79, z_int__u64_0⟩, ⟨xb, (bytesV ds).cells.size, 22, vc (bytesV ds)⟩] ++ S.G⟩ (sl xb 0 32 32) ds := by
    have := Byt.own (S := ⟨S.I, [⟨xr, 4, 79, z_int__u64_0⟩, ⟨xb, (bytesV ds).cells.size, 22, vc (bytesV ds)⟩] ++ S.G⟩) (x := ⟨xb, (bytesV ds).cells.size, 22, vc (bytesV ds)⟩) (cap := 32) (Rd.own 1 rfl) (Ow_vc ds) hd (by omega) (by first | omega | (dsimp only; omega)) (by omega) (by omega)
    rw [hl] at this; exact this
  repeat (first | refine SeqS.go cok ?_ | refine And.intro (Eq.refl true) ?_ | (refine ValS.keep ?_; first | with_reducible refine ValS.sl0 ?_))
  refine (BE64_spec (off := 0) hB (by omega)).mono ?_
  rintro r _ - ⟨rfl, rfl⟩
  repeat (first | refine SeqS.go cok ?_ | refine And.intro (Eq.refl true) ?_ | (refine ValS.keep ?_; first | with_reducible refine ValS.sl0 ?_))
  refine (BE64_spec (off := 8) hB (by omega)).mono ?_
  rintro r _ - ⟨rfl, rfl⟩
  repeat (first | refine SeqS.go cok ?_ | refine And.intro (Eq.refl true) ?_ | (refine ValS.keep ?_; first | with_reducible refine ValS.sl0 ?_))
  refine (BE64_spec (off := 16) hB (by omega)).mono ?_
  rintro r _ - ⟨rfl, rfl⟩
  repeat (first | refine SeqS.go cok ?_ | refine And.intro (Eq.refl true) ?_ | (refine ValS.keep ?_; first | with_reducible refine ValS.sl0 ?_))
  refine (BE64_spec (off := 24) hB (by omega)).mono ?_
  rintro r _ - ⟨rfl, rfl⟩
  repeat (first | refine SeqS.go cok ?_ | refine And.intro (fillOk_of (Eq.refl true)) ?_ | (refine LdG.keep ?_; first | refine LdG.lN cok 0 rfl rfl rfl rfl rfl (by first | exact Nat.le_of_ble_eq_true rfl | omega | (dsimp only; omega) | (simp only [addS_eq, mulS_eq]; omega)) ?_) | (refine OpG.keep ?_; first | refine OpG.sL cok 0 rfl rfl rfl rfl rfl rfl rfl (by first | exact Nat.le_of_ble_eq_true rfl | omega | (dsimp only; omega) | (simp only [addS_eq, mulS_eq]; omega)) ?_))
  exact Fin.drop S.G [_, _] ⟨rfl, tW rfl (WV_eq (part8 hd 24 (by omega)) (part8 hd 16 (by omega)) (part8 hd 8 (by omega)) (part8 hd 0 (by omega)) (bev32 hl))⟩

theorem dig_add (j k n : Nat) : dig (j + k) n = dig j n ++ dig k (n / 256 ^ j) := by
  induction j generalizing n with
  | zero => simp [dig]
  | succ j ih =>
    rw [show j + 1 + k = (j + k) + 1 by omega]
    simp only [dig, ih, List.cons_append, Nat.div_div_eq_div_mul, Nat.pow_succ, Nat.mul_comm 256]
theorem dig_mod (n : Nat) : dig 8 (n % 18446744073709551616) = dig 8 n := by
  simp only [dig, Nat.div_div_eq_div_mul, List.cons.injEq, and_true]
  omega
theorem be32_limbs {a b c d : Nat} (ha : a < 18446744073709551616) (hb : b < 18446744073709551616) (hc : c < 18446744073709551616) (hd : d < 18446744073709551616) : be8 d ++ be8 c ++ be8 b ++ be8 a = be32 (a + 18446744073709551616 * b + 340282366920938463463374607431768211456 * c + 6277101735386680763835789423207666416102355444464034512896 * d) := by
  rw [be8_dig a ha, be8_dig b hb, be8_dig c hc, be8_dig d hd, be32]
  rw [show (32 : Nat) = 8 + (8 + (8 + 8)) from rfl, dig_add, dig_add, dig_add, show (256 : Nat) ^ 8 = 18446744073709551616 from rfl]
  rw [← dig_mod (a + 18446744073709551616 * b + 340282366920938463463374607431768211456 * c + 6277101735386680763835789423207666416102355444464034512896 * d), show (a + 18446744073709551616 * b + 340282366920938463463374607431768211456 * c + 6277101735386680763835789423207666416102355444464034512896 * d) % 18446744073709551616 = a by omega, show (a + 18446744073709551616 * b + 340282366920938463463374607431768211456 * c + 6277101735386680763835789423207666416102355444464034512896 * d) / 18446744073709551616 = b + 18446744073709551616 * (c + 18446744073709551616 * d) by omega]
  rw [← dig_mod (b + 18446744073709551616 * (c + 18446744073709551616 * d)), show (b + 18446744073709551616 * (c + 18446744073709551616 * d)) % 18446744073709551616 = b by omega, show (b + 18446744073709551616 * (c + 18446744073709551616 * d)) / 18446744073709551616 = c + 18446744073709551616 * d by omega]
  rw [← dig_mod (c + 18446744073709551616 * d), show (c + 18446744073709551616 * d) % 18446744073709551616 = c by omega, show (c + 18446744073709551616 * d) / 18446744073709551616 = d by omega]
  simp only [List.reverse_append, List.append_assoc]
/-- u256.Word.BE32 -/
theorem UBE32_spec {S : St} {n : Nat} (hn : n < 115792089237316195423570985008687907853269984665640564039457584007913129639936) :
    CallG Hvaf.prog 86 #[wordV n] S fun r S' => S = S' ∧ r = bytesV (be32 n) := by
  obtain ⟨a, b, c, d, h0, h1, h2, h3, ea, va⟩ := word_cases hn
  rw [va]
  clear va hn
  refine CallG.start (C := mkC Hvaf.prog) cok (args := [WV a b c d]) Hvaf.func86 rfl Hvaf.ntmps86 (by simp) (by kernel_rfl) ?_
  intro xa xr
  repeat (first | refine SeqS.go cok ?_)
  intro xb
  repeat (first | refine SeqS.go cok ?_ | refine And.intro (Eq.refl true) ?_ | refine And.intro (by dsimp only; omega) ?_ | (refine NatS.keep ?_; first | with_reducible refine NatS.lit ?_) | (refine ValS.keep ?_; first | with_reducible refine ValS.sl0 ?_) | (refine QuG.keep ?_; first | refine QuG.l1 cok 2 rfl rfl rfl rfl rfl (by first | exact Nat.le_of_ble_eq_true rfl | omega | (dsimp only; omega) | (simp only [addS_eq, mulS_eq]; omega)) ?_) | refine W.drawI 2 cok [0, 0, 2, 7] [0, 1, 2, 3] [2] (by kernel_rfl) (by kernel_rfl) ?_)
  refine (PutBE64_spec (len := 32) (cap := 32) (off := 0) (x := ⟨xb, 32, 22, _⟩) (by omega) (by first | omega | (dsimp only; omega)) (by omega) (by omega) h3).mono ?_
  rintro r _ - ⟨rfl, rfl⟩
  repeat (first | refine SeqS.go cok ?_ | refine And.intro (Eq.refl true) ?_ | refine And.intro (by dsimp only; omega) ?_ | (refine NatS.keep ?_; first | with_reducible refine NatS.lit ?_) | (refine ValS.keep ?_; first | with_reducible refine ValS.sl0 ?_) | (refine QuG.keep ?_; first | refine QuG.l1 cok 2 rfl rfl rfl rfl rfl (by first | exact Nat.le_of_ble_eq_true rfl | omega | (dsimp only; omega) | (simp only [addS_eq, mulS_eq]; omega)) ?_) | (refine still_in ?_; first | refine still_drop (by decide) ?_) | refine W.drawI 3 cok [0, 0, 2, 7] [0, 1, 2, 3] [2] (by kernel_rfl) (by kernel_rfl) ?_)
  refine (PutBE64_spec (len := 32) (cap := 32) (off := 8) (x := ⟨xb, 32, 22, _⟩) (by omega) (by first | omega | (dsimp only; omega)) (by omega) (by omega) h2).mono ?_
  rintro r _ - ⟨rfl, rfl⟩
  repeat (first | refine SeqS.go cok ?_ | refine And.intro (Eq.refl true) ?_ | refine And.intro (by dsimp only; omega) ?_ | (refine NatS.keep ?_; first | with_reducible refine NatS.lit ?_) | (refine ValS.keep ?_; first | with_reducible refine ValS.sl0 ?_) | (refine QuG.keep ?_; first | refine QuG.l1 cok 2 rfl rfl rfl rfl rfl (by first | exact Nat.le_of_ble_eq_true rfl | omega | (dsimp only; omega) | (simp only [addS_eq, mulS_eq]; omega)) ?_) | (refine still_in ?_; first | refine still_drop (by decide) ?_) | refine W.drawI 4 cok [0, 0, 2, 7] [0, 1, 2, 3] [2] (by kernel_rfl) (by kernel_rfl) ?_)
  refine (PutBE64_spec (len := 32) (cap := 32) (off := 16) (x := ⟨xb, 32, 22, _⟩) (by omega) (by first | omega | (dsimp only; omega)) (by omega) (by omega) h1).mono ?_
  rintro r _ - ⟨rfl, rfl⟩
  repeat (first | refine SeqS.go cok ?_ | refine And.intro (Eq.refl true) ?_ | refine And.intro (by dsimp only; omega) ?_ | (refine NatS.keep ?_; first | with_reducible refine NatS.lit ?_) | (refine ValS.keep ?_; first | with_reducible refine ValS.sl0 ?_) | (refine QuG.keep ?_; first | refine QuG.l1 cok 2 rfl rfl rfl rfl rfl (by first | exact Nat.le_of_ble_eq_true rfl | omega | (dsimp only; omega) | (simp only [addS_eq, mulS_eq]; omega)) ?_) | (refine still_in ?_; first | refine still_drop (by decide) ?_) | refine W.drawI 5 cok [0, 0, 2, 7] [0, 1, 2, 3] [2] (by kernel_rfl) (by kernel_rfl) ?_)
  refine (PutBE64_spec (len := 32) (cap := 32) (off := 24) (x := ⟨xb, 32, 22, _⟩) (by omega) (by first | omega | (dsimp only; omega)) (by omega) (by omega) h0).mono ?_
  rintro r _ - ⟨rfl, rfl⟩
  repeat (first | refine SeqS.go cok ?_ | (refine QuG.keep ?_; first | refine QuG.lN cok 0 rfl rfl rfl rfl rfl (by first | exact Nat.le_of_ble_eq_true rfl | omega | (dsimp only; omega) | (simp only [addS_eq, mulS_eq]; omega)) ?_) | (refine still_in ?_; first | refine still_drop (by decide) ?_) | (refine LdG.keep ?_; first | refine LdG.lN cok 1 rfl rfl rfl rfl rfl (by first | exact Nat.le_of_ble_eq_true rfl | omega | (dsimp only; omega) | (simp only [addS_eq, mulS_eq]; omega)) ?_) | (refine OpG.keep ?_; first | refine OpG.sL cok 1 rfl rfl rfl rfl rfl rfl rfl (by first | exact Nat.le_of_ble_eq_true rfl | omega | (dsimp only; omega) | (simp only [addS_eq, mulS_eq]; omega)) ?_))
  obtain ⟨rfl⟩ := ea
  exact Fin.drop S.G [_, _, _] ⟨rfl, Eq.trans (b := bytesV (be8 d ++ be8 c ++ be8 b ++ be8 a)) rfl (by rw [be32_limbs h0 h1 h2 h3])⟩
end Go.Proofs.YgvafwGreat
