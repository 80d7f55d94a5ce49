import Derived.Test.YgvafwGreatM1
set_option maxRecDepth 100000
set_option maxHeartbeats 4000000
set_option linter.unusedVariables false
set_option linter.unusedSimpArgs false
-- v2
-- plus: (refine QuG.keep ?_; fail "none")
namespace Go.Proofs.YgvafwGreat
open Go.HL Go.Proofs

def foldN (h x : Nat) : Nat := ((h ^^^ x) * 11400714819323198485 / 18446744073709551616) ^^^ ((h ^^^ x) * 11400714819323198485 % 18446744073709551616)
theorem foldN_lt {h x : Nat} (hh : h < 18446744073709551616) (hx : x < 18446744073709551616) : foldN h x < 18446744073709551616 := by
  have h1 : h ^^^ x < 2 ^ 64 := Nat.xor_lt_two_pow hh hx
  unfold foldN
  refine Nat.xor_lt_two_pow (n := 64) ?_ (Nat.mod_lt _ (by decide))
  refine Nat.div_lt_of_lt_mul ?_
  exact Nat.mul_lt_mul_of_lt_of_le h1 (by decide) (by decide)
/-- vault.fold -/
theorem vFold {S : St} {h x : Nat} (hh : h < 18446744073709551616) (hx : x < 18446744073709551616) : CallG Hvaf.prog 360 #[.int .u64 (h : Nat), .int .u64 (x : Nat)] S fun r S' => S = S' ∧ r = .int .u64 (foldN h x : Nat) := by
  have h1 : h ^^^ x < 18446744073709551616 := Nat.xor_lt_two_pow (n := 64) hh hx
  have hm := fun (S : St) => NMul64_spec (S := S) (x := h ^^^ x) (y := 11400714819323198485) h1 (by decide)
  have h2 : (h ^^^ x) * 11400714819323198485 / 18446744073709551616 < 18446744073709551616 := Nat.div_lt_of_lt_mul (Nat.mul_lt_mul_of_lt_of_le h1 (by decide) (by decide))
  unfold foldN
  refine CallG.start (C := mkC Hvaf.prog) cok (args := [.int .u64 (h : Nat), .int .u64 (x : Nat)]) Hvaf.func360 rfl Hvaf.ntmps360 (by simp) (by kernel_rfl) ?_
  repeat (first | refine SeqS.go cok ?_ | (refine ValS.keep ?_; first | (with_reducible refine ValS.kU64 ?_; first | (with_reducible refine ValS.xorFU64 ?_ ?_ (fun _ => ?_); omega; omega))))
  refine (hm _).mono ?_
  rintro r _ - ⟨rfl, rfl⟩
  repeat (first | refine SeqS.go cok ?_ | (refine ValS.keep ?_; first | (with_reducible refine ValS.kU64 ?_; first | (with_reducible refine ValS.xorFU64 ?_ ?_ (fun _ => ?_); omega; omega))))
  exact Fin.same ⟨rfl, rfl⟩
def homeA (a : List Nat) : Nat := foldN (foldN (foldN (foldN 2611923443488327891 (bev ((a.drop 0).take 8))) (bev ((a.drop 8).take 8))) (bev ((a.drop 12).take 8))) 1376283091369227076 % 4096
theorem homeA_lt (a : List Nat) : homeA a < 4096 := Nat.mod_lt _ (by decide)
theorem bev8_lt {ds : List Nat} (h8 : ∀ d ∈ ds, d < 256) (hl : ds.length ≤ 8) : bev ds < 18446744073709551616 := by
  have h := val_lt ds.reverse (by simpa using h8)
  rw [List.length_reverse] at h
  exact Nat.lt_of_lt_of_le h (Nat.le_trans (Nat.pow_le_pow_right (by decide) hl) (by decide))
theorem row_byt2 {S : St} {x : Ent} {o n : Nat} {ds : List Nat} (hrow : Row x.c o (bvs ds)) (hx : Rd S x) (h8 : ∀ d ∈ ds, d < 256) (hn : ds.length = n) (hl : n < 2 ^ 40) (ho : o + n ≤ x.sz) : Byt S (.slice (some ⟨x.b, o, none⟩) n n) ds := by
  subst hn
  exact ⟨h8, by omega, _, _, rfl, Nat.le_refl _, by omega, .inr ⟨x, o, rfl, hx, Row.bs hrow ho⟩⟩
theorem box_byt {S : St} {b n : Nat} {T : TypeId} {ds : List Nat} (hx : ⟨b, (bvs ds).length, T, vc (bytesV ds)⟩ ∈ S.G) (h8 : ∀ d ∈ ds, d < 256) (hn : ds.length = n) (hl : n < 2 ^ 40) : Byt S (.slice (some ⟨b, 0, none⟩) n n) ds :=
  row_byt2 (x := ⟨b, (bvs ds).length, T, vc (bytesV ds)⟩) (Row.box _) (.inr hx) h8 hn hl (by show 0 + n ≤ (bvs ds).length; simp [bvs]; omega)
/-- vault.acctHome -/
theorem vAcctHome {S : St} {a : List Nat} (hl : a.length = 20) (h8 : ∀ d ∈ a, d < 256) : CallG Hvaf.prog 249 #[bytesV a] S fun r S' => S = S' ∧ r = .int .u32 (homeA a : Nat) := by
  have hsz : (bytesV a).cells.size = 20 := by show (bvs a).toArray.size = 20; simp [hl]
  have hb := fun k n => bev8_lt (ds := (a.drop k).take n) (fun d hd => h8 d (List.mem_of_mem_drop (List.mem_of_mem_take hd)))
  have b0 := hb 0 8 (by simp; omega)
  have b1 := hb 8 8 (by simp; omega)
  have b2 := hb 12 8 (by simp; omega)
  have f0 := foldN_lt (h := 2611923443488327891) (by decide) b0
  have f1 := foldN_lt f0 b1
  have f2 := foldN_lt f1 b2
  have f3 := foldN_lt (x := 1376283091369227076) f2 (by decide)
  have c0 := fun (S : St) => vFold (S := S) (h := 2611923443488327891) (by decide) b0
  have c1 := fun (S : St) => vFold (S := S) f0 b1
  have c2 := fun (S : St) => vFold (S := S) f1 b2
  have c3 := fun (S : St) => vFold (S := S) (x := 1376283091369227076) f2 (by decide)
  unfold homeA
  obtain ⟨I, G⟩ := S
  refine CallG.start (C := mkC Hvaf.prog) cok (args := [bytesV a]) Hvaf.func249 rfl Hvaf.ntmps249 (by simp) (by kernel_rfl) ?_
  intro xb
  repeat (first | refine SeqS.go cok ?_ | refine And.intro (Eq.refl true) ?_ | (refine ValS.keep ?_; first | with_reducible refine ValS.sl0 ?_))
  refine (BE64_spec (ds := a) (off := 0) (box_byt (T := 31) List.mem_cons_self h8 hl (by decide)) (by omega)).mono ?_
  rintro r _ - ⟨rfl, rfl⟩
  repeat (first | refine SeqS.go cok ?_ | refine And.intro (Eq.refl true) ?_ | (refine ValS.keep ?_; first | with_reducible refine ValS.sl0 ?_))
  refine (BE64_spec (ds := a) (off := 8) (box_byt (T := 31) List.mem_cons_self h8 hl (by decide)) (by omega)).mono ?_
  rintro r _ - ⟨rfl, rfl⟩
  repeat (first | refine SeqS.go cok ?_ | refine And.intro (Eq.refl true) ?_ | (refine ValS.keep ?_; first | with_reducible refine ValS.sl0 ?_))
  refine (BE64_spec (ds := a) (off := 12) (box_byt (T := 31) List.mem_cons_self h8 hl (by decide)) (by omega)).mono ?_
  rintro r _ - ⟨rfl, rfl⟩
  repeat (first | refine SeqS.go cok ?_)
  refine (c0 _).mono ?_
  rintro r _ - ⟨rfl, rfl⟩
  skip
  refine (c1 _).mono ?_
  rintro r _ - ⟨rfl, rfl⟩
  skip
  refine (c2 _).mono ?_
  rintro r _ - ⟨rfl, rfl⟩
  repeat (first | refine SeqS.go cok ?_)
  refine (c3 _).mono ?_
  rintro r _ - ⟨rfl, rfl⟩
  repeat (first | refine SeqS.go cok ?_ | refine And.intro (by omega) ?_ | (refine ValS.keep ?_; first | (with_reducible refine ValS.kU64 ?_; first | with_reducible refine ValS.remN_L ?_) | (with_reducible refine ValS.kU32 ?_; first | (with_reducible refine ValS.convU32 ?_ ?_ ; omega))))
  exact Fin.drop G [_] ⟨rfl, rfl⟩
def mixN (acct key : Nat) : Nat := foldN (foldN (foldN (foldN (foldN (foldN 2611923443488327891 acct) (key % 18446744073709551616)) (key / 18446744073709551616 % 18446744073709551616)) (key / 340282366920938463463374607431768211456 % 18446744073709551616)) (key / 6277101735386680763835789423207666416102355444464034512896 % 18446744073709551616)) 1376283091369227076
theorem mixN_lt {acct key : Nat} (ha : acct < 18446744073709551616) : mixN acct key < 18446744073709551616 := by
  unfold mixN
  have m : ∀ n : Nat, n % 18446744073709551616 < 18446744073709551616 := fun n => Nat.mod_lt _ (by decide)
  exact foldN_lt (foldN_lt (foldN_lt (foldN_lt (foldN_lt (foldN_lt (by decide) ha) (m _)) (m _)) (m _)) (m _)) (by decide)
/-- vault.mixSlot -/
theorem vMixSlot {S : St} {acct key : Nat} (ha : acct < 2147483648) : CallG Hvaf.prog 361 #[.int .i32 (acct : Nat), wordV key] S fun r S' => S = S' ∧ r = .int .u64 (mixN acct key : Nat) := by
  have m : ∀ n : Nat, n % 18446744073709551616 < 18446744073709551616 := fun n => Nat.mod_lt _ (by decide)
  have f0 := foldN_lt (h := 2611923443488327891) (x := acct) (by decide) (by omega)
  have f1 := foldN_lt f0 (m key)
  have f2 := foldN_lt f1 (m (key / 18446744073709551616))
  have f3 := foldN_lt f2 (m (key / 340282366920938463463374607431768211456))
  have f4 := foldN_lt f3 (m (key / 6277101735386680763835789423207666416102355444464034512896))
  have c0 := fun (S : St) => vFold (S := S) (h := 2611923443488327891) (x := acct) (by decide) (by omega)
  have c1 := fun (S : St) => vFold (S := S) f0 (m key)
  have c2 := fun (S : St) => vFold (S := S) f1 (m (key / 18446744073709551616))
  have c3 := fun (S : St) => vFold (S := S) f2 (m (key / 340282366920938463463374607431768211456))
  have c4 := fun (S : St) => vFold (S := S) f3 (m (key / 6277101735386680763835789423207666416102355444464034512896))
  have c5 := fun (S : St) => vFold (S := S) (x := 1376283091369227076) f4 (by decide)
  unfold mixN wordV
  have g0 := m key
  have g1 := m (key / 18446744073709551616)
  have g2 := m (key / 340282366920938463463374607431768211456)
  have g3 := m (key / 6277101735386680763835789423207666416102355444464034512896)
  generalize key % 18446744073709551616 = k0 at *
  generalize key / 18446744073709551616 % 18446744073709551616 = k1 at *
  generalize key / 340282366920938463463374607431768211456 % 18446744073709551616 = k2 at *
  generalize key / 6277101735386680763835789423207666416102355444464034512896 % 18446744073709551616 = k3 at *
  obtain ⟨I, G⟩ := S
  refine CallG.start (C := mkC Hvaf.prog) cok (args := [.int .i32 (acct : Nat), WV k0 k1 k2 k3]) Hvaf.func361 rfl Hvaf.ntmps361 (by simp) (by kernel_rfl) ?_
  intro xb
  repeat (first | refine SeqS.go cok ?_ | (refine ValS.keep ?_; first | (with_reducible refine ValS.kU64 ?_; first | (with_reducible refine ValS.convU64 ?_ ?_ ; omega)) | (with_reducible refine ValS.kU32 ?_; first | (with_reducible refine ValS.convU32 ?_ ?_ ; omega))))
  refine (c0 _).mono ?_
  rintro r _ - ⟨rfl, rfl⟩
  repeat (first | refine SeqS.go cok ?_ | (refine QuG.keep ?_; first | refine QuG.lN cok 0 rfl rfl rfl rfl rfl (by first | exact Nat.le_of_ble_eq_true rfl | omega | (dsimp only; omega) | (simp only [addS_eq, mulS_eq]; omega)) ?_))
  refine W.rounds cok (by kernel_rfl) 5 ?_
  repeat (first | (refine QuG.keep ?_; first | refine QuG.ixA cok (xs := [_, _, _, _]) (k := .u64) (n := 0) rfl rfl rfl rfl rfl rfl rfl rfl (by decide) ?_) | refine SeqS.go cok ?_ | refine CondS.t rfl ?_)
  refine (c1 _).mono ?_
  rintro r _ - ⟨rfl, rfl⟩
  repeat (first | (refine QuG.keep ?_; first | refine QuG.ixA cok (xs := [_, _, _, _]) (k := .u64) (n := 1) rfl rfl rfl rfl rfl rfl rfl rfl (by decide) ?_) | refine SeqS.go cok ?_ | refine CondS.t rfl ?_ | (refine ValS.keep ?_; first | (with_reducible refine ValS.kI64 ?_; first | (with_reducible refine ValS.addI64_LL ?_ ?_ ; omega))))
  refine (c2 _).mono ?_
  rintro r _ - ⟨rfl, rfl⟩
  repeat (first | (refine QuG.keep ?_; first | refine QuG.ixA cok (xs := [_, _, _, _]) (k := .u64) (n := 2) rfl rfl rfl rfl rfl rfl rfl rfl (by decide) ?_) | refine SeqS.go cok ?_ | refine CondS.t rfl ?_ | (refine ValS.keep ?_; first | (with_reducible refine ValS.kI64 ?_; first | (with_reducible refine ValS.addI64_L ?_ ?_ ; omega))))
  refine (c3 _).mono ?_
  rintro r _ - ⟨rfl, rfl⟩
  repeat (first | (refine QuG.keep ?_; first | refine QuG.ixA cok (xs := [_, _, _, _]) (k := .u64) (n := 3) rfl rfl rfl rfl rfl rfl rfl rfl (by decide) ?_) | refine SeqS.go cok ?_ | refine CondS.t rfl ?_ | (refine ValS.keep ?_; first | (with_reducible refine ValS.kI64 ?_; first | (with_reducible refine ValS.addI64_L ?_ ?_ ; omega))))
  refine (c4 _).mono ?_
  rintro r _ - ⟨rfl, rfl⟩
  repeat (first | refine SeqS.go cok ?_ | refine CondS.f rfl ?_ | (refine ValS.keep ?_; first | (with_reducible refine ValS.kI64 ?_; first | (with_reducible refine ValS.addI64_L ?_ ?_ ; omega))))
  refine (c5 _).mono ?_
  rintro r _ - ⟨rfl, rfl⟩
  repeat (first | refine SeqS.go cok ?_)
  exact Fin.drop G [_] ⟨rfl, rfl⟩
/-- vault.slotHome -/
theorem vSlotHome {S : St} {acct key : Nat} (ha : acct < 2147483648) : CallG Hvaf.prog 250 #[.int .i32 (acct : Nat), wordV key] S fun r S' => S = S' ∧ r = .int .u32 (mixN acct key % 4096 : Nat) := by
  have c0 := fun (S : St) => vMixSlot (S := S) (key := key) ha
  have f3 := mixN_lt (acct := acct) (key := key) (by omega)
  obtain ⟨I, G⟩ := S
  unfold wordV at c0 ⊢
  refine CallG.start (C := mkC Hvaf.prog) cok (args := [.int .i32 (acct : Nat), WV _ _ _ _]) Hvaf.func250 rfl Hvaf.ntmps250 (by simp) (by kernel_rfl) ?_
  intro xb
  repeat (first | refine SeqS.go cok ?_ | (refine QuG.keep ?_; first | refine QuG.lN cok 0 rfl rfl rfl rfl rfl (by first | exact Nat.le_of_ble_eq_true rfl | omega | (dsimp only; omega) | (simp only [addS_eq, mulS_eq]; omega)) ?_))
  refine (c0 _).mono ?_
  rintro r _ - ⟨rfl, rfl⟩
  repeat (first | refine SeqS.go cok ?_ | refine And.intro (by omega) ?_ | (refine ValS.keep ?_; first | (with_reducible refine ValS.kU64 ?_; first | with_reducible refine ValS.remN_L ?_) | (with_reducible refine ValS.kU32 ?_; first | (with_reducible refine ValS.convU32 ?_ ?_ ; omega))))
  exact Fin.drop G [_] ⟨rfl, rfl⟩
end Go.Proofs.YgvafwGreat
