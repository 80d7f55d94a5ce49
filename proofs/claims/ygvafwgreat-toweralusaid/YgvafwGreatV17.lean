import Derived.Test.YgvafwGreatV15
set_option exponentiation.threshold 1000
set_option maxRecDepth 100000
set_option maxHeartbeats 4000000
set_option linter.unusedVariables false
set_option linter.unusedSimpArgs false
-- v2
-- v4
-- v5
-- v6
-- v7
-- still: exact QuV.of (QuG.elF cok hEj hrj rfl rfl rfl rfl elO hq (by decide) e0 rfl)
-- still: exact QuV.of (QuG.elF cok hEj hrj rfl rfl rfl rfl elO hq (by decide) e1 rfl)
-- still: exact QuV.of (QuG.elF cok hEj hrj rfl rfl rfl rfl elO hq (by decide) ev rfl)
-- still: exact QuV.of (QuG.elS cok hEj hrj rfl rfl rfl rfl elO hq (by decide) ew rfl)
namespace Go.Proofs.YgvafwGreat
open Go.HL Go.Proofs

theorem st_v {I : Ent → Prop} {cb sz k : Nat} {T : TypeId} {c : Nat → Value} {G : List Ent} {v w : Value} (h : v = w) : (⟨I, ⟨cb, sz, T, upd c k v⟩ :: G⟩ : St) = ⟨I, ⟨cb, sz, T, upd c k w⟩ :: G⟩ := by rw [h]
/-- vault.Vault.undo, kind 3 -/
theorem vUndo3 {I : Ent → Prop} {G2 : List Ent} {cb sz b cap jb jz q p n w : Nat} {T : TypeId} {c ca cj : Nat → Value} {vss jss : List (List Value)} (hsz : 27019 ≤ sz) (hsl : c 2436 = sl b 0 n cap) (hE : Els ⟨b, mulS cap 14, 186, ca⟩ 0 14 vss) (hn : vss.length = n) (hn2 : n < 20000) (hp : p < n)
    (hj : (⟨jb, jz, 228, cj⟩ : Ent) ∈ G2) (hEj : Els ⟨jb, jz, 228, cj⟩ 0 9 jss) (hq : q < jss.length) (e0 : (jss.getD q []).getD 0 undef = .int .u8 ((3 : Nat) : Int)) (e1 : (jss.getD q []).getD 1 undef = .int .i32 (p : Nat)) (ew : ((jss.getD q []).drop 3).take 4 = wcs w) :
    CallG Hvaf.prog 409 #[ptr cb 2435, ptr jb (addS 0 (mulS q 9))] ⟨I, ⟨cb, sz, T, c⟩ :: ⟨b, mulS cap 14, 186, ca⟩ :: G2⟩ fun r S' => r = .bool true ∧ ∃ ca', S' = ⟨I, ⟨cb, sz, T, c⟩ :: ⟨b, mulS cap 14, 186, ca'⟩ :: G2⟩ ∧ Els ⟨b, mulS cap 14, 186, ca'⟩ 0 14 (vss.set p (setN (vss.getD p []) 5 (wcs w))) := by
  have hrj : Rd ⟨I, ⟨cb, sz, T, c⟩ :: ⟨b, mulS cap 14, 186, ca⟩ :: G2⟩ (⟨jb, jz, 228, cj⟩ : Ent) := .inr (List.mem_cons_of_mem _ (List.mem_cons_of_mem _ hj))
  have hp' : p < vss.length := by omega
  refine CallG.start (C := mkC Hvaf.prog) cok (args := [ptr cb 2435, ptr jb (addS 0 (mulS q 9))]) Hvaf.func409 rfl Hvaf.ntmps409 (by simp) (by kernel_rfl) ?_
  repeat (first | (refine QuG.keep ?_; first | refine QuG.elF cok hEj hrj rfl rfl rfl rfl elO hq (by decide) e0 ?_ | refine QuG.elF cok hEj hrj rfl rfl rfl rfl elO hq (by decide) e1 ?_ | refine QuG.elS cok hEj hrj rfl rfl rfl rfl elO hq (by decide) ew ?_) | (refine QuG.keep ?_; first | refine QuG.l1E cok 0 rfl rfl rfl rfl rfl (by first | exact Nat.le_of_ble_eq_true rfl | omega | (dsimp only; omega) | (simp only [addS_eq, mulS_eq]; omega)) (by assumption) ?_) | refine SeqS.go cok ?_ | refine GuardS.yes rfl ?_ | refine CondS.t rfl ?_ | refine CondS.f rfl ?_ | refine And.intro (by omega) ?_ | (refine NatS.keep ?_; first | with_reducible refine NatS.nat ?_) | (refine ValS.keep ?_; first | (with_reducible refine ValS.kI64 ?_; first | (with_reducible refine ValS.convI64 ?_ ?_ ; omega))) | refine W.drawI 27 cok [0, 1, 3, 7, 15, 31, 63, 127, 255, 511, 1023, 63, 2111, 6207, 14399, 30783, 65535, 131071] [0, 1, 2, 3, 4, 5, 6, 7, 8, 9, 10, 11, 12, 13, 14, 15, 16, 17] [3, 9, 14] (by kernel_rfl) (by kernel_rfl) ?_ | refine W.drawI 30 cok [0, 1, 3, 7, 0, 16, 48, 112, 0, 256, 768, 1792, 4095, 8191, 16383] [0, 1, 2, 3, 4, 5, 6, 7, 8, 9, 10, 11, 12, 13, 14] [3, 7, 11] (by kernel_rfl) (by kernel_rfl) ?_ | (refine CondS.keep ?_; first | refine CondS.d0 rfl (by omega) ?_))
  refine OpG.keep ?_
  refine OpG.elS cok 1 (vs := wcs w) rfl hE rfl rfl rfl elO hp' rfl rfl (by show 5 + 4 ≤ 14; decide) (wcs_one w) ?_
  intro ca' hE'
  repeat (first | refine SeqS.go cok ?_ | (refine still_in ?_; first | refine still_drop (by decide) ?_))
  exact Fin.same ⟨rfl, ca', rfl, hE'⟩
/-- vault.Vault.undo, kind 5 -/
theorem vUndo5 {I : Ent → Prop} {G2 : List Ent} {cb sz b cap jb jz q p n : Nat} {T : TypeId} {c ca cj : Nat → Value} {vss jss : List (List Value)} {u : Value} (hsz : 27019 ≤ sz) (hsl : c 2436 = sl b 0 n cap) (hE : Els ⟨b, mulS cap 14, 186, ca⟩ 0 14 vss) (hn : vss.length = n) (hn2 : n < 20000) (hp : p < n)
    (hj : (⟨jb, jz, 228, cj⟩ : Ent) ∈ G2) (hEj : Els ⟨jb, jz, 228, cj⟩ 0 9 jss) (hq : q < jss.length) (e0 : (jss.getD q []).getD 0 undef = .int .u8 ((5 : Nat) : Int)) (e1 : (jss.getD q []).getD 1 undef = .int .i32 (p : Nat)) (ev : (jss.getD q []).getD 8 undef = u) (hu : one u = true) :
    CallG Hvaf.prog 409 #[ptr cb 2435, ptr jb (addS 0 (mulS q 9))] ⟨I, ⟨cb, sz, T, c⟩ :: ⟨b, mulS cap 14, 186, ca⟩ :: G2⟩ fun r S' => r = .bool true ∧ ∃ ca', S' = ⟨I, ⟨cb, sz, T, c⟩ :: ⟨b, mulS cap 14, 186, ca'⟩ :: G2⟩ ∧ Els ⟨b, mulS cap 14, 186, ca'⟩ 0 14 (vss.set p ((vss.getD p []).set 13 u)) := by
  have hrj : Rd ⟨I, ⟨cb, sz, T, c⟩ :: ⟨b, mulS cap 14, 186, ca⟩ :: G2⟩ (⟨jb, jz, 228, cj⟩ : Ent) := .inr (List.mem_cons_of_mem _ (List.mem_cons_of_mem _ hj))
  have hp' : p < vss.length := by omega
  refine CallG.start (C := mkC Hvaf.prog) cok (args := [ptr cb 2435, ptr jb (addS 0 (mulS q 9))]) Hvaf.func409 rfl Hvaf.ntmps409 (by simp) (by kernel_rfl) ?_
  repeat (first | (refine QuG.keep ?_; first | refine QuG.elF cok hEj hrj rfl rfl rfl rfl elO hq (by decide) e0 ?_ | refine QuG.elF cok hEj hrj rfl rfl rfl rfl elO hq (by decide) e1 ?_ | refine QuG.elF cok hEj hrj rfl rfl rfl rfl elO hq (by decide) ev ?_) | (refine QuG.keep ?_; first | refine QuG.l1E cok 0 rfl rfl rfl rfl rfl (by first | exact Nat.le_of_ble_eq_true rfl | omega | (dsimp only; omega) | (simp only [addS_eq, mulS_eq]; omega)) (by assumption) ?_) | refine SeqS.go cok ?_ | refine GuardS.yes rfl ?_ | refine CondS.t rfl ?_ | refine CondS.f rfl ?_ | refine And.intro (by omega) ?_ | (refine NatS.keep ?_; first | with_reducible refine NatS.nat ?_) | (refine ValS.keep ?_; first | (with_reducible refine ValS.kI64 ?_; first | (with_reducible refine ValS.convI64 ?_ ?_ ; omega))) | refine W.drawI 27 cok [0, 1, 3, 7, 15, 31, 63, 127, 255, 511, 1023, 63, 2111, 6207, 14399, 30783, 65535, 131071] [0, 1, 2, 3, 4, 5, 6, 7, 8, 9, 10, 11, 12, 13, 14, 15, 16, 17] [3, 9, 14] (by kernel_rfl) (by kernel_rfl) ?_ | refine W.drawI 31 cok [0, 1, 3, 7, 0, 16, 48, 112, 0, 256, 768, 1792, 4095, 8191, 16383] [0, 1, 2, 3, 4, 5, 6, 7, 8, 9, 10, 11, 12, 13, 14] [3, 7, 11] (by kernel_rfl) (by kernel_rfl) ?_ | (refine CondS.keep ?_; first | refine CondS.d0 rfl (by omega) ?_))
  refine OpG.keep ?_
  refine OpG.elF cok 1 (u := u) rfl hE rfl rfl rfl rfl elO hp' (by decide) rfl hu ?_
  intro ca' hE'
  repeat (first | refine SeqS.go cok ?_ | (refine still_in ?_; first | refine still_drop (by decide) ?_))
  exact Fin.same ⟨rfl, ca', rfl, hE'⟩
/-- vault.Vault.undo, kind 8 -/
theorem vUndo8 {I : Ent → Prop} {G2 : List Ent} {cb sz b cap jb jz q p n w : Nat} {T : TypeId} {c ca cj : Nat → Value} {vss jss : List (List Value)} (hsz : 27019 ≤ sz) (hsl : c 27017 = sl b 0 n cap) (hE : Els ⟨b, mulS cap 9, 440, ca⟩ 0 9 vss) (hn : vss.length = n) (hn2 : n < 20000) (hp : p < n)
    (hj : (⟨jb, jz, 228, cj⟩ : Ent) ∈ G2) (hEj : Els ⟨jb, jz, 228, cj⟩ 0 9 jss) (hq : q < jss.length) (e0 : (jss.getD q []).getD 0 undef = .int .u8 ((8 : Nat) : Int)) (e1 : (jss.getD q []).getD 1 undef = .int .i32 (p : Nat)) (ew : ((jss.getD q []).drop 3).take 4 = wcs w) :
    CallG Hvaf.prog 409 #[ptr cb 2435, ptr jb (addS 0 (mulS q 9))] ⟨I, ⟨cb, sz, T, c⟩ :: ⟨b, mulS cap 9, 440, ca⟩ :: G2⟩ fun r S' => r = .bool true ∧ ∃ ca', S' = ⟨I, ⟨cb, sz, T, c⟩ :: ⟨b, mulS cap 9, 440, ca'⟩ :: G2⟩ ∧ Els ⟨b, mulS cap 9, 440, ca'⟩ 0 9 (vss.set p (setN (vss.getD p []) 5 (wcs w))) := by
  have hrj : Rd ⟨I, ⟨cb, sz, T, c⟩ :: ⟨b, mulS cap 9, 440, ca⟩ :: G2⟩ (⟨jb, jz, 228, cj⟩ : Ent) := .inr (List.mem_cons_of_mem _ (List.mem_cons_of_mem _ hj))
  have hp' : p < vss.length := by omega
  refine CallG.start (C := mkC Hvaf.prog) cok (args := [ptr cb 2435, ptr jb (addS 0 (mulS q 9))]) Hvaf.func409 rfl Hvaf.ntmps409 (by simp) (by kernel_rfl) ?_
  repeat (first | (refine QuG.keep ?_; first | refine QuG.elF cok hEj hrj rfl rfl rfl rfl elO hq (by decide) e0 ?_ | refine QuG.elF cok hEj hrj rfl rfl rfl rfl elO hq (by decide) e1 ?_ | refine QuG.elS cok hEj hrj rfl rfl rfl rfl elO hq (by decide) ew ?_) | (refine QuG.keep ?_; first | refine QuG.l1E cok 0 rfl rfl rfl rfl rfl (by first | exact Nat.le_of_ble_eq_true rfl | omega | (dsimp only; omega) | (simp only [addS_eq, mulS_eq]; omega)) (by assumption) ?_) | refine SeqS.go cok ?_ | refine GuardS.yes rfl ?_ | refine CondS.t rfl ?_ | refine CondS.f rfl ?_ | refine And.intro (by omega) ?_ | (refine NatS.keep ?_; first | with_reducible refine NatS.nat ?_) | (refine ValS.keep ?_; first | (with_reducible refine ValS.kI64 ?_; first | (with_reducible refine ValS.convI64 ?_ ?_ ; omega))) | refine W.drawI 33 cok [0, 1, 3, 7, 15, 31, 63, 127, 255, 511, 1023, 63, 2111, 6207, 14399, 30783, 65535, 131071] [0, 1, 2, 3, 4, 5, 6, 7, 8, 9, 10, 11, 12, 13, 14, 15, 16, 17] [3, 9, 14] (by kernel_rfl) (by kernel_rfl) ?_ | refine W.drawI 35 cok [0, 1, 3, 7, 0, 16, 48, 112, 0, 256, 768, 1792, 4095, 8191, 16383] [0, 1, 2, 3, 4, 5, 6, 7, 8, 9, 10, 11, 12, 13, 14] [3, 7, 11] (by kernel_rfl) (by kernel_rfl) ?_ | (refine CondS.keep ?_; first | refine CondS.d0 rfl (by omega) ?_))
  refine OpG.keep ?_
  refine OpG.elS cok 1 (vs := wcs w) rfl hE rfl rfl rfl elO hp' rfl rfl (by show 5 + 4 ≤ 9; decide) (wcs_one w) ?_
  intro ca' hE'
  repeat (first | refine SeqS.go cok ?_ | (refine still_in ?_; first | refine still_drop (by decide) ?_))
  exact Fin.same ⟨rfl, ca', rfl, hE'⟩
/-- vault.Vault.undo, kind 6 -/
theorem vUndo6 {I : Ent → Prop} {G2 : List Ent} {cb sz jb jz q n : Nat} {T : TypeId} {c cj : Nat → Value} {jss : List (List Value)} (hsz : 27019 ≤ sz)
    (hj : (⟨jb, jz, 228, cj⟩ : Ent) ∈ G2) (hEj : Els ⟨jb, jz, 228, cj⟩ 0 9 jss) (hq : q < jss.length) (e0 : (jss.getD q []).getD 0 undef = .int .u8 ((6 : Nat) : Int)) (ev : (jss.getD q []).getD 2 undef = .int .u64 (n : Nat)) :
    CallG Hvaf.prog 409 #[ptr cb 2435, ptr jb (addS 0 (mulS q 9))] ⟨I, ⟨cb, sz, T, c⟩ :: G2⟩ fun r S' => r = .bool true ∧ S' = ⟨I, ⟨cb, sz, T, upd c 27015 (.int .u64 (n : Nat))⟩ :: G2⟩ := by
  have hrj : Rd ⟨I, ⟨cb, sz, T, c⟩ :: G2⟩ (⟨jb, jz, 228, cj⟩ : Ent) := .inr (List.mem_cons_of_mem _ hj)
  refine CallG.start (C := mkC Hvaf.prog) cok (args := [ptr cb 2435, ptr jb (addS 0 (mulS q 9))]) Hvaf.func409 rfl Hvaf.ntmps409 (by simp) (by kernel_rfl) ?_
  repeat (first | (refine QuG.keep ?_; first | refine QuG.elF cok hEj hrj rfl rfl rfl rfl elO hq (by decide) e0 ?_ | refine QuG.elF cok hEj hrj rfl rfl rfl rfl elO hq (by decide) ev ?_) | refine SeqS.go cok ?_ | refine CondS.t rfl ?_ | refine CondS.f rfl ?_ | (refine OpG.keep ?_; first | refine OpG.s1 cok 0 rfl rfl rfl rfl rfl (by first | exact Nat.le_of_ble_eq_true rfl | omega | (dsimp only; omega) | (simp only [addS_eq, mulS_eq]; omega)) rfl rfl ?_))
  exact Fin.same ⟨rfl, rfl⟩
/-- vault.Vault.undo, kind 7 -/
theorem vUndo7 {I : Ent → Prop} {G2 : List Ent} {cb sz jb jz q n lb lcap : Nat} {T : TypeId} {c cj : Nat → Value} {jss : List (List Value)} (hsz : 27019 ≤ sz) (hlg : c 27016 = sl lb 0 n lcap) (hn : 0 < n) (hn2 : n ≤ lcap) (hn3 : n < 2 ^ 40)
    (hj : (⟨jb, jz, 228, cj⟩ : Ent) ∈ G2) (hEj : Els ⟨jb, jz, 228, cj⟩ 0 9 jss) (hq : q < jss.length) (e0 : (jss.getD q []).getD 0 undef = .int .u8 ((7 : Nat) : Int)) :
    CallG Hvaf.prog 409 #[ptr cb 2435, ptr jb (addS 0 (mulS q 9))] ⟨I, ⟨cb, sz, T, c⟩ :: G2⟩ fun r S' => r = .bool true ∧ S' = ⟨I, ⟨cb, sz, T, upd c 27016 (sl lb 0 (n - 1) lcap)⟩ :: G2⟩ := by
  have hrj : Rd ⟨I, ⟨cb, sz, T, c⟩ :: G2⟩ (⟨jb, jz, 228, cj⟩ : Ent) := .inr (List.mem_cons_of_mem _ hj)
  refine CallG.start (C := mkC Hvaf.prog) cok (args := [ptr cb 2435, ptr jb (addS 0 (mulS q 9))]) Hvaf.func409 rfl Hvaf.ntmps409 (by simp) (by kernel_rfl) ?_
  repeat (first | (refine QuG.keep ?_; first | refine QuG.elF cok hEj hrj rfl rfl rfl rfl elO hq (by decide) e0 ?_) | (refine QuG.keep ?_; first | refine QuG.l1E cok 0 rfl rfl rfl rfl rfl (by first | exact Nat.le_of_ble_eq_true rfl | omega | (dsimp only; omega) | (simp only [addS_eq, mulS_eq]; omega)) (by assumption) ?_) | refine SeqS.go cok ?_ | refine CondS.t rfl ?_ | refine CondS.f rfl ?_ | refine And.intro (Eq.refl true) ?_ | refine And.intro (by omega) ?_ | (refine NatS.keep ?_; first | with_reducible refine NatS.nat ?_) | (refine ValS.keep ?_; first | (with_reducible refine ValS.kI64 ?_; first | (with_reducible refine ValS.subI64_L ?_ ?_ ?_ ; omega; omega)) | with_reducible refine ValS.sl0 ?_) | (refine still_in ?_; first | refine still_drop (by decide) ?_) | (refine OpG.keep ?_; first | refine OpG.s1 cok 0 rfl rfl rfl rfl rfl (by first | exact Nat.le_of_ble_eq_true rfl | omega | (dsimp only; omega) | (simp only [addS_eq, mulS_eq]; omega)) rfl rfl ?_) | refine W.drawI 41 cok [0, 0, 2, 6, 14, 0, 32, 96, 224, 480, 992, 2046, 4095, 8191, 16383] [0, 1, 2, 3, 4, 5, 6, 7, 8, 9, 10, 11, 12, 13, 14] [4, 8] (by kernel_rfl) (by kernel_rfl) ?_ | (refine CondS.keep ?_; first | refine CondS.d0 rfl (by omega) ?_))
  exact Fin.same ⟨rfl, rfl⟩
end Go.Proofs.YgvafwGreat
