import Derived.Test.YgvafwGreatY78
import Derived.Test.YgvafwGreatE61
import Derived.Test.YgvafwGreatE60
import Derived.Test.YgvafwGreatE29
import Derived.Test.YgvafwGreatM1
import Derived.Test.YgvafwGreatV15
set_option exponentiation.threshold 1000
set_option maxRecDepth 100000
set_option maxHeartbeats 4000000
set_option linter.unusedVariables false
set_option linter.unusedSimpArgs false
-- v2
-- v4
-- v5
-- v6
-- v7
namespace Go.Proofs.YgvafwGreat
open Go.HL Go.Proofs

/-- A frame's cells. -/
def fmL (gas : Nat) (cv iv : Value) (ds : List Nat) : List Value := [.int .u8 0, .int .u8 0, .int .u8 0, .bool false, .int .u16 0, .int .u16 0, .int .u16 0, .int .u64 (gas : Nat), .int .i32 0] ++ (bvs (adNo 1) ++ (bvs (adNo 240) ++ (wcs 0 ++ ([cv, iv] ++ (ivs .u64 ds ++ [.int .u32 0, .int .u32 0])))))
/-- What Enter leaves. -/
structure EntP (I : Ent → Prop) (c c' : Nat → Value) (V : Vl) (G : List Ent) (gas : Nat) (cv iv : Value) (code : List Nat) : Prop where
  vi : VI I c' { V with nm := 1, mq := V.jr.length } G
  fr : ∃ ds : List Nat, Row c' 1803 (fmL gas cv iv ds) ∧ ds.length = 8 ∧ (∀ d ∈ ds, d < 18446744073709551616) ∧ ∀ i, i < 512 → (ds.getD (i / 64) 0).testBit (i % 64) = destN code i
  tp : c' 2258 = .int .i8 0
  ph : c' 2404 = .int .u8 1
  rt : c' 2259 = .slice none 0 0
  a3 : c' 3 = .int .u32 0
  a10 : c' 10 = .int .u8 1
  ot : ∀ k, k < 2435 → k ≠ 3 → k ≠ 10 → (k < 1803 ∨ 1868 ≤ k) → k ≠ 2258 → k ≠ 2259 → k ≠ 2404 → c' k = c k
  oh : ∀ k, 27018 < k → c' k = c k
def DsOk (ds : List Nat) (code : List Nat) : Prop := ds.length = 8 ∧ (∀ d ∈ ds, d < 18446744073709551616) ∧ ∀ i, i < 512 → (ds.getD (i / 64) 0).testBit (i % 64) = destN code i
theorem mScan8 {I : Ent → Prop} {G : List Ent} {v : Value} {code : List Nat} (hv : Byt ⟨I, G⟩ v code) (hc : code.length ≤ 512) :
    CallG Hvaf.prog 187 #[v] ⟨I, G⟩ fun r S' => ⟨I, G⟩ = S' ∧ ∃ a b c d e f g k, r = .agg (ivs .u64 [a, b, c, d, e, f, g, k]).toArray ∧ DsOk [a, b, c, d, e, f, g, k] code := by
  refine (mScan hv hc).mono ?_
  rintro r S' - ⟨h1, ds, h2, h3, h4⟩
  obtain ⟨a, b, c, d, e, f, g, k, rfl⟩ := list8 h3
  exact ⟨h1, a, b, c, d, e, f, g, k, h2, h3, h4⟩
theorem updN_o {c : Nat → Value} {o k : Nat} {vs : List Value} (h : k < o ∨ o + vs.length ≤ k) : HL.updN c o vs k = c k := by
  simp only [HL.updN]; rw [if_neg (by omega)]
theorem fr_lo {k : Nat} (h : k < 1803) : k < addS 1803 (mulS 0 65) := by rw [addS_eq, mulS_eq]; omega
theorem fr_hi {k : Nat} (h : 1868 ≤ k) : addS 1803 (mulS 0 65) + 65 ≤ k := by rw [addS_eq, mulS_eq]; omega
/-- mach.Machine.Enter -/
theorem mEnter {I : Ent → Prop} {G : List Ent} {cb sz gas cc im ic : Nat} {T : TypeId} {c : Nat → Value} {V : Vl} {ca ia : Option Addr} {code : List Nat} (hsz : 27019 ≤ sz) (hV : VI I c V G) (hO : VOk V) (h0 : V.nm = 0) (hS : c 0 = ptr cb 2435) (hTop : c 2258 = .int .i8 (-1)) (h10 : c 10 = .int .u8 ((0 : Nat) : Int)) (h2 : c 2 = .int .u32 ((0 : Nat) : Int)) (hcv : Byt ⟨I, []⟩ (.slice ca code.length cc) code) (hcl : code.length ≤ 512) :
    CallG Hvaf.prog 115 #[ptr cb 0, .agg (fmL gas (.slice ca code.length cc) (.slice ia im ic) (List.replicate 8 0)).toArray] ⟨I, ⟨cb, sz, T, c⟩ :: G⟩ fun r S' => r = .bool true ∧ ∃ c', S' = ⟨I, ⟨cb, sz, T, c'⟩ :: G⟩ ∧ EntP I c c' V G gas (.slice ca code.length cc) (.slice ia im ic) code := by
  have hsc := fun (G : List Ent) => mScan8 (I := I) (G := G) (hcv.mono (Sub.refl I) (by simp)) hcl
  have hsn := vSnap (R := []) (cb := cb) (T := T) hsz hV hO h0
  refine CallG.start (C := mkC Hvaf.prog) cok (args := [ptr cb 0, .agg (fmL gas (.slice ca code.length cc) (.slice ia im ic) (List.replicate 8 0)).toArray]) Hvaf.func115 rfl Hvaf.ntmps115 (by simp) (by kernel_rfl) ?_
  intro b3
  repeat (first | (refine QuG.keep ?_; first | refine QuG.l1E cok 1 rfl rfl rfl rfl rfl (by first | exact Nat.le_of_ble_eq_true rfl | omega | (dsimp only; omega) | (simp only [addS_eq, mulS_eq]; omega)) (by assumption) ?_) | refine SeqS.go cok ?_)
  refine ValS.to (u := .int .i64 (-1)) (congrArg (Value.int .i64) (by decide)) ?_
  skip
  refine ValS.to (u := .int .i64 ((0 : Nat) : Int)) (congrArg (Value.int .i64) (by decide)) ?_
  repeat (first | (refine QuG.keep ?_; first | refine QuG.l1E cok 1 rfl rfl rfl rfl rfl (by first | exact Nat.le_of_ble_eq_true rfl | omega | (dsimp only; omega) | (simp only [addS_eq, mulS_eq]; omega)) (by assumption) ?_) | refine SeqS.go cok ?_ | refine GuardS.yes rfl ?_ | refine CondS.f rfl ?_ | (refine ValS.keep ?_; first | (with_reducible refine ValS.kI64 ?_; first | (with_reducible refine ValS.mulI64_L ?_ ?_ ; omega)) | (with_reducible refine ValS.kU8 ?_; first | (with_reducible refine ValS.convU8 ?_ ?_ ; omega)) | (with_reducible refine ValS.kU16 ?_; first | (with_reducible refine ValS.convU16 ?_ ?_ ; omega))) | (refine QuG.keep ?_; first | refine QuG.l1 cok 0 rfl rfl rfl rfl rfl (by first | exact Nat.le_of_ble_eq_true rfl | omega | (dsimp only; omega) | (simp only [addS_eq, mulS_eq]; omega)) ?_) | (refine OpG.keep ?_; first | refine OpG.s1 cok 0 rfl rfl rfl rfl rfl (by first | exact Nat.le_of_ble_eq_true rfl | omega | (dsimp only; omega) | (simp only [addS_eq, mulS_eq]; omega)) rfl rfl ?_))
  refine (hsc _).mono ?_
  rintro r _ - ⟨rfl, d0, d1, d2, d3, d4, d5, d6, d7, rfl, hds⟩
  repeat (first | (refine QuG.keep ?_; first | refine QuG.l1E cok 1 rfl rfl rfl rfl rfl (by first | exact Nat.le_of_ble_eq_true rfl | omega | (dsimp only; omega) | (simp only [addS_eq, mulS_eq]; omega)) (by assumption) ?_) | refine SeqS.go cok ?_ | (refine OpG.keep ?_; first | refine OpG.sL cok 0 rfl rfl rfl rfl rfl rfl rfl (by first | exact Nat.le_of_ble_eq_true rfl | omega | (dsimp only; omega) | (simp only [addS_eq, mulS_eq]; omega)) ?_))
  refine CallG.behind [_] hsn ?_
  rintro r J1 _ hs1 ⟨rfl, c1, e1, hV1, hVO1, hO1⟩
  cases e1
  have k0 := (hO1 0 (.inl (by decide))).trans hS
  have k2 := (hO1 2 (.inl (by decide))).trans h2
  have k10 := (hO1 10 (.inl (by decide))).trans h10
  repeat (first | refine SeqS.go cok ?_ | refine GuardS.yes rfl ?_ | (refine QuG.keep ?_; first | refine QuG.l1 cok 0 rfl rfl rfl rfl rfl (by first | exact Nat.le_of_ble_eq_true rfl | omega | (dsimp only; omega) | (simp only [addS_eq, mulS_eq]; omega)) ?_) | (refine OpG.keep ?_; first | refine OpG.s1 cok 0 rfl rfl rfl rfl rfl (by first | exact Nat.le_of_ble_eq_true rfl | omega | (dsimp only; omega) | (simp only [addS_eq, mulS_eq]; omega)) rfl rfl ?_))
  refine CallG.behind [_] (mArEnter (by omega) k10 k2) ?_
  rintro r J2 _ hs2 ⟨rfl, e2⟩
  cases e2
  repeat (first | refine SeqS.go cok ?_ | refine And.intro (by dsimp only; omega) ?_ | (refine NatS.keep ?_; first | with_reducible refine NatS.nat ?_) | (refine QuG.keep ?_; first | refine QuG.lN cok 0 rfl rfl rfl rfl rfl (by first | exact Nat.le_of_ble_eq_true rfl | omega | (dsimp only; omega) | (simp only [addS_eq, mulS_eq]; omega)) ?_) | (refine still_in ?_; first | refine still_drop (by decide) ?_) | (refine OpG.keep ?_; first | refine OpG.sL cok 1 rfl rfl rfl rfl rfl rfl rfl (by first | exact Nat.le_of_ble_eq_true rfl | omega | (dsimp only; omega) | (simp only [addS_eq, mulS_eq]; omega)) ?_) | refine W.drawI 10 cok [0, 0, 0, 1, 9, 31, 63] [0, 1, 2, 3, 4, 5, 6] [2] (by kernel_rfl) (by kernel_rfl) ?_)
  refine ValS.to (u := .int .i8 0) (congrArg (Value.int .i8) (by decide)) ?_
  repeat (first | refine SeqS.go cok ?_ | refine GuardS.yes rfl ?_ | (refine QuG.keep ?_; first | refine QuG.l1 cok 0 rfl rfl rfl rfl rfl (by first | exact Nat.le_of_ble_eq_true rfl | omega | (dsimp only; omega) | (simp only [addS_eq, mulS_eq]; omega)) ?_) | (refine OpG.keep ?_; first | refine OpG.s1 cok 1 rfl rfl rfl rfl rfl (by first | exact Nat.le_of_ble_eq_true rfl | omega | (dsimp only; omega) | (simp only [addS_eq, mulS_eq]; omega)) rfl rfl ?_))
  refine mCreates0.mono ?_
  rintro r _ - ⟨rfl, rfl⟩
  repeat (first | refine SeqS.go cok ?_ | refine GuardS.yes rfl ?_ | refine CondS.t rfl ?_ | refine CondS.f rfl ?_ | (refine QuG.keep ?_; first | refine QuG.l1 cok 0 rfl rfl rfl rfl rfl (by first | exact Nat.le_of_ble_eq_true rfl | omega | (dsimp only; omega) | (simp only [addS_eq, mulS_eq]; omega)) ?_ | refine QuG.lN cok 0 rfl rfl rfl rfl rfl (by first | exact Nat.le_of_ble_eq_true rfl | omega | (dsimp only; omega) | (simp only [addS_eq, mulS_eq]; omega)) ?_))
  refine (mMove0 (a := adNo 240) (b := adNo 1) rfl rfl).mono ?_
  rintro r _ - ⟨rfl, rfl⟩
  repeat (first | refine SeqS.go cok ?_ | refine CondS.f rfl ?_)
  refine Fin.drop (⟨cb, sz, T, _⟩ :: G) [_] ⟨rfl, _, rfl, ?_⟩
  refine ⟨?_, ⟨[d0, d1, d2, d3, d4, d5, d6, d7], ?_, hds⟩, rfl, rfl, rfl, rfl, rfl, ?_, ?_⟩
  · exact VI.congr hV1 fun k h1 h2 => (updNe (by omega)).trans ((updNe (by omega)).trans ((updNe (by omega)).trans ((updN_o (.inr (fr_hi (by omega)))).trans ((updNe (by omega)).trans (updNe (by omega))))))
  · exact Row.ofCellsO (n := 65) rfl
  · exact fun k h1 h2 h3 h4 h5 h6 h7 => ((updNe (by omega)).trans ((updNe (by omega)).trans ((updNe (by omega)).trans ((updN_o (h4.imp fr_lo fr_hi)).trans ((updNe (by omega)).trans (updNe (by omega))))))).trans (hO1 k (.inl h1))
  · exact fun k h1 => ((updNe (by omega)).trans ((updNe (by omega)).trans ((updNe (by omega)).trans ((updN_o (.inr (fr_hi (by omega)))).trans ((updNe (by omega)).trans (updNe (by omega))))))).trans (hO1 k (.inr h1))
end Go.Proofs.YgvafwGreat
