import Derived.Test.YgvafwGreatE73
set_option exponentiation.threshold 1000
set_option maxRecDepth 100000
set_option maxHeartbeats 4000000
set_option linter.unusedVariables false
set_option linter.unusedSimpArgs false
-- v2
namespace Go.Proofs.YgvafwGreat
open Go.HL Go.Proofs

theorem row_cat {c : Nat → Value} {o : Nat} {A B : List Value} (h1 : Row c o A) (h2 : Row c (o + A.length) B) : Row c o (A ++ B) := by
  refine ⟨fun i hi => ?_⟩
  rw [List.length_append] at hi
  by_cases h : i < A.length
  · rw [List.getD_eq_getElem?_getD, List.getElem?_append_left h, ← List.getD_eq_getElem?_getD]; exact h1.get i h
  · have := h2.get (i - A.length) (by omega)
    rw [List.getD_eq_getElem?_getD, List.getElem?_append_right (by omega), ← List.getD_eq_getElem?_getD, ← this]
    congr 1; omega
theorem row_one {c : Nat → Value} {o : Nat} {u : Value} (h : c o = u) : Row c o [u] := ⟨fun i hi => by
  have hi : i < 1 := hi
  obtain rfl : i = 0 := by omega
  exact h⟩
theorem MK.env {I : Ent → Prop} {cb : Nat} {c : Nat → Value} {K : YK} (h : MK I cb c K) : Row c 2260 envL := by
  have e : envL = bvs (adNo 192) ++ ([.int .u64 0] ++ ([.int .u64 0] ++ ([.int .u64 1048576] ++ (bvs z32 ++ (bvs z32 ++ (bvs z32 ++ [.slice none 0 0])))))) := rfl
  rw [e]
  exact row_cat h.eCb (row_cat (row_one h.eNo) (row_cat (row_one h.eTi) (row_cat (row_one h.eGl) (row_cat h.eRa (row_cat h.eCh (row_cat h.eBf (row_one h.eHa)))))))
theorem payF_of {J1 : Ent → Prop} {cb sz gas st g rn rc : Nat} {c0 c1 : Nat → Value} {K : YK} {V1 : Vl} {σ0 : NS} {G1 : List Ent} {ra : Option Addr} (hN : NI J1 cb sz c1 K V1 σ0 [] G1) (h7 : c1 2407 = .int .u64 (gas : Nat)) (h15 : Row c1 2415 (bvs (List.replicate 20 0))) (hk : KeepC c1 c0) : PayF cb (endC c0 st g (.slice ra rn rc)) gas g st ra rn rc := by
  have m := endC_MD (c := c0) (st := st) (gas := g) (rv := .slice ra rn rc) (Out.refl c0)
  have hK := hN.ei.eK
  have e := fun k (h1 : k < 2435) (h2 : k = 0 ∨ 2258 ≤ k) (h3 : k ≠ 2258) (h4 : k ≠ 2259) (h5 : k ≠ 2404) (h6 : k ≠ 2405) => (m.oth k h1 (by omega) (by omega) h3 h4 h5 h6).trans (hk k (.inl h1) (by omega) (by omega) (by omega) (by omega))
  have r := fun (o : Nat) (vs : List Value) (hr : Row c1 o vs) (h1 : 2260 ≤ o) (h2 : o + vs.length ≤ 2404) => Row.congr hr (c' := endC c0 st g (.slice ra rn rc)) fun k a b => e k (by omega) (by omega) (by omega) (by omega) (by omega) (by omega)
  exact { mS := (e 0 (by decide) (by decide) (by decide) (by decide) (by decide) (by decide)).trans hK.mS
          ph := m.ph
          st := m.st
          gs := m.gs
          lim := (e 2407 (by decide) (by decide) (by decide) (by decide) (by decide) (by decide)).trans h7
          pr := r _ _ hK.mPr (by decide) (by decide)
          env := r _ _ hK.env (by decide) (by decide)
          og := r _ _ hK.mOr (by decide) (by decide)
          made := Row.congr h15 fun k a b => e k (by have : k < 2415 + 20 := b; omega) (by omega) (by omega) (by omega) (by omega) (by omega)
          rt := m.rt }
theorem endC_T {c0 : Nat → Value} {st g k : Nat} {rv : Value} (h : 27018 < k) : endC c0 st g rv k = c0 k := by
  unfold endC
  rw [updNe (by omega), updNe (by omega), updNe (by omega), updNe (by omega), updNe (by omega), updNe (by omega)]
end Go.Proofs.YgvafwGreat
