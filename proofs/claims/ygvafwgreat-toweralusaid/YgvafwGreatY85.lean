import Derived.Test.YgvafwGreatY82
set_option exponentiation.threshold 1000
set_option maxRecDepth 100000
set_option maxHeartbeats 4000000
set_option linter.unusedVariables false
set_option linter.unusedSimpArgs false
-- v2
namespace Go.Proofs.YgvafwGreat
open Go.HL Go.Proofs

/-- What stands once a transaction is begun. -/
structure BegY (J : Ent → Prop) (cs' : Nat → Value) (gas : Nat) : Prop where
  ap : cs' 13 = .int .u8 1
  lim : NatI J (cs' 14) gas
  tot : NatI J (cs' 18) (2 ^ 128)
  made : Row cs' 39 (bvs (List.replicate 20 0))
  env : Row cs' 59 envL
  pr : NatI J (cs' 17) 0
  tg : one (cs' 15) = true
  og : Row cs' 19 (bvs (adNo 240))
  s8 : one (cs' 8) = true
theorem waN_ok : ∀ x ∈ waN, AdOk x := wa_okC (by decide)
theorem adOk1 : AdOk (adNo 1) := ⟨rfl, by decide⟩
theorem adOk240 : AdOk (adNo 240) := ⟨rfl, by decide⟩
theorem begYI {I : Ent → Prop} {sb gas : Nat} {cs : Nat → Value} {ds code : List Nat} {S' : St} (hB : BS I cs code) (hs : HL.Sub I S'.I) (hcl : code.length ≤ 256) (hdl : ds.length ≤ 1024) (h : begP sb gas cs ds code S') :
    ∃ J fb fsz cf cs', S' = ⟨J, [⟨sb, 179, 118, cs'⟩, ⟨fb, fsz, 156, cf⟩]⟩ ∧ (∃ fc, cs' 9 = HL.sl fb 0 1 fc ∧ FzI fc fsz) ∧ YI J fb cs' cf (K0 code ds waN) ⟨0, gas - intN ds, [], [], W0 code waN⟩ [] [] ∧ BegY J cs' gas := by
  obtain ⟨J, fb, fsz, cf, fc, gv, tv, pv, w, w2, v1, v2, v3, v4, v5, cv, iv, vv, av, wv, m1, m2, nv2, rfl, h60, hrow, q1, q2, q3, q4, q5, hg, ht, hp, hv, hc, hi, hA, hw⟩ := h
  replace hs : HL.Sub I J := hs
  have hF := yf0 hrow ht hv hc hi q1 q2 q3 q4 q5 waN_ok
  have hk : ∀ k, 59 ≤ k → upd (upd (upd (upd (upd (upd (upd (upd (upd (upd (upd (begA cs gv tv pv) 0 w) 0 w2) 1 v1) 1 v2) 1 v3) 1 v4) 1 v5) 10 nlV) 11 (.int .u8 1)) 10 nlV) 9 (HL.sl fb 0 1 fc) k = cs k := fun k hk => by
    unfold begA
    rw [upd_ne (by omega), upd_ne (by omega), upd_ne (by omega), upd_ne (by omega), upd_ne (by omega), upd_ne (by omega), upd_ne (by omega), upd_ne (by omega), upd_ne (by omega), upd_ne (by omega), upd_ne (by omega), upd_ne (by omega), updN_ge (by show 19 + 20 ≤ k; omega), upd_ne (by omega), upd_ne (by omega), upd_ne (by omega), upd_ne (by omega), upd_ne (by omega), updN_ge (by show 39 + 20 ≤ k; omega)]
  have hg2 : ∀ i, i < 120 → cs (59 + i) = envL.getD i undef := fun i hi => hB.env.get i hi
  have e2 := hB.nl 2 (by decide) (by decide)
  have e3 := hB.nl 3 (by decide) (by decide)
  have e4 := hB.nl 4 (by decide) (by decide)
  have e5 := hB.nl 5 (by decide) (by decide)
  refine ⟨J, fb, fsz, cf, _, rfl, ⟨fc, rfl, h60⟩, ⟨⟨⟨hA.acc, hw, waN_ok, ?_, ?_, ?_, (by show RowI J 20 (cs 6) []; rw [hB.nl 6 (by decide) (by decide)]; exact RowI.nil _ _), (fun x hx => by cases hx), hB.nl 7 (by decide) (by decide)⟩, hF, TempsI.nil J, ⟨by show 2 < 2 ^ 17; decide, by show waN.length < 2 ^ 17; decide, by show 0 < 2 ^ 17; decide, by show 0 < 2 ^ 17; decide, by show 0 < 2 ^ 17; decide, by show 0 < 2 ^ 17; decide⟩, ⟨by show code.length < _; omega, by show ds.length < _; omega, adOk1, adOk240, by show 0 < 2 ^ 17; decide⟩⟩, ⟨rfl, rfl, hp, ?_, ?_, ?_, ?_, ?_, ?_, ?_, ?_, ?_⟩, ?_, ?_, ⟨fc, rfl⟩, ?_⟩, ⟨rfl, hg, hB.tot.up hs, ?_, Row.keep hB.env hk, hp, NatI.isl ht, ?_, rfl⟩⟩
  · show MarksI J (cs 2) []
    rw [e2]; exact MarksI.nil J
  · show NatI J (cs 3) 0
    rw [e3]; exact NatI.zero J
  · show TempsI J (cs 5) []
    rw [e5]; exact TempsI.nil J
  · exact ⟨fun i hi => by
      have hi : i < 20 := hi
      unfold begA
      rw [upd_ne (by omega), upd_ne (by omega), upd_ne (by omega), upd_ne (by omega), upd_ne (by omega), upd_ne (by omega), upd_ne (by omega), upd_ne (by omega), upd_ne (by omega), upd_ne (by omega), upd_ne (by omega), upd_ne (by omega)]
      exact updN_get hi⟩
  · exact row_sub (p := 0) (us := bvs (adNo 192)) (Row.keep hB.env hk) rfl
  · rw [hk 79 (by decide)]; exact hg2 20 (by decide)
  · rw [hk 80 (by decide)]; exact hg2 21 (by decide)
  · rw [hk 81 (by decide)]; exact hg2 22 (by decide)
  · exact row_sub (p := 23) (us := bvs (List.replicate 32 0)) (Row.keep hB.env hk) rfl
  · exact row_sub (p := 55) (us := bvs (List.replicate 32 0)) (Row.keep hB.env hk) rfl
  · exact row_sub (p := 87) (us := bvs (List.replicate 32 0)) (Row.keep hB.env hk) rfl
  · rw [hk 178 (by decide)]; exact hg2 119 (by decide)
  · have e9 : cf 9 = nlV := by have := hrow.get 9 (by show 9 < 60; decide); rw [Nat.zero_add] at this; exact this
    rw [e9]; exact MemO.nil
  · show LogO J (cs 4) [] []
    rw [e4]; exact LogO.none J
  · intro k hk60
    have e := hrow.get k hk60
    rw [Nat.zero_add] at e
    rw [e]
    have hm : (frL tv vv cv iv (adNo 1) (adNo 240) [av, wv, nlV, nv2, nlV, nlV, nlV, nlV]).getD k undef ∈ frL tv vv cv iv (adNo 1) (adNo 240) [av, wv, nlV, nv2, nlV, nlV, nlV, nlV] := by
      rw [List.getD_eq_getElem?_getD, List.getElem?_eq_getElem hk60]; exact List.getElem_mem hk60
    have o1 : one av = true := by obtain ⟨_, _, rfl⟩ := q2.form; rfl
    have o2 : one wv = true := by obtain ⟨_, _, rfl⟩ := q5.form; rfl
    have o3 := NatI.isl q1
    have o4 := NatI.isl ht
    have o5 := NatI.isl hv
    have o6 := Byt.isl hc
    have o7 := Byt.isl hi
    generalize (frL tv vv cv iv (adNo 1) (adNo 240) [av, wv, nlV, nv2, nlV, nlV, nlV, nlV]).getD k undef = u at hm ⊢
    simp only [frL, List.mem_append, List.mem_cons, List.not_mem_nil, or_false] at hm
    rcases hm with (rfl | rfl | rfl | rfl | rfl | rfl | rfl | rfl | rfl | rfl | rfl | rfl) | hm | hm | rfl | rfl | rfl | rfl | rfl | rfl | rfl | rfl
    all_goals first | rfl | assumption | exact one_bvs _ u hm
  · exact ⟨fun i hi => by
      have hi : i < 20 := hi
      unfold begA
      rw [upd_ne (by omega), upd_ne (by omega), upd_ne (by omega), upd_ne (by omega), upd_ne (by omega), upd_ne (by omega), upd_ne (by omega), upd_ne (by omega), upd_ne (by omega), upd_ne (by omega), upd_ne (by omega), upd_ne (by omega), updN_ge (by show 19 + 20 ≤ _; omega), upd_ne (by omega), upd_ne (by omega), upd_ne (by omega), upd_ne (by omega), upd_ne (by omega)]
      exact updN_get hi⟩
  · exact ⟨fun i hi => by
      have hi : i < 20 := hi
      unfold begA
      rw [upd_ne (by omega), upd_ne (by omega), upd_ne (by omega), upd_ne (by omega), upd_ne (by omega), upd_ne (by omega), upd_ne (by omega), upd_ne (by omega), upd_ne (by omega), upd_ne (by omega), upd_ne (by omega), upd_ne (by omega)]
      exact updN_get hi⟩
end Go.Proofs.YgvafwGreat
