import Derived.Test.YgvafwGreatY77
import Derived.Test.YgvafwGreatZ1
set_option maxRecDepth 100000
set_option maxHeartbeats 4000000
set_option linter.unusedVariables false
set_option linter.unusedSimpArgs false
-- v2
namespace Go.Proofs.YgvafwGreat
open Go.HL Go.Proofs

theorem AcctD.ac0 {I : Ent → Prop} {l : List Value} {a : YA} (h : AcctD I l a) (hz : a.slots = []) : Ac0 I l a := by
  have z := h.z hz
  obtain ⟨nv, bv, cv, sv, rfl, h1, h2, h3, h4⟩ := h.out
  have h20 : (bvs a.addr).length = 20 := h.ok.bv
  rw [List.getD_eq_getElem?_getD, List.getElem?_append_right (by omega), h20] at z
  have z : sv = .slice none 0 0 := z
  subst z
  exact ⟨h.ok, hz, nv, bv, cv, rfl, h1, h2, h3⟩
theorem yEnterD {I : Ent → Prop} {G : List Ent} {sb ssz : Nat} {Ts : TypeId} {cs : Nat → Value} {a1 a2 : YA} {wa : List (List Nat)} {ga va ca ia : Option Addr} {gn gc vn vc' cn cc im ic : Nat} (hsz : 179 ≤ ssz) (hA : AcctsD I (cs 0) [a1, a2]) (hz1 : a1.slots = []) (hz2 : a2.slots = []) (hw : RowI I 20 (cs 1) (wa.map bvs)) (hwl : wa.length < 2 ^ 20)
    (c2 : cs 2 = .slice none 0 0) (c3 : cs 3 = .slice none 0 0) (c4 : cs 4 = .slice none 0 0) (c5 : cs 5 = .slice none 0 0) (c6 : cs 6 = .slice none 0 0) (c7 : cs 7 = .slice none 0 0) (c9 : cs 9 = .slice none 0 0) (hvv : NatI I (.slice va vn vc') 0) :
    CallG Hvaf.prog 65 #[ptr sb 0, .agg (frL (.slice ga gn gc) (.slice va vn vc') (.slice ca cn cc) (.slice ia im ic) (adNo 1) (adNo 240) [nlV, nlV, nlV, nlV, nlV, nlV, nlV, nlV]).toArray] ⟨I, ⟨sb, ssz, Ts, cs⟩ :: (G ++ [])⟩ fun r S' => ∃ J fb fsz cf fc av wv m1 m2 nv, S' = ⟨J, ⟨sb, ssz, Ts, upd (upd cs 10 nlV) 9 (sl fb 0 1 fc)⟩ :: (G ++ [⟨fb, fsz, 156, cf⟩])⟩ ∧ FzI fc fsz ∧ Row cf 0 (frL (.slice ga gn gc) (.slice va vn vc') (.slice ca cn cc) (.slice ia im ic) (adNo 1) (adNo 240) [av, wv, nlV, nv, nlV, nlV, nlV, nlV]) ∧ NatI J nv 0 ∧ RowI J 24 av [m1, m2] ∧ Ac0 J m1 a1 ∧ Ac0 J m2 a2 ∧ RowI J 20 wv (wa.map bvs) := by
  obtain ⟨vss, hR, hvl, hel⟩ := hA.out
  exact yEnter hsz hR hvl rfl rfl ((hel 0 (by show 0 < 2; decide)).ac0 hz1) ((hel 1 (by show 1 < 2; decide)).ac0 hz2) hw hwl c2 c3 c4 c5 c6 c7 c9 hvv
end Go.Proofs.YgvafwGreat
