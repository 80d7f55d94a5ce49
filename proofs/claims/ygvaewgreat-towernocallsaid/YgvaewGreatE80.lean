import Derived.Test.YgvaewGreatE77
import Derived.Test.YgvaewGreatV29
set_option exponentiation.threshold 1000
set_option maxRecDepth 100000
set_option maxHeartbeats 4000000
set_option linter.unusedVariables false
set_option linter.unusedSimpArgs false
-- v2
-- v4
-- v5
-- v6
-- v7
namespace Go.Proofs.YgvaewGreat
open Go.HL Go.Proofs

/-- The world before any transaction, as it is given. -/
def wlU (code : List Nat) : List OA := [⟨adNo 1, 1, be32 0, code, []⟩, ⟨adNo 240, 0, be32 (2 ^ 128), [], []⟩]
/-- engine.Chain.Export ahead of any transaction -/
theorem eExportU {J : Ent → Prop} {G : List Ent} {cb sz : Nat} {T : TypeId} {c : Nat → Value} {V : Vl} {code : List Nat} (hsz : 27019 ≤ sz) (hV : VI J c V G) (hF : FP code 2 V) :
    CallG Hvae.prog 14 #[ptr cb 0] ⟨J, ⟨cb, sz, T, c⟩ :: G⟩ fun r S' => S'.G = [] ∧ OWI S'.I r (wlU code) := by
  obtain ⟨v1, v2, hac, hsl, hjr, hnm, hrf, hlg, htp, hO⟩ := hF
  have hac : V.ac = [⟨adNo 1, 1, 0, v1, code, false, false, false⟩, ⟨adNo 240, 0, 2 ^ 128, v2, [], false, false, false⟩] := hac
  obtain ⟨MA, MS, MJ, ML, MT, MH, hp, hB⟩ := hV.own
  rw [show (⟨cb, sz, T, c⟩ : Ent) :: G = (⟨cb, sz, T, c⟩ :: G) ++ [] by simp]
  refine CallG.frz _ _ ?_
  have hXV : XV (fun x => J x ∨ x ∈ (⟨cb, sz, T, c⟩ : Ent) :: G) cb sz T c V.ac V.sl 1 := by
    refine ⟨.inr List.mem_cons_self, hsz, hB.oa.row fun x hx => .inr (List.mem_cons_of_mem _ (hp.mem_iff.2 (List.mem_append_left _ hx))), hB.os.row fun x hx => .inr (List.mem_cons_of_mem _ (hp.mem_iff.2 (List.mem_append_right _ (List.mem_append_left _ hx)))), fun x hx => (hV.cd x hx).mono (fun _ h => .inl h) (by simp), hO.aok, hO.anc, hO.abl, hO.aln, hO.sln, fun x hx => ⟨hO.sky x hx, (hO.sbd x hx).1⟩, by decide, by rw [hac]; exact Nat.le_refl 2, by rw [hac]; rfl, by rw [hac]; rfl, by rw [hac]; rfl, by rw [hac]; rfl, ?_⟩
    intro i hi h0 h1
    rw [hac] at hi
    have : i < 2 := hi
    omega
  refine eExport0 ((vExport hXV).mono ?_)
  rintro r S' - ⟨hG, L, hp, hw, hOW⟩
  refine ⟨hG, ?_⟩
  rw [hsl] at hp hOW
  have hL : L = [] := List.Perm.eq_nil hp
  subst hL
  rw [hac] at hOW
  exact hOW
end Go.Proofs.YgvaewGreat
