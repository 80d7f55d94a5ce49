import Derived.Test.YgvafwGreatY77
import Derived.Test.YgvafwGreatY70
import Derived.Test.YgvafwGreatL9
set_option exponentiation.threshold 1000
set_option maxRecDepth 100000
set_option maxHeartbeats 4000000
set_option linter.unusedVariables false
set_option linter.unusedSimpArgs false
-- v2
namespace Go.Proofs.YgvafwGreat
open Go.HL Go.Proofs

theorem MarksI.nil (I : Ent → Prop) : MarksI I (.slice none 0 0) [] := ⟨[], RowI.nil _ _, rfl, by simp⟩
theorem TempsI.nil (I : Ent → Prop) : TempsI I (.slice none 0 0) [] := ⟨[], RowI.nil _ _, rfl, by simp⟩
/-- The world behind the opening of a transaction. -/
def W0 (code : List Nat) (wa : List (List Nat)) : YW := ⟨[⟨adNo 1, 1, 0, code, []⟩, ⟨adNo 240, 1, 2 ^ 128, [], []⟩], wa, [], 0, [], [], []⟩
def K0 (code data : List Nat) (wa : List (List Nat)) : YK := ⟨code, data, adNo 1, adNo 240, [], W0 code wa⟩
/-- The first frame. -/
theorem yf0 {J : Ent → Prop} {cf : Nat → Value} {gv vv cv iv av wv nv : Value} {m1 m2 : List Value} {code data : List Nat} {wa : List (List Nat)} {gas : Nat}
    (hr : Row cf 0 (frL gv vv cv iv (adNo 1) (adNo 240) [av, wv, nlV, nv, nlV, nlV, nlV, nlV])) (hg : NatI J gv gas) (hv : NatI J vv 0) (hc : Byt ⟨J, []⟩ cv code) (hd : Byt ⟨J, []⟩ iv data) (hn : NatI J nv 0) (hav : RowI J 24 av [m1, m2]) (h1 : Ac0 J m1 ⟨adNo 1, 1, 0, code, []⟩) (h2 : Ac0 J m2 ⟨adNo 240, 1, 2 ^ 128, [], []⟩) (hw : RowI J 20 wv (wa.map bvs)) (hwo : ∀ x ∈ wa, AdOk x) :
    YF J cf (K0 code data wa) 0 gas [] := by
  have g : ∀ k, k < 60 → cf k = (frL gv vv cv iv (adNo 1) (adNo 240) [av, wv, nlV, nv, nlV, nlV, nlV, nlV]).getD k undef := fun k hk => by
    have := hr.get k hk
    rw [Nat.zero_add] at this; exact this
  have e4 : cf 4 = gv := g 4 (by decide)
  have e5 : cf 5 = vv := g 5 (by decide)
  have e10 : cf 10 = cv := g 10 (by decide)
  have e11 : cf 11 = iv := g 11 (by decide)
  have e3 : cf 3 = nlV := g 3 (by decide)
  have e8 : cf 8 = nlV := g 8 (by decide)
  have e52 : cf 52 = av := g 52 (by decide)
  have e53 : cf 53 = wv := g 53 (by decide)
  have e54 : cf 54 = nlV := g 54 (by decide)
  have e55 : cf 55 = nv := g 55 (by decide)
  have e57 : cf 57 = nlV := g 57 (by decide)
  refine ⟨g 0 (by decide), g 1 (by decide), g 2 (by decide), e3 ▸ NatI.zero J, e4 ▸ hg, e5 ▸ hv, e8 ▸ ⟨[], RowI.nil _ _, rfl, by simp⟩, by simp, by decide, e10 ▸ hc, e11 ▸ hd, ?_, ?_, ⟨?_, ?_, hwo, ?_, ?_, ?_, ?_, fun x hx => (by cases hx), g 59 (by decide)⟩, g 56 (by decide)⟩
  · have := row_sub (p := 12) (us := bvs (adNo 1)) hr rfl
    rw [Nat.zero_add] at this; exact this
  · have := row_sub (p := 32) (us := bvs (adNo 240)) hr rfl
    rw [Nat.zero_add] at this; exact this
  · show AcctsI J (cf 52) _
    rw [e52]; exact accts2 hav rfl rfl rfl h1.acct h2.acct
  · show RowI J 20 (cf 53) _
    rw [e53]; exact hw
  · show MarksI J (cf 54) _
    rw [e54]; exact MarksI.nil J
  · show NatI J (cf 55) 0
    rw [e55]; exact hn
  · show TempsI J (cf 57) _
    rw [e57]; exact TempsI.nil J
  · show RowI J 20 (cf 58) _
    rw [show cf 58 = nlV from g 58 (by decide)]; exact RowI.nil _ _
end Go.Proofs.YgvafwGreat
