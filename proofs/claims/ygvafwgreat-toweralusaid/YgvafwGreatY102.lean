import Derived.Test.YgvafwGreatY101
import Derived.Test.YgvafwGreatHY
set_option exponentiation.threshold 1000
set_option maxRecDepth 100000
set_option maxHeartbeats 4000000
set_option linter.unusedVariables false
set_option linter.unusedSimpArgs false
-- v2
-- v4
-- v5
-- v6
-- v7
namespace Go.Proofs.YgvafwGreat
open Go.HL Go.Proofs

theorem nat_one {I : Ent → Prop} {v : Value} (h : NatI I v 1) : ∃ a c, v = .slice a 1 c ∧ Byt ⟨I, []⟩ (.slice a 1 c) [1] := by
  obtain ⟨ds, hB, hn, hv, _⟩ := h
  have h8 := hB.1
  have e : ds = [1] := by
    cases ds with
    | nil => cases hv
    | cons d l =>
      have hv : d + 256 * val l = 1 := hv
      have hd : d = 1 := by omega
      have hl0 : val l = 0 := by omega
      cases l with
      | nil => rw [hd]
      | cons x m =>
        exfalso
        have hg := norm_ge hn (by simp)
        rw [show val (d :: x :: m) = 1 from hv] at hg
        have : 256 ^ 1 ≤ 256 ^ ((d :: x :: m).length - 1) := Nat.pow_le_pow_right (by decide) (by simp)
        omega
  subst e
  obtain ⟨a, c, rfl, _⟩ := hB.form
  exact ⟨a, c, rfl, hB⟩
theorem crBytes {c2 : Nat → Value} (q1 : ∀ p, p < mulS 2 1 → c2 p = (fun p => if p = 0 then Value.int .u8 214 else .int .u8 148) p) (q2 : ∀ p, p < mulS 20 1 → c2 (mulS 2 1 + p) = vc (bytesV (adNo 1)) (0 + p)) : ∀ p, p < 22 → c2 p = .int .u8 (crL.getD p 0 : Nat) := by
  intro p hp
  rcases Nat.lt_or_ge p 2 with h | h
  · rw [q1 p h]
    rcases (by omega : p = 0 ∨ p = 1) with rfl | rfl <;> rfl
  · have e := q2 (p - 2) (by show p - 2 < 20; omega)
    rw [show mulS 2 1 + (p - 2) = p by rw [mulS_eq]; omega, Nat.zero_add] at e
    rw [e]
    obtain ⟨k, rfl⟩ : ∃ k, p = k + 2 := ⟨p - 2, by omega⟩
    have hk : k < 20 := by omega
    rw [Nat.add_sub_cancel]
    rcases (by omega : k = 0 ∨ k = 1 ∨ k = 2 ∨ k = 3 ∨ k = 4 ∨ k = 5 ∨ k = 6 ∨ k = 7 ∨ k = 8 ∨ k = 9 ∨ k = 10 ∨ k = 11 ∨ k = 12 ∨ k = 13 ∨ k = 14 ∨ k = 15 ∨ k = 16 ∨ k = 17 ∨ k = 18 ∨ k = 19) with rfl | rfl | rfl | rfl | rfl | rfl | rfl | rfl | rfl | rfl | rfl | rfl | rfl | rfl | rfl | rfl | rfl | rfl | rfl | rfl <;> rfl
theorem crByt {J : Ent → Prop} {L : List Ent} {b cap : Nat} {c2 c3 : Nat → Value} {T : TypeId} (h2 : ∀ p, p < 22 → c2 p = .int .u8 (crL.getD p 0 : Nat)) (r1 : ∀ p, p < mulS 22 1 → c3 p = c2 p) (r2 : c3 (mulS 22 1 + 0) = .int .u8 ((1 : Nat) : Int)) (hc : 22 + 1 ≤ cap) (h63 : cap < 2 ^ 63) : Byt ⟨J, ⟨b, mulS cap 1, T, c3⟩ :: L⟩ (HL.sl b 0 23 cap) crL := by
  refine ⟨by decide, by decide, some ⟨b, 0, none⟩, cap, rfl, hc, h63, .inr ⟨⟨b, mulS cap 1, T, c3⟩, 0, rfl, .inr List.mem_cons_self, ?_, fun i hi => ?_⟩⟩
  · show 0 + 23 ≤ mulS cap 1; rw [mulS_eq]; omega
  · have hi : i < 23 := hi
    show c3 (0 + i) = _
    rw [Nat.zero_add]
    rcases Nat.lt_or_ge i 22 with h | h
    · rw [r1 i h]; exact h2 i h
    · obtain rfl : i = 22 := by omega
      exact r2
theorem crByt2 {J : Ent → Prop} {L : List Ent} {b cap : Nat} {c2 : Nat → Value} {T : TypeId} (h2 : ∀ p, p < 22 → c2 p = .int .u8 (crL.getD p 0 : Nat)) (hc : 23 ≤ cap) (h63 : cap < 2 ^ 63) : Byt ⟨J, ⟨b, mulS cap 1, T, HL.updN c2 (0 + mulS 22 1) [.int .u8 ((1 : Nat) : Int)]⟩ :: L⟩ (HL.sl b 0 23 cap) crL := by
  refine crByt h2 (fun p hp => ?_) ?_ hc h63
  · have hp : p < 22 := hp
    simp only [HL.updN, mulS_eq]
    rw [if_neg (by omega)]
  · simp only [HL.updN, mulS_eq]; rfl
/-- yp.createAddr of account 1 at nonce 1 -/
theorem yCreateAddr {I : Ent → Prop} {G : List Ent} {nv : Value} (hnv : NatI I nv 1) :
    CallG Hvaf.prog 54 #[bytesV (adNo 1), nv] ⟨I, G⟩ fun r S' => S'.G = G ∧ r = bytesV crAd := by
  have hnn := fun (G : List Ent) => (nNorm (G := G) hnv).mono (K' := fun r S' => ∃ J a c x o, S' = ⟨J, G⟩ ∧ r = .slice a 1 c ∧ a = some ⟨x.b, o, none⟩ ∧ J x ∧ Bs x o [1]) (by
    rintro r ⟨J, _⟩ _ ⟨rfl, h⟩
    obtain ⟨a, c, rfl, hB⟩ := nat_one h
    rcases hB.cases with ⟨h1, h2⟩ | ⟨x, o, cap, h1, h5, h6, hx, hbs⟩
    · cases h2
    · cases h1
      exact ⟨J, _, _, x, o, rfl, rfl, rfl, hx.elim (fun h => h) (fun h => by cases h), hbs⟩)
  refine CallG.start (C := mkC Hvaf.prog) cok (args := [bytesV (adNo 1), nv]) Hvaf.func54 rfl Hvaf.ntmps54 (by simp) (by kernel_rfl) ?_
  intro x1 x2
  repeat (first | refine SeqS.go cok ?_ | refine And.intro (fillOk_of (Eq.refl true)) ?_ | refine And.intro (by dsimp only; omega) ?_)
  intro x3
  repeat (first | refine SeqS.go cok ?_)
  refine (hnn _).mono ?_
  rintro r _ hs1 ⟨J, a, c, x, o, rfl, rfl, rfl, hx, hbs⟩
  have hrd : ∀ L, Rd ⟨J, L⟩ x := fun L => .inl hx
  repeat (first | (refine QuG.keep ?_; refine QuG.bs cok hbs (hrd _) rfl rfl rfl rfl (by decide) ?_) | refine SeqS.go cok ?_ | refine GuardS.yes rfl ?_ | refine CondS.t rfl ?_ | refine And.intro (fillOk_of (Eq.refl true)) ?_ | refine And.intro (by omega) ?_ | refine And.intro (by dsimp only; omega) ?_ | (refine NatS.keep ?_; first | with_reducible refine NatS.lit ?_) | (refine ValS.keep ?_; first | (with_reducible refine ValS.kI64 ?_; first | (with_reducible refine ValS.addI64_M ?_ ?_ ; omega)) | (with_reducible refine ValS.kU8 ?_; first | (with_reducible refine ValS.convU8 ?_ ?_ ; omega) | (with_reducible refine ValS.addU8_M ?_ ?_ ; omega))) | (refine OpG.keep ?_; first | refine OpG.s1 cok 0 rfl rfl rfl rfl rfl (by first | exact Nat.le_of_ble_eq_true rfl | omega | (dsimp only; omega) | (simp only [addS_eq, mulS_eq]; omega)) rfl rfl ?_))
  intro x4
  repeat (first | (refine SeqS.slots cok [(2, ptr x1 0), (4, ptr x2 0), (5, HL.sl x3 0 1 1), (8, HL.sl x4 0 2 2)] ⟨rfl, rfl, rfl, rfl, trivial⟩ fun e => ?_) | refine And.intro (Eq.refl true) ?_ | (refine ValS.keep ?_; first | with_reducible refine ValS.sl0 ?_))
  refine OpG.keep ?_
  refine OpG.appendNewB cok (y := ⟨x1, (bytesV (adNo 1)).cells.size, 31, vc (bytesV (adNo 1))⟩) (len := 2) (cap := 2) (m := 20) (cs := fun p => if p = 0 then .int .u8 214 else .int .u8 148) rfl rfl rfl (by decide) rfl rfl rfl ⟨_, rfl⟩ ?_ rfl (.inr (List.mem_of_getElem? (i := 3) rfl)) rfl (by show 0 + mulS 20 1 ≤ 20; decide) (by decide) (by decide) (by decide) ?_
  · intro F w hw
    exact firstCells_run hw (y := ⟨x4, 2, 5, _⟩) (.inr List.mem_cons_self) (o := 0) (by show 0 + 2 * 1 ≤ 2; decide) 1 2 rfl
  intro b2 cap2 c2 hc2 hm2 q1 q2
  have hl2 := crBytes q1 q2
  repeat (first | (refine SeqS.slots cok [(2, ptr x1 0), (4, ptr x2 0), (5, HL.sl x3 0 1 1), (8, HL.sl b2 0 22 cap2)] ⟨rfl, rfl, rfl, rfl, trivial⟩ fun e => ?_))
  by_cases hcap : cap2 < 23
  · refine OpG.keep ?_
    refine OpG.appendNewB cok (y := ⟨x3, 1, 5, _⟩) (len := 22) (cap := cap2) (m := 1) (cs := c2) rfl rfl rfl (by decide) rfl rfl rfl ⟨_, rfl⟩ ?_ rfl (.inr (List.mem_of_getElem? (i := 2) rfl)) rfl (by show 0 + mulS 1 1 ≤ 1; decide) (by omega) (by decide) (by decide) ?_
    · intro F w hw
      exact firstCells_run hw (y := ⟨b2, mulS cap2 1, 5, c2⟩) (.inr List.mem_cons_self) (o := 0) (by show 0 + 22 * 1 ≤ mulS cap2 1; rw [mulS_eq]; omega) 1 22 rfl
    intro b3 cap3 c3 hc3 hm3 r1 r2
    have hB := fun (L : List Ent) => crByt (J := J) (b := b3) (T := 5) (L := L) hl2 r1 (r2 0 (by decide)) hc3 hm3
    skip
    refine (yHashed (hB _)).mono ?_
    rintro r ⟨J5, _⟩ hs5 ⟨rfl, rfl⟩
    repeat (first | refine SeqS.go cok ?_ | (refine LdG.keep ?_; first | refine LdG.lN cok 4 rfl rfl rfl rfl rfl (by first | exact Nat.le_of_ble_eq_true rfl | omega | (dsimp only; omega) | (simp only [addS_eq, mulS_eq]; omega)) ?_) | (refine OpG.keep ?_; first | refine OpG.sL cok 4 rfl rfl rfl rfl rfl rfl rfl (by first | exact Nat.le_of_ble_eq_true rfl | omega | (dsimp only; omega) | (simp only [addS_eq, mulS_eq]; omega)) ?_))
    exact Fin.drop G [_, _, _, _, _, _] ⟨rfl, rfl⟩
  · refine OpG.keep ?_
    refine OpG.appendRoom cok 0 rfl rfl rfl rfl rfl rfl rfl rfl rfl (y := ⟨x3, 1, 5, _⟩) (.inr (List.mem_of_getElem? (i := 2) rfl)) rfl ?_ ?_ ?_ ?_ ?_
    · show 0 + mulS 1 1 ≤ 1; decide
    · show 22 + 1 ≤ cap2; omega
    · show 0 + mulS 23 1 ≤ mulS cap2 1; rw [mulS_eq, mulS_eq]; omega
    · intro p hp
      obtain rfl : p = 0 := by have : p < 1 := hp; omega
      rfl
    have hB := fun (L : List Ent) => crByt2 (J := J) (b := b2) (T := 5) (L := L) hl2 (show 23 ≤ cap2 by omega) hm2
    skip
    refine (yHashed (hB _)).mono ?_
    rintro r ⟨J5, _⟩ hs5 ⟨rfl, rfl⟩
    repeat (first | refine SeqS.go cok ?_ | (refine LdG.keep ?_; first | refine LdG.lN cok 3 rfl rfl rfl rfl rfl (by first | exact Nat.le_of_ble_eq_true rfl | omega | (dsimp only; omega) | (simp only [addS_eq, mulS_eq]; omega)) ?_) | (refine OpG.keep ?_; first | refine OpG.sL cok 3 rfl rfl rfl rfl rfl rfl rfl (by first | exact Nat.le_of_ble_eq_true rfl | omega | (dsimp only; omega) | (simp only [addS_eq, mulS_eq]; omega)) ?_))
    exact Fin.drop G [_, _, _, _, _] ⟨rfl, rfl⟩
end Go.Proofs.YgvafwGreat
