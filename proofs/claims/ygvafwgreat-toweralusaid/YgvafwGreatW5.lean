import Derived.Test.YgvafwGreatRows
import Derived.WalkKit
import Derived.ProofKit
import Derived.OpenShut
namespace Go.Proofs.YgvafwGreat.towerAlu
open Go.ChangeShapes Go.WideShapes Go.ChangeAt Go.RowKit
set_option maxRecDepth 100000
def rkL : List Nat := [1, 1, 2, 18, 17, 3, 2, 2, 3, 10, 1, 16, 4, 12, 9, 5, 1, 1, 2, 1, 1, 9, 5, 3, 12, 15, 13, 3, 2, 9, 11, 7, 8, 4, 3, 3, 1, 1, 8, 1, 2, 1, 4, 1, 3, 11, 14, 8, 12, 2, 1, 2, 8, 1, 7, 4, 7, 5, 6, 6, 3, 3, 4, 1, 4, 8, 8, 4, 10, 6, 7, 5, 5, 1, 8, 1, 10, 9, 3, 5, 2, 2, 6, 2, 3, 7, 3, 1, 1, 3, 2, 2, 6, 3, 7, 1, 1, 3, 1, 2, 7, 2, 1, 7, 2, 3, 7, 7, 4, 6, 8, 10, 1, 6, 1, 9, 7, 11, 2, 1, 12, 13, 4, 1, 4, 3, 7, 3, 11, 1, 1, 2, 1, 2, 6, 3, 6, 5, 2, 3, 1, 3, 1, 7, 7, 7, 3, 2, 4, 9, 4, 5, 4, 5, 4, 3, 4, 1, 1, 9, 9, 1, 8, 8, 1, 3, 2, 6, 2, 5, 6, 6, 4, 5, 3, 5, 6, 1, 2, 2, 1, 3, 6, 7, 8, 9, 4, 2, 1, 1, 1, 7, 8, 1, 5, 9, 8, 10, 11, 12, 7, 6, 7, 9, 7, 9, 6, 6, 10, 6, 10, 9, 9, 10, 9, 6, 7, 2, 4, 4, 4, 1, 2, 5, 10, 5, 1, 2, 1, 6, 2, 5, 5, 8, 6, 7, 6, 4, 1, 7, 5, 6, 3, 3, 5, 7, 4, 1, 5, 4, 5, 4, 5, 1, 1, 1, 2, 7, 8, 3, 4, 1, 1, 2, 1, 7, 1, 4, 3, 5, 1, 3, 9, 2, 1, 4, 1, 4, 2, 10, 5, 2, 2, 10, 11, 10, 11, 4, 3, 10, 10, 5, 6, 1, 1, 1, 1, 1, 3, 3, 4, 4, 4, 4, 8, 6, 4, 2, 3, 2, 1, 3, 3, 3, 8, 2, 9, 2, 2, 7, 6, 8, 6, 6, 7, 2, 6, 6, 5, 6, 3, 2, 3, 1, 2, 3, 3, 7, 9, 4, 1, 5, 7, 5, 6, 5, 7, 3, 4, 6, 5, 2, 4, 4, 1, 3, 3, 3, 4, 6, 3, 4, 3, 4, 1, 1, 2, 1, 2, 8, 4, 2, 3, 1, 4, 2, 2, 7, 9, 7, 4, 3, 3, 1, 9, 5, 1, 3, 2, 9, 3, 3, 5, 7, 3, 2, 2, 8, 1, 2, 1, 2, 3, 2, 5, 3, 1, 3, 1, 1, 1, 3, 1, 7, 1, 3, 3, 3, 8, 1, 4, 4, 7, 1, 1, 2, 2, 2, 2, 6, 5, 7, 1, 1, 1, 5, 4, 3, 2, 1, 1, 1, 1, 1, 1, 1, 1, 1, 1, 1, 1, 1, 1, 1, 1, 1, 1, 1, 1, 1]
def rk (f : Nat) : Nat := rkL.getD f 0
def edgeB (P : Program) (a n : Nat) : Bool := (List.range' a n).all fun g => ((P.funcs[g]?).elim [] P.leadsTo).all fun h => Nat.blt (rk h) (rk g)
theorem e0 : edgeB Hvaf.prog 0 100 = true := by kernel_rfl
theorem e1 : edgeB Hvaf.prog 100 100 = true := by kernel_rfl
theorem e2 : edgeB Hvaf.prog 200 100 = true := by kernel_rfl
theorem e3 : edgeB Hvaf.prog 300 160 = true := by kernel_rfl
theorem fsz : Hvaf.prog.funcs.size = 460 := by kernel_rfl
theorem edge {g h : Nat} (hh : h ∈ (Hvaf.prog.funcs[g]?).elim [] Hvaf.prog.leadsTo) : rk h < rk g := by
  have key : ∀ {a n}, edgeB Hvaf.prog a n = true → a ≤ g → g < a + n → rk h < rk g := fun {a n} he h1 h2 => by
    have h3 := List.all_eq_true.1 he g (List.mem_range'_1.2 ⟨h1, h2⟩)
    have h4 := List.all_eq_true.1 h3 h hh
    exact Nat.le_of_ble_eq_true h4
  rcases Nat.lt_or_ge g 460 with hg | hg
  · rcases Nat.lt_or_ge g 100 with g1 | g1
    · exact key e0 (Nat.zero_le _) (by omega)
    · rcases Nat.lt_or_ge g 200 with g2 | g2
      · exact key e1 g1 (by omega)
      · rcases Nat.lt_or_ge g 300 with g3 | g3
        · exact key e2 g2 (by omega)
        · exact key e3 g3 (by omega)
  · rw [Array.getElem?_eq_none (by rw [fsz]; exact hg)] at hh
    cases hh
theorem cv {x : Nat} : ∀ (n : Nat) (todo seen : List Nat), x ∈ Hvaf.prog.closureVia n todo seen → x ∈ seen ∨ ∃ t ∈ todo, rk x ≤ rk t := by
  intro n
  induction n with
  | zero => intro todo seen hx; unfold Program.closureVia at hx; exact .inl (List.mem_reverse.1 hx)
  | succ n ih =>
    intro todo seen hx
    cases todo with
    | nil => unfold Program.closureVia at hx; exact .inl (List.mem_reverse.1 hx)
    | cons f todo =>
      unfold Program.closureVia at hx
      split at hx
      · rcases ih _ _ hx with h | ⟨t, ht, hr⟩
        · exact .inl h
        · exact .inr ⟨t, List.mem_cons_of_mem _ ht, hr⟩
      · rcases ih _ _ hx with h | ⟨t, ht, hr⟩
        · rcases List.mem_cons.1 h with rfl | h
          · exact .inr ⟨_, List.mem_cons_self, Nat.le_refl _⟩
          · exact .inl h
        · rcases List.mem_append.1 ht with ht | ht
          · exact .inr ⟨f, List.mem_cons_self, by have := edge ht; omega⟩
          · exact .inr ⟨t, List.mem_cons_of_mem _ ht, hr⟩
theorem rec_eq (f : FuncId) : Hvaf.prog.recurses f = Hvaf.prog.unfollowed f := by
  unfold Program.recurses
  have h : ((Hvaf.prog.closure f).any fun g => ((Hvaf.prog.funcs[g]?).elim [] Hvaf.prog.leadsTo).any fun h => (Hvaf.prog.closure h).contains g) = false := by
    rw [List.any_eq_false]
    intro g _ hg
    obtain ⟨h, hh, hc⟩ := List.any_eq_true.1 hg
    have hm : g ∈ Hvaf.prog.closure h := List.contains_iff_mem.1 hc
    have he := edge hh
    unfold Program.closure at hm
    rcases cv _ _ _ hm with h1 | ⟨t, ht, hr⟩
    · cases h1
    · rw [List.mem_singleton.1 ht] at hr; omega
  rw [h, Bool.or_false]
end Go.Proofs.YgvafwGreat.towerAlu
