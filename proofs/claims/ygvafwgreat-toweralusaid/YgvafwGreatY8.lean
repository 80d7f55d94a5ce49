import Derived.Test.YgvafwGreatHT
set_option maxRecDepth 100000
set_option maxHeartbeats 4000000
set_option linter.unusedVariables false
set_option linter.unusedSimpArgs false
-- v2
-- plus: (refine QuG.keep ?_; fail "none")
-- plus: (refine OpG.keep ?_; fail "none")
namespace Go.Proofs.YgvafwGreat
open Go.HL Go.Proofs

theorem _root_.Go.HL.RowI.form {I : Ent → Prop} {k : Nat} {v : Value} {vss : List (List Value)} (h : RowI I k v vss) : ∃ a cap, v = .slice a vss.length cap := by
  rcases h.2 with ⟨rfl, rfl⟩ | ⟨x, o, cap, rfl, _⟩
  · exact ⟨none, 0, rfl⟩
  · exact ⟨_, cap, rfl⟩
theorem _root_.Go.HL.RowI.some {I : Ent → Prop} {k n cap : Nat} {ad : Option Addr} {vss : List (List Value)} (h : RowI I k (.slice ad n cap) vss) (hp : 0 < vss.length) : ∃ x o, ad = some ⟨x.b, o, none⟩ ∧ I x ∧ Els x o k vss := by
  rcases h.2 with ⟨_, rfl⟩ | ⟨x, o, cap', hv, h1, h2, h3⟩
  · simp at hp
  · cases hv; exact ⟨x, o, rfl, h2, h3⟩
/-- yp.listed -/
theorem yListed {I : Ent → Prop} {G : List Ent} {v : Value} {al : List (List Nat)} {a : List Nat} (hN : RowI I 20 v (al.map bvs)) (ha : (bvs a).length = 20) (hla : a.length = 20) (hall : ∀ x ∈ al, x.length = 20) (hlen : al.length < 2 ^ 30) :
    CallG Hvaf.prog 158 #[v, bytesV a] ⟨I, G⟩ fun r S' => ⟨I, G⟩ = S' ∧ r = .bool (decide (a ∈ al)) := by
  obtain ⟨ad, cap, rfl⟩ := hN.form
  refine CallG.start (C := mkC Hvaf.prog) cok (args := [.slice ad (al.map bvs).length cap, bytesV a]) Hvaf.func158 rfl Hvaf.ntmps158 (by simp) (by kernel_rfl) ?_
  intro b3
  repeat (first | refine SeqS.go cok ?_)
  refine W.loopG cok (by kernel_rfl) 0 (fun (i : Nat) e' => i ≤ al.length ∧ (∀ j, j < i → al.getD j [] ≠ a) ∧ slots [(3, ptr b3 0), (7, .slice ad (al.map bvs).length cap), (8, .int .i64 ((al.map bvs).length : Nat)), (9, .int .i64 (i : Nat))] e') (fun i => al.length - i) 0
    ⟨Nat.zero_le _, by omega, rfl, rfl, rfl, rfl, trivial⟩ (fun e' => (∀ j, j < al.length → al.getD j [] ≠ a)) ?_ ?_
  · rintro e' hno
    repeat (first | refine SeqS.go cok ?_)
    refine Fin.drop G [_] ⟨rfl, vB rfl (decide_eq_false ?_).symm⟩
    intro hm
    obtain ⟨j, hj, hj2⟩ := List.getElem_of_mem hm
    exact hno j hj (by rw [List.getD_eq_getElem?_getD, List.getElem?_eq_getElem hj, hj2]; rfl)
  · rintro i e' ⟨hi, hno, hsl⟩
    refine W.slots _ hsl fun e => ?_
    have hml : (al.map bvs).length = al.length := by simp
    by_cases hlt : i < al.length
    · obtain ⟨x, o, rfl, hx, hE⟩ := hN.some (by omega)
      have hel : (al.map bvs).getD i [] = bvs (al.getD i []) := by simp [List.getD_eq_getElem?_getD, List.getElem?_eq_getElem hlt]
      have hrd : ∀ G, Rd ⟨I, G⟩ x := fun _ => .inl hx
      have hl20 : (al.getD i []).length = 20 := hall _ (by rw [List.getD_eq_getElem?_getD, List.getElem?_eq_getElem hlt]; exact List.getElem_mem hlt)
      have hb20 : (bvs (al.getD i [])).length = 20 := by rw [bvs_len]; exact hl20
      repeat (first | (refine QuG.keep ?_; first | refine QuG.elE cok _ (by assumption) (by first | assumption | exact ‹∀ G, Rd ⟨_, G⟩ _› _) (by assumption) rfl rfl rfl rfl rfl (by omega) ?_) | refine SeqS.go cok ?_ | refine And.intro (by omega) ?_ | (refine NatS.keep ?_; first | with_reducible refine NatS.nat ?_) | (refine CondS.keep ?_; first | refine CondS.d1 rfl (by omega) ?_))
      intro b6
      repeat (first | (refine QuG.keep ?_; first | refine QuG.upL cok 0 rfl rfl rfl rfl rfl rfl (by assumption) (by first | exact Nat.le_of_ble_eq_true rfl | omega) ?_ | refine QuG.boxL cok 1 rfl rfl rfl rfl rfl (by assumption) ?_ | refine QuG.eqA cok .u8 rfl rfl rfl rfl rfl (by kernel_rfl) rfl rfl (by assumption) (by assumption) ?_) | (refine OpG.keep ?_; first | refine OpG.upS cok 0 rfl rfl rfl rfl rfl (by assumption) (one_bvs _) (by first | exact Nat.le_of_ble_eq_true rfl | omega) ?_) | refine SeqS.go cok ?_)
      (first | refine CondS.dec rfl (fun heq => ?_) (fun heq => ?_))
      · repeat (first | refine SeqS.go cok ?_)
        refine Fin.drop G [_, _] ⟨rfl, vB rfl (decide_eq_true ?_).symm⟩
        rw [← heq, List.getD_eq_getElem?_getD, List.getElem?_eq_getElem hlt]; exact List.getElem_mem hlt
      · repeat (first | refine SeqS.go cok ?_ | (refine ValS.keep ?_; first | (with_reducible refine ValS.kI64 ?_; first | (with_reducible refine ValS.addI64_L ?_ ?_ ; omega))))
        refine ⟨i + 1, Rel.drop _ [_] ⟨rfl, hlt, fun j hj => ?_, rfl, rfl, rfl, rfl, trivial⟩, by show al.length - (i + 1) < al.length - i; omega⟩
        by_cases h : j = i
        · subst h; exact heq
        · exact hno j (by omega)
    · repeat (first | refine SeqS.go cok ?_ | (refine CondS.keep ?_; first | refine CondS.d0 rfl (by omega) ?_))
      exact ⟨rfl, fun j hj => hno j (by omega)⟩
/-- yp.before -/
theorem yBefore {S : St} {a b : List Nat} (ha : a.length = 20) (hb : b.length = 20) (h8 : ∀ d ∈ a, d < 256) (h8' : ∀ d ∈ b, d < 256) :
    CallG Hvaf.prog 140 #[bytesV a, bytesV b] S fun r S' => S = S' ∧ r = .bool (ltL a b) := by
  refine CallG.start (C := mkC Hvaf.prog) cok (args := [bytesV a, bytesV b]) Hvaf.func140 rfl Hvaf.ntmps140 (by simp) (by kernel_rfl) ?_
  intro b2 b3
  repeat (first | (refine QuG.keep ?_; first | refine QuG.strBox cok 0 rfl rfl rfl rfl rfl rfl rfl rfl rfl rfl (by assumption) ?_ | refine QuG.strBox cok 1 rfl rfl rfl rfl rfl rfl rfl rfl rfl rfl (by assumption) ?_ | refine QuG.strLt rfl rfl (by assumption) (by assumption) ?_) | refine SeqS.go cok ?_ | refine And.intro (Eq.refl true) ?_ | (refine ValS.keep ?_; first | with_reducible refine ValS.sl0 ?_) | refine W.drawI 1 cok [0, 1, 0, 4, 15, 31] [0, 1, 2, 3, 4, 5] [1, 3] (by kernel_rfl) (by kernel_rfl) ?_)
  exact Fin.drop S.G [_, _] ⟨rfl, rfl⟩
/-- The list with the address in its place. -/
def insA (a : List Nat) : List (List Nat) → List (List Nat)
  | [] => [a]
  | x :: l => if ltL a x then a :: x :: l else x :: insA a l
def withA (a : List Nat) (l : List (List Nat)) : List (List Nat) := if a ∈ l then l else insA a l
end Go.Proofs.YgvafwGreat
