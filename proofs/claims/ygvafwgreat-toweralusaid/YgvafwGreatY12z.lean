import Derived.Test.YgvafwGreatY11
set_option maxRecDepth 100000
set_option maxHeartbeats 4000000
set_option linter.unusedVariables false
set_option linter.unusedSimpArgs false
-- v2
-- v4
namespace Go.Proofs.YgvafwGreat
open Go.HL Go.Proofs

theorem _root_.Go.HL.OwnL.one {T : TypeId} {k : Nat} {v : Value} {vss : List (List Value)} {M : List Ent} (h : OwnL T k v vss M) : one v = true := by
  rcases h.out with ⟨rfl, _⟩ | ⟨b, cap, c, rfl, _⟩ <;> rfl
theorem perm_put {x y : Ent} {G M : List Ent} : (x :: y :: (G ++ M)).Perm (M ++ (y :: G ++ [x])) := by
  refine List.Perm.trans ?_ List.perm_append_comm
  rw [List.append_assoc]
  refine (List.Perm.swap _ _ _).trans ?_
  refine List.Perm.cons _ ?_
  rw [List.singleton_append]
  exact List.perm_middle.symm
end Go.Proofs.YgvafwGreat
