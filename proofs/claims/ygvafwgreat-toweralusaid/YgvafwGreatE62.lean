import Derived.Test.YgvafwGreatY75
set_option exponentiation.threshold 1000
set_option maxRecDepth 100000
set_option maxHeartbeats 4000000
set_option linter.unusedVariables false
set_option linter.unusedSimpArgs false
-- v2
-- v4
-- v5
-- v6
-- v7
-- plus: (refine QuG.keep ?_; refine QuG.bs cok hbs (hrd _) rfl rfl rfl rfl (by omega) ?_)
namespace Go.Proofs.YgvafwGreat
open Go.HL Go.Proofs

/-- mach.Intrinsic -/
theorem mIntrinsic {I : Ent → Prop} {G : List Ent} {gas : Nat} {dv : Value} {ds : List Nat} (hb : Byt ⟨I, []⟩ dv ds) (hl : ds.length ≤ 1024) :
    CallG Hvaf.prog 104 #[txV dv gas] ⟨I, G⟩ fun r S' => ⟨I, G⟩ = S' ∧ r = .int .u64 (intN ds : Nat) := by
  obtain ⟨da, dn, rfl, -⟩ := hb.form
  have h8 := hb.1
  have hz := zcN_le ds
  refine CallG.start (C := mkC Hvaf.prog) cok (args := [txV (.slice da ds.length dn) gas]) Hvaf.func104 rfl Hvaf.ntmps104 (by simp) (by kernel_rfl) ?_
  intro b1
  repeat (first | refine SeqS.go cok ?_ | (refine QuG.keep ?_; first | refine QuG.l1 cok 0 rfl rfl rfl rfl rfl (by first | exact Nat.le_of_ble_eq_true rfl | omega | (dsimp only; omega) | (simp only [addS_eq, mulS_eq]; omega)) ?_))
  refine W.loopG cok (by kernel_rfl) 0 (fun (i : Nat) e' => i ≤ ds.length ∧ slots [(1, ptr b1 0), (3, .int .u64 (21000 + 4 * i + 12 * (i - zcN (ds.take i)) : Nat)), (9, .slice da ds.length dn), (10, .int .i64 (ds.length : Nat)), (11, .int .i64 (i : Nat))] e') (fun i => ds.length - i) 0
    ⟨Nat.zero_le _, rfl, rfl, rfl, rfl, rfl, trivial⟩ (fun e' => slots [(1, ptr b1 0), (3, .int .u64 (intN ds : Nat))] e') ?_ ?_
  · rintro e' hsl
    refine SeqS.slots cok _ hsl fun e => ?_
    repeat (first | refine SeqS.go cok ?_ | (refine QuG.keep ?_; first | refine QuG.l1 cok 0 rfl rfl rfl rfl rfl (by first | exact Nat.le_of_ble_eq_true rfl | omega | (dsimp only; omega) | (simp only [addS_eq, mulS_eq]; omega)) ?_))
    refine W.rounds cok (by kernel_rfl) 1 ?_
    repeat (first | refine SeqS.go cok ?_ | refine CondS.f rfl ?_ | (refine QuG.keep ?_; first | refine QuG.l1 cok 0 rfl rfl rfl rfl rfl (by first | exact Nat.le_of_ble_eq_true rfl | omega | (dsimp only; omega) | (simp only [addS_eq, mulS_eq]; omega)) ?_))
    exact Fin.drop G [_] ⟨rfl, rfl⟩
  · rintro i e' ⟨hi, hsl⟩
    refine W.slots _ hsl fun e => ?_
    by_cases hlt : i < ds.length
    · obtain ⟨x, o, rfl, hx, hbs⟩ := hb.some (by omega)
      have hrd : ∀ G, Rd ⟨I, G⟩ x := fun _ => .inl (by rcases hx with h | h; exact h; exact absurd h (by simp))
      have htk := zcN_take hlt
      have hzi := zcN_le (ds.take i)
      have hti : (ds.take i).length = i := by rw [List.length_take]; omega
      have hd8 : ds.getD i 0 < 256 := by rw [List.getD_eq_getElem?_getD, List.getElem?_eq_getElem hlt]; exact h8 _ (List.getElem_mem hlt)
      by_cases h0 : ds.getD i 0 = 0
      · rw [if_pos h0] at htk
        repeat (first | (refine QuG.keep ?_; refine QuG.bs cok hbs (hrd _) rfl rfl rfl rfl (by omega) ?_) | refine SeqS.go cok ?_ | refine And.intro (by omega) ?_ | (refine NatS.keep ?_; first | with_reducible refine NatS.nat ?_) | (refine ValS.keep ?_; first | (with_reducible refine ValS.kI64 ?_; first | (with_reducible refine ValS.addI64_L ?_ ?_ ; omega)) | (with_reducible refine ValS.kU64 ?_; first | (with_reducible refine ValS.addU64_L ?_ ?_ ; omega))) | (refine CondS.keep ?_; first | refine CondS.d1 rfl (by omega) ?_ | refine CondS.nd0 rfl (by omega) ?_))
        exact ⟨i + 1, Rel.same ⟨rfl, hlt, rfl, vI rfl (by omega), rfl, rfl, rfl, trivial⟩, by show ds.length - (i + 1) < ds.length - i; omega⟩
      · rw [if_neg h0] at htk
        repeat (first | (refine QuG.keep ?_; refine QuG.bs cok hbs (hrd _) rfl rfl rfl rfl (by omega) ?_) | refine SeqS.go cok ?_ | refine And.intro (by omega) ?_ | (refine NatS.keep ?_; first | with_reducible refine NatS.nat ?_) | (refine ValS.keep ?_; first | (with_reducible refine ValS.kI64 ?_; first | (with_reducible refine ValS.addI64_L ?_ ?_ ; omega)) | (with_reducible refine ValS.kU64 ?_; first | (with_reducible refine ValS.addU64_L ?_ ?_ ; omega))) | (refine CondS.keep ?_; first | refine CondS.d1 rfl (by omega) ?_ | refine CondS.nd1 rfl (by omega) ?_))
        exact ⟨i + 1, Rel.same ⟨rfl, hlt, rfl, vI rfl (by omega), rfl, rfl, rfl, trivial⟩, by show ds.length - (i + 1) < ds.length - i; omega⟩
    · obtain rfl : i = ds.length := by omega
      rw [List.take_length] at *
      repeat (first | refine SeqS.go cok ?_ | (refine CondS.keep ?_; first | refine CondS.d0 rfl (by omega) ?_))
      exact ⟨rfl, rfl, vI rfl (by unfold intN; omega), trivial⟩
end Go.Proofs.YgvafwGreat
