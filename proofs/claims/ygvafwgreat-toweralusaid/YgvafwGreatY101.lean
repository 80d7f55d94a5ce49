import Derived.Test.YgvafwGreatY100
import Derived.Test.YgvafwGreatK12
import Derived.Test.YgvafwGreatK18
set_option exponentiation.threshold 1000
set_option maxRecDepth 100000
set_option maxHeartbeats 4000000
set_option linter.unusedVariables false
set_option linter.unusedSimpArgs false
-- v2
-- v4
-- v5
-- v6
-- v7
namespace Go.Proofs.YgvafwGreat
open Go.HL Go.Proofs

/-- yp.hashedAddr of the bytes that CREATE hashes -/
theorem yHashed {I : Ent → Prop} {G : List Ent} {v : Value} (hB : Byt ⟨I, G⟩ v crL) :
    CallG Hvaf.prog 134 #[v] ⟨I, G⟩ fun r S' => S'.G = G ∧ r = bytesV crAd := by
  have hks := fun (y : Ent) => kSum (hB.mono (S' := ⟨I, y :: G⟩) (fun _ h => h) (fun x hx => List.mem_cons_of_mem _ hx)) (by decide)
  rw [kec_cr] at hks
  refine CallG.start (C := mkC Hvaf.prog) cok (args := [v]) Hvaf.func134 rfl Hvaf.ntmps134 (by simp) (by kernel_rfl) ?_
  intro x2
  repeat (first | refine SeqS.go cok ?_)
  refine (hks _).mono ?_
  rintro r ⟨J, _⟩ hs ⟨rfl, rfl⟩
  skip
  intro x3
  repeat (first | refine SeqS.go cok ?_ | refine And.intro (Eq.refl true) ?_ | refine And.intro (by dsimp only; omega) ?_ | (refine NatS.keep ?_; first | with_reducible refine NatS.lit ?_) | (refine OpG.keep ?_; first | refine OpG.sL cok 0 rfl rfl rfl rfl rfl rfl rfl (by first | exact Nat.le_of_ble_eq_true rfl | omega | (dsimp only; omega) | (simp only [addS_eq, mulS_eq]; omega)) ?_))
  refine ValS.to (u := HL.sl x3 12 20 20) rfl ?_
  repeat (first | refine SeqS.go cok ?_ | refine And.intro (by dsimp only; omega) ?_ | (refine QuG.keep ?_; first | refine QuG.lN cok 0 rfl rfl rfl rfl rfl (by first | exact Nat.le_of_ble_eq_true rfl | omega | (dsimp only; omega) | (simp only [addS_eq, mulS_eq]; omega)) ?_) | (refine LdG.keep ?_; first | refine LdG.lN cok 1 rfl rfl rfl rfl rfl (by first | exact Nat.le_of_ble_eq_true rfl | omega | (dsimp only; omega) | (simp only [addS_eq, mulS_eq]; omega)) ?_) | (refine OpG.keep ?_; first | refine OpG.sL cok 1 rfl rfl rfl rfl rfl rfl rfl (by first | exact Nat.le_of_ble_eq_true rfl | omega | (dsimp only; omega) | (simp only [addS_eq, mulS_eq]; omega)) ?_))
  exact Fin.drop G [_, _] ⟨rfl, rfl⟩
/-- yp.State.taken where the account is new -/
theorem yTaken {I : Ent → Prop} {G : List Ent} {sb ssz : Nat} {Ts : TypeId} {cs : Nat → Value} {al : List YA} {a : List Nat} (hsz : 8 ≤ ssz) (hN : AcctsI I (cs 0) al) (hA : AdOk a) (hlen : al.length < 2 ^ 30) (hn : (getA al a).nonce = 0) (hc : (getA al a).code = []) :
    CallG Hvaf.prog 64 #[ptr sb 0, bytesV a] ⟨I, ⟨sb, ssz, Ts, cs⟩ :: G⟩ fun r S' => S'.G = ⟨sb, ssz, Ts, cs⟩ :: G ∧ r = .bool false := by
  have hal := hA.len
  have hab := hA.bv
  refine CallG.start (C := mkC Hvaf.prog) cok (args := [ptr sb 0, bytesV a]) Hvaf.func64 rfl Hvaf.ntmps64 (by simp) (by kernel_rfl) ?_
  intro x1
  repeat (first | (refine QuG.keep ?_; first | refine QuG.boxL cok 0 rfl rfl rfl rfl rfl (by assumption) ?_) | refine SeqS.go cok ?_ | refine W.drawI 1 cok [0, 1, 3, 0, 15, 0, 63] [0, 1, 2, 3, 4, 5, 6] [3] (by kernel_rfl) (by kernel_rfl) ?_)
  refine CallG.focus 1 rfl ?_
  refine (yAccount hsz hN hA hlen).mono ?_
  rintro r _ - ⟨rfl, l, rfl, hac⟩
  have h24 := hac.len
  have hone := hac.one
  obtain ⟨nv, bv, cv, sv, g0, g1, g2, g3, n1, n2, n3, n4⟩ := hac.get
  rw [hn] at n1
  rw [hc] at n3
  have e0 : HL.updN z121 0 l 20 = nv := by rw [← g0]; exact updN_get (o := 0) (i := 20) (by omega)
  have e2 : HL.updN z121 0 l 22 = cv := by rw [← g2]; exact updN_get (o := 0) (i := 22) (by omega)
  have hiz := fun (G : List Ent) => yIsZero (G := G) n1
  rw [decide_eq_true rfl] at hiz
  obtain ⟨ca, cc, rfl, -⟩ := n3.form
  repeat (first | (refine still_in ?_; first | refine still_nil ?_ | refine still_drop (by decide) ?_))
  intro x2
  repeat (first | (refine QuG.keep ?_; first | refine QuG.l1E cok 0 rfl rfl rfl rfl rfl (by first | exact Nat.le_of_ble_eq_true rfl | omega | (dsimp only; omega) | (simp only [addS_eq, mulS_eq]; omega)) (by assumption) ?_) | (refine OpG.keep ?_; first | refine OpG.upS cok 0 rfl rfl rfl rfl rfl (by assumption) (by first | assumption | exact one_bvs _) (by first | exact Nat.le_of_ble_eq_true rfl | omega) ?_) | refine SeqS.go cok ?_ | (refine still_in ?_; first | refine still_drop (by decide) ?_))
  refine (hiz _).mono ?_
  rintro r _ - ⟨rfl, rfl⟩
  repeat (first | (refine QuG.keep ?_; first | refine QuG.l1E cok 0 rfl rfl rfl rfl rfl (by first | exact Nat.le_of_ble_eq_true rfl | omega | (dsimp only; omega) | (simp only [addS_eq, mulS_eq]; omega)) (by assumption) ?_) | refine SeqS.go cok ?_ | refine GuardS.yes rfl ?_)
  exact Fin.focus 1 rfl (Fin.drop1 _ G [_, _] ⟨rfl, rfl⟩)
/-- yp.deposit of nothing -/
theorem yDeposit0 {I : Ent → Prop} {G : List Ent} {fb fsz gas : Nat} {T : TypeId} {cf : Nat → Value} (hfz : 60 ≤ fsz) (hg : NatI I (cf 4) gas) :
    CallG Hvaf.prog 151 #[ptr fb 0, .slice none 0 0] ⟨I, ⟨fb, fsz, T, cf⟩ :: G⟩ fun r S' => S'.G = ⟨fb, fsz, T, cf⟩ :: G ∧ ∃ v, r = .tuple #[v, .int .u8 0] ∧ NatI S'.I v gas := by
  refine CallG.start (C := mkC Hvaf.prog) cok (args := [ptr fb 0, .slice none 0 0]) Hvaf.func151 rfl Hvaf.ntmps151 (by simp) (by kernel_rfl) ?_
  repeat (first | refine SeqS.go cok ?_)
  refine callN (yNum (n := 200) (by decide)) fun v1 J1 hs1 h1 => ?_
  repeat (first | (refine ValS.keep ?_; first | (with_reducible refine ValS.kU64 ?_; first | (with_reducible refine ValS.convU64 ?_ ?_ ; omega))))
  refine callN (yNum (n := 0) (by decide)) fun v2 J2 hs2 h2 => ?_
  skip
  refine callN (nMul (h1.up hs2) h2 (by decide)) fun v3 J3 hs3 h3 => ?_
  repeat (first | refine SeqS.go cok ?_ | refine GuardS.no rfl ?_ | refine CondS.f rfl ?_ | (refine QuG.keep ?_; first | refine QuG.l1 cok 0 rfl rfl rfl rfl rfl (by first | exact Nat.le_of_ble_eq_true rfl | omega | (dsimp only; omega) | (simp only [addS_eq, mulS_eq]; omega)) ?_))
  refine (nCmpLe h3 (((hg.up hs1).up hs2).up hs3) (by omega)).mono ?_
  rintro r _ - ⟨rfl, z, hz, hz', rfl⟩
  repeat (first | refine SeqS.go cok ?_ | (refine QuG.keep ?_; first | refine QuG.l1 cok 0 rfl rfl rfl rfl rfl (by first | exact Nat.le_of_ble_eq_true rfl | omega | (dsimp only; omega) | (simp only [addS_eq, mulS_eq]; omega)) ?_) | (refine CondS.keep ?_; first | refine CondS.d0 rfl (by omega) ?_))
  refine callN (yLess (((hg.up hs1).up hs2).up hs3) h3) fun v4 J4 hs4 h4 => ?_
  repeat (first | refine SeqS.go cok ?_)
  exact Fin.same ⟨rfl, v4, rfl, h4⟩
end Go.Proofs.YgvafwGreat
