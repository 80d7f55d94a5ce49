import Derived.Test.YgvafwGreatY45
set_option exponentiation.threshold 1000
set_option maxRecDepth 100000
set_option maxHeartbeats 4000000
set_option linter.unusedVariables false
set_option linter.unusedSimpArgs false
-- v2
-- v4
-- v5
-- v6
-- v7
namespace Go.Proofs.YgvafwGreat
open Go.HL Go.Proofs

theorem callAcct {P : Program} {f : FuncId} {args : Array Value} {I : Ent → Prop} {G : List Ent} {a : YA} {K : Post} (h : CallG P f args ⟨I, G⟩ fun r S' => ⟨I, G⟩ = S' ∧ ∃ l, r = .agg l.toArray ∧ AcctC I l a)
    (k : ∀ d0 d1 d2 d3 d4 d5 d6 d7 d8 d9 d10 d11 d12 d13 d14 d15 d16 d17 d18 d19 nv bv cv sv, AcctC I (bvs [d0, d1, d2, d3, d4, d5, d6, d7, d8, d9, d10, d11, d12, d13, d14, d15, d16, d17, d18, d19] ++ [nv, bv, cv, sv]) a → NatI I nv a.nonce → NatI I bv a.bal → Byt ⟨I, []⟩ cv a.code → SlotsI I sv a.slots → K (.agg (bvs [d0, d1, d2, d3, d4, d5, d6, d7, d8, d9, d10, d11, d12, d13, d14, d15, d16, d17, d18, d19] ++ [nv, bv, cv, sv]).toArray) ⟨I, G⟩) : CallG P f args ⟨I, G⟩ K := by
  refine h.mono ?_
  rintro x _ - ⟨rfl, l, rfl, hl⟩
  obtain ⟨nv, bv, cv, sv, e, q1, q2, q3, q4⟩ := hl.out
  have hal := hl.ok.len
  obtain ⟨d0, d1, d2, d3, d4, d5, d6, d7, d8, d9, d10, d11, d12, d13, d14, d15, d16, d17, d18, d19, e2⟩ := list20 hal
  rw [e2] at e
  subst e
  exact k d0 d1 d2 d3 d4 d5 d6 d7 d8 d9 d10 d11 d12 d13 d14 d15 d16 d17 d18 d19 nv bv cv sv hl q1 q2 q3 q4
theorem yVal71 {I : Ent → Prop} {G : List Ent} {sb ssz fb fsz pc gas : Nat} {Ts Tf : TypeId} {cs cf : Nat → Value} {K : YK} {w : YW} {s mem : List Nat} {M : List Ent} {av : Value} {as' : List Nat} (hsz : 179 ≤ ssz) (hfz : 60 ≤ fsz) (hC : CsI I cs cf K w pc gas s) (hE : EnvI I cs K) (hM : MemO (cf 9) mem M) (hMG : ∀ x ∈ M, x ∈ G) (hA : StkI I av as') (hlen : as'.length < 100) :
    CallG Hvaf.prog 162 #[ptr sb 0, ptr fb 0, .int .u8 (71 : Nat), av] ⟨I, ⟨sb, ssz, Ts, cs⟩ :: ⟨fb, fsz, Tf, cf⟩ :: G⟩ fun r S' => S'.G = ⟨sb, ssz, Ts, cs⟩ :: ⟨fb, fsz, Tf, cf⟩ :: G ∧ NatI S'.I r ((getA w.al K.self).bal) := by
  have hf : ∀ S, CallG Hvaf.prog 75 #[.int .u8 (71 : Nat)] S fun r S' => S = S' ∧ r = .int .u8 (2 : Nat) := fun S => Family_spec (S := S) (o := 71) (by decide)
  have hb20 := hC.KB.kself.bv
  have hl20 := hC.KB.kself.len
  have hrow := hC.F.fself
  refine CallG.start (C := mkC Hvaf.prog) cok (args := [ptr sb 0, ptr fb 0, .int .u8 ((71 : Nat) : Int), av]) Hvaf.func162 rfl Hvaf.ntmps162 (by simp) (by kernel_rfl) ?_
  repeat (first | refine SeqS.go cok ?_)
  refine (yOperand (i := 0) hA (by omega) (by decide)).mono ?_
  rintro v _ - ⟨rfl, hv⟩
  repeat (first | refine SeqS.go cok ?_)
  refine (yOperand (i := 1) hA (by omega) (by decide)).mono ?_
  rintro u _ - ⟨rfl, hu⟩
  repeat (first | refine SeqS.go cok ?_ | refine CondS.f rfl ?_)
  refine (hf _).mono ?_
  rintro r _ - ⟨rfl, rfl⟩
  repeat (first | (refine QuG.keep ?_; first | refine QuG.rowA cok 1 rfl rfl rfl rfl rfl (by assumption) (by assumption) (by first | exact Nat.le_of_ble_eq_true rfl | omega | (dsimp only; omega) | (simp only [addS_eq, mulS_eq]; omega)) ?_) | refine SeqS.go cok ?_ | refine GuardS.yes rfl ?_ | refine GuardS.no rfl ?_ | refine CondS.t rfl ?_ | refine CondS.f rfl ?_ | refine W.drawI 38 cok [0, 1, 3, 0, 8, 24, 56, 127, 255, 511, 1023] [0, 1, 2, 3, 4, 5, 6, 7, 8, 9, 10] [6] (by kernel_rfl) (by kernel_rfl) ?_)
  refine callAcct (yAccount (wb := sb) (T := Ts) (G := ⟨fb, fsz, Tf, cf⟩ :: G) (sz := ssz) (by omega) hC.W.acc hC.KB.kself (by have := hC.B.al; omega)) ?_
  intro d0 d1 d2 d3 d4 d5 d6 d7 d8 d9 d10 d11 d12 d13 d14 d15 d16 d17 d18 d19 nv bv cv sv hl q1 q2 q3 q4
  have hf2 : (bvs [d0, d1, d2, d3, d4, d5, d6, d7, d8, d9, d10, d11, d12, d13, d14, d15, d16, d17, d18, d19] ++ [nv, bv, cv, sv]).getD 21 undef = bv := rfl
  repeat (first | (refine still_in ?_; first | refine still_nil ?_ | refine still_drop (by decide) ?_))
  refine QuG.keep ?_
  refine QuG.fldE cok Hvaf.underlying121 rfl rfl rfl rfl (Nat.le_of_ble_eq_true rfl) rfl ?_
  skip
  refine callN (nNorm q2) fun x J hs hx => ?_
  repeat (first | refine SeqS.go cok ?_ | (refine still_in ?_; first | refine still_drop (by decide) ?_))
  exact Fin.same ⟨rfl, hx⟩
end Go.Proofs.YgvafwGreat
