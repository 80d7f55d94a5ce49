import Derived.Test.YgvafwGreatY62
import Derived.Test.YgvafwGreatY46
set_option exponentiation.threshold 1000
set_option maxRecDepth 100000
set_option maxHeartbeats 4000000
set_option linter.unusedVariables false
set_option linter.unusedSimpArgs false
-- v2
-- v4
-- v5
-- v6
-- v7
namespace Go.Proofs.YgvafwGreat
open Go.HL Go.Proofs

theorem yEff60 {I : Ent → Prop} {G : List Ent} {sb ssz fb fsz mb pc gas : Nat} {Ts Tf Tm : TypeId} {cs cf cm : Nat → Value} {K : YK} {w : YW} {s mem : List Nat} {av : Value} {as' : List Nat} (hsz : 179 ≤ ssz) (hfz : 60 ≤ fsz) (hC : CsI I cs cf K w pc gas s) (hA : StkI I av as') (hlen : as'.length < 100) (hcl : (getA w.al (adN (as'.getD 0 0))).code.length < 2 ^ 30) (hc9 : cf 9 = sl mb 0 mem.length mem.length) (hml : mem.length < 2 ^ 30) (hn : as'.getD 3 0 < 2 ^ 30) :
    CallG Hvaf.prog 163 #[ptr sb 0, ptr fb 0, .int .u8 (60 : Nat), av] ⟨I, ⟨sb, ssz, Ts, cs⟩ :: ⟨fb, fsz, Tf, cf⟩ :: ⟨mb, mem.length, Tm, updN cm 0 (bvs mem)⟩ :: G⟩ fun r S' => r = .bool true ∧ ∃ J w1, S' = ⟨J, ⟨sb, ssz, Ts, upd cs 1 w1⟩ :: ⟨fb, fsz, Tf, cf⟩ :: ⟨mb, mem.length, Tm, updN cm 0 (bvs (if as'.getD 3 0 = 0 then mem else writeL mem (as'.getD 1 0) (cutL (getA w.al (adN (as'.getD 0 0))).code (as'.getD 2 0) (as'.getD 3 0))))⟩ :: G⟩ ∧ RowI J 20 w1 ((withA (adN (as'.getD 0 0)) w.wa).map bvs) := by
  refine CallG.start (C := mkC Hvaf.prog) cok (args := [ptr sb 0, ptr fb 0, .int .u8 ((60 : Nat) : Int), av]) Hvaf.func163 rfl Hvaf.ntmps163 (by simp) (by kernel_rfl) ?_
  repeat (first | refine SeqS.go cok ?_)
  refine (yOperand (i := 0) hA (by omega) (by decide)).mono ?_
  rintro v _ - ⟨rfl, hv⟩
  repeat (first | refine SeqS.go cok ?_)
  refine (yOperand (i := 1) hA (by omega) (by decide)).mono ?_
  rintro u _ - ⟨rfl, hu⟩
  repeat (first | refine SeqS.go cok ?_)
  refine (yOperand (i := 2) hA (by omega) (by decide)).mono ?_
  rintro x _ - ⟨rfl, hx⟩
  repeat (first | refine SeqS.go cok ?_ | refine CondS.t rfl ?_ | refine CondS.f rfl ?_ | refine W.drawI 13 cok [0, 1, 3, 0, 8, 31] [0, 1, 2, 3, 4, 5] [] (by kernel_rfl) (by kernel_rfl) ?_)
  refine (yAddrOf hv).mono ?_
  rintro r _ - ⟨rfl, rfl⟩
  repeat (first | (refine still_in ?_; first | refine still_nil ?_))
  refine (yWarm (wb := sb) (sz := ssz) (T := Ts) (c := cs) (by omega) hC.W.wrm (adN_ok _) hC.W.wok (by have := hC.B.wa; omega)).mono ?_
  rintro r _ hs1 ⟨J1, w1, rfl, hw1⟩
  replace hs1 : HL.Sub I J1 := hs1
  repeat (first | refine SeqS.go cok ?_ | refine W.drawI 14 cok [0, 0, 0, 4, 12, 0, 32, 124, 252, 0, 0, 1276, 4095] [0, 1, 2, 3, 4, 5, 9, 10, 6, 7, 8, 11, 12] [] (by kernel_rfl) (by kernel_rfl) ?_)
  refine (yAddrOf (hv.up hs1)).mono ?_
  rintro r _ - ⟨rfl, rfl⟩
  repeat (first | (refine still_in ?_; first | refine still_nil ?_))
  refine callAcct (yAccount (wb := sb) (T := Ts) (sz := ssz) (c := upd cs 1 w1) (by omega) (hC.W.acc.up hs1) (adN_ok _) (by have := hC.B.al; omega)) ?_
  intro d0 d1 d2 d3 d4 d5 d6 d7 d8 d9 d10 d11 d12 d13 d14 d15 d16 d17 d18 d19 nv bv cv sv hl q1 q2 q3 q4
  repeat (first | (refine still_in ?_; first | refine still_nil ?_))
  refine QuG.keep ?_
  refine QuG.fldE cok Hvaf.underlying121 rfl rfl rfl rfl (Nat.le_of_ble_eq_true rfl) rfl ?_
  skip
  refine (yOperand (i := 3) (hA.up hs1) (by omega) (by decide)).mono ?_
  rintro y _ - ⟨rfl, hy⟩
  repeat (first | (refine still_in ?_; first | refine still_nil ?_))
  refine CallG.focus 2 rfl ?_
  refine CallG.focus 2 rfl ?_
  refine (yCopied hfz hc9 (hu.up hs1) q3 (hx.up hs1) hy (by omega) (by omega) (by omega)).mono ?_
  rintro r _ hs2 ⟨J, rfl⟩
  replace hs2 : HL.Sub J1 J := hs2
  refine still_in ?_
  refine still_nil ?_
  repeat (first | refine SeqS.go cok ?_)
  refine Fin.focus 2 (x := ⟨sb, ssz, Ts, upd cs 1 w1⟩) rfl ?_
  refine Fin.same ⟨rfl, J, w1, ?_, hw1.up hs2⟩
  with_reducible simp only [List.eraseIdx_cons_succ, List.eraseIdx_cons_zero]
end Go.Proofs.YgvafwGreat
