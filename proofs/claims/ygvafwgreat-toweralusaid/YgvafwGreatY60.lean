import Derived.Test.YgvafwGreatY59
set_option exponentiation.threshold 1000
set_option maxRecDepth 100000
set_option maxHeartbeats 4000000
set_option linter.unusedVariables false
set_option linter.unusedSimpArgs false
-- v2
-- v4
-- v5
-- v6
-- v7
namespace Go.Proofs.YgvafwGreat
open Go.HL Go.Proofs

theorem be32_last (z : Nat → Value) (n : Nat) : Row (updN z 0 (bvs (be32 n))) 31 (bvs [n % 256]) := by
  refine ⟨fun p hp => ?_⟩
  have hp0 : p = 0 := by simpa [bvs] using hp
  subst hp0
  rw [updN, if_pos ⟨Nat.zero_le _, by rw [bvs_len, be32_len]; decide⟩]
  rw [bvs_get (by rw [be32_len]; decide)]
  rfl
theorem yEff83 {I : Ent → Prop} {G : List Ent} {sb ssz fb fsz mb pc gas : Nat} {Ts Tf Tm : TypeId} {cs cf cm : Nat → Value} {K : YK} {w : YW} {s mem : List Nat} {av : Value} {as' : List Nat} (hsz : 179 ≤ ssz) (hfz : 60 ≤ fsz) (hC : CsI I cs cf K w pc gas s) (hc9 : cf 9 = sl mb 0 mem.length mem.length) (hml : mem.length < 2 ^ 30) (hA : StkI I av as') (hlen : as'.length < 100) (hb : as'.getD 1 0 < 2 ^ 256) :
    CallG Hvaf.prog 163 #[ptr sb 0, ptr fb 0, .int .u8 (83 : Nat), av] ⟨I, ⟨sb, ssz, Ts, cs⟩ :: ⟨fb, fsz, Tf, cf⟩ :: ⟨mb, mem.length, Tm, updN cm 0 (bvs mem)⟩ :: G⟩ fun r S' => r = .bool true ∧ ∃ J, S' = ⟨J, ⟨sb, ssz, Ts, cs⟩ :: ⟨fb, fsz, Tf, cf⟩ :: ⟨mb, mem.length, Tm, updN cm 0 (bvs (writeL mem (as'.getD 0 0) [as'.getD 1 0 % 256]))⟩ :: G⟩ := by
  refine CallG.start (C := mkC Hvaf.prog) cok (args := [ptr sb 0, ptr fb 0, .int .u8 ((83 : Nat) : Int), av]) Hvaf.func163 rfl Hvaf.ntmps163 (by simp) (by kernel_rfl) ?_
  repeat (first | refine SeqS.go cok ?_)
  refine (yOperand (i := 0) hA (by omega) (by decide)).mono ?_
  rintro v _ - ⟨rfl, hv⟩
  repeat (first | refine SeqS.go cok ?_)
  refine (yOperand (i := 1) hA (by omega) (by decide)).mono ?_
  rintro u _ - ⟨rfl, hu⟩
  repeat (first | refine SeqS.go cok ?_)
  refine (yOperand (i := 2) hA (by omega) (by decide)).mono ?_
  rintro x _ - ⟨rfl, hx⟩
  repeat (first | refine SeqS.go cok ?_ | refine CondS.t rfl ?_ | refine CondS.f rfl ?_)
  refine (yWord hu hb).mono ?_
  rintro r _ - ⟨rfl, rfl⟩
  skip
  intro b2
  skip
  refine OpG.keep ?_
  refine OpG.sL cok 0 rfl rfl rfl rfl rfl (by rw [bvs_len]; exact be32_len _) (bvs_all' _) (by decide) ?_
  repeat (first | refine SeqS.go cok ?_ | refine And.intro (Eq.refl true) ?_ | refine And.intro (by dsimp only; omega) ?_ | (refine NatS.keep ?_; first | with_reducible refine NatS.lit ?_))
  refine ValS.to (u := .slice (some ⟨b2, 31, none⟩) 1 1) (by simp [addS_eq, mulS_eq]) ?_
  skip
  refine CallG.frz [_] (⟨sb, ssz, Ts, cs⟩ :: ⟨fb, fsz, Tf, cf⟩ :: ⟨mb, mem.length, Tm, updN cm 0 (bvs mem)⟩ :: G) ?_
  refine CallG.focus 2 rfl ?_
  refine CallG.focus 2 rfl ?_
  refine (yWrite (bs := [as'.getD 1 0 % 256]) hfz hc9 (hv.up sub_frz) (row_byt (x := ⟨b2, 32, 33, updN z_int__u8_0 0 (bvs (be32 (as'.getD 1 0)))⟩) (be32_last _ _) (.inl (.inr List.mem_cons_self)) (by simp; omega) (n := 1) rfl (by decide) (Nat.le_of_ble_eq_true rfl)) (by omega)).mono ?_
  rintro r _ - rfl
  repeat (first | refine SeqS.go cok ?_)
  exact Fin.focus 2 rfl (Fin.same ⟨rfl, _, rfl⟩)
end Go.Proofs.YgvafwGreat
