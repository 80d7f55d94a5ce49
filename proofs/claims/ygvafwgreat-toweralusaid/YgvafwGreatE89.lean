import Derived.Test.YgvafwGreatE88
import Derived.Test.YgvafwGreatE46
import Derived.Test.YgvafwGreatE43b
import Derived.Test.YgvafwGreatE66
set_option exponentiation.threshold 1000
set_option maxRecDepth 100000
set_option maxHeartbeats 4000000
set_option linter.unusedVariables false
set_option linter.unusedSimpArgs false
-- v2
-- v4
-- v5
-- v6
-- v7
namespace Go.Proofs.YgvafwGreat
open Go.HL Go.Proofs

section
variable {I : Ent → Prop} {G : List Ent} {cb sz g1 n : Nat} {T : TypeId} {c : Nat → Value}
theorem _root_.Go.HL.CallG.idC2 {P : Program} {f : FuncId} {args : Array Value} {I : Ent → Prop} {y : Ent} {b s : Nat} {T : TypeId} {c0 c : Nat → Value} {G : List Ent} {K : Post} (h0 : c0 = c) (h : CallG P f args ⟨I, y :: ⟨b, s, T, c⟩ :: G⟩ K) : CallG P f args ⟨I, y :: ⟨b, s, T, c0⟩ :: G⟩ K := by rw [h0]; exact h
/-- The machine behind a child's end, ahead of the caller's part. -/
def chE (c : Nat → Value) (gas : Nat) : Nat → Value := upd (upd (upd (upd c 10 (.int .u8 ((1 : Nat) : Int))) 2259 (.slice none 0 0)) 2258 (.int .i8 0)) 1810 (.int .u64 (gas : Nat))
/-- mach.Machine.end, a child's success -/
theorem cEnd {g0 pc : Nat} (hsz : 2435 ≤ sz) (h : Ch1 I cb c g1 n) (h10 : c 10 = .int .u8 ((2 : Nat) : Int)) (hg0 : c 1810 = .int .u64 (g0 : Nat)) (hb0 : g0 < 2 ^ 40) (hol : c 1867 = .int .u32 ((0 : Nat) : Int)) (hsb : c 1808 = .int .u16 ((0 : Nat) : Int)) (hM : MV (chE c (g0 + g1)) pc (g0 + g1) []) (hpb : pc + 1 < 60000) :
    CallG Hvaf.prog 196 #[ptr cb 0, .int .u8 ((0 : Nat) : Int), .slice none 0 0] ⟨I, ⟨cb, sz, T, c⟩ :: G⟩ (SetP I G cb sz T (chE c (g0 + g1)) (pc + 1) (g0 + g1) [bev crAd]) := by
  have hrn := mRunning1 (I := I) (G := G) (cb := cb) (T := T) hsz h.ph h.s0 h.top
  have hk := h.fk
  have hgs := h.fgas
  have hgb := h.gb
  have htop := h.top
  have hs0 := h.s0
  have hdp := fun S => cDeposit (S := S) hgb
  have hlv := mLeave2 (I := I) (G := G) (cb := cb) (T := T) hsz h10
  have haw := fun S => mAddrWord (S := S) crAd_ok
  have hse := mSettleG (I := I) (G := G) (cb := cb) (T := T) (t := 0) (step := 1) (w := bev crAd) hsz ((updNe (by decide)).trans ((updNe (by decide)).trans ((updNe (by decide)).trans ((updNe (by decide)).trans hsb)))) hM (Nat.zero_le _) hpb (by decide) (by decide)
  unfold SetP at hse ⊢
  have hrow : Row (chE c (g0 + g1)) 1877 (bvs crAd) := Row.congr h.fself fun k h1 h2 => by
    have h2 : k < 1877 + 20 := h2
    exact (updNe (by omega)).trans ((updNe (by omega)).trans ((updNe (by omega)).trans (updNe (by omega))))
  have hfit : 1877 + 20 ≤ sz := by omega
  have hol' : chE c (g0 + g1) 1867 = .int .u32 ((0 : Nat) : Int) := (updNe (by decide)).trans ((updNe (by decide)).trans ((updNe (by decide)).trans ((updNe (by decide)).trans hol)))
  refine CallG.start (C := mkC Hvaf.prog) cok (args := [ptr cb 0, .int .u8 ((0 : Nat) : Int), .slice none 0 0]) Hvaf.func196 rfl Hvaf.ntmps196 (by simp) (by kernel_rfl) ?_
  skip
  refine CallG.sameL [] hrn ?_
  repeat (first | (refine QuG.keep ?_; first | refine QuG.l1E cok 0 rfl rfl rfl rfl rfl (by first | exact Nat.le_of_ble_eq_true rfl | omega | (dsimp only; omega) | (simp only [addS_eq, mulS_eq]; omega)) (by assumption) ?_) | refine SeqS.go cok ?_ | refine CondS.f rfl ?_)
  refine mCreates5.mono ?_
  rintro r _ - ⟨rfl, rfl⟩
  repeat (first | refine SeqS.go cok ?_ | refine GuardS.yes rfl ?_ | refine CondS.t rfl ?_)
  refine (hdp _).mono ?_
  rintro r _ - ⟨rfl, rfl⟩
  repeat (first | refine SeqS.go cok ?_ | refine GuardS.yes rfl ?_ | refine GuardS.no rfl ?_ | refine CondS.t rfl ?_ | refine CondS.f rfl ?_ | refine W.drawI 8 cok [0, 1, 3, 7, 15, 31, 63, 127, 15, 271, 783, 1807, 15, 8191, 16383, 32767] [0, 1, 2, 3, 4, 5, 6, 7, 8, 9, 10, 11, 12, 13, 14, 15] [7, 11] (by kernel_rfl) (by kernel_rfl) ?_ | refine W.drawI 14 cok [0, 1, 3, 7, 15, 31, 63, 7, 135, 391, 903, 2047, 4095, 8191, 16383, 32767, 65535, 131071, 262143, 524287, 1048575] [0, 1, 2, 3, 4, 5, 6, 7, 8, 9, 10, 11, 12, 13, 14, 15, 16, 17, 18, 19, 20] [6, 10] (by kernel_rfl) (by kernel_rfl) ?_)
  refine CallG.behind [] hlv ?_
  rintro r J1 _ hs1 ⟨e1, rfl⟩
  cases e1
  repeat (first | (refine SeqS.slots cok [(0, ptr cb 0), (1, .int .u8 0), (2, .slice none 0 0), (6, ptr cb 1868), (7, .int .u64 ((g1 - 0 : Nat) : Int)), (8, .bool true), (80, .bool false)] ⟨rfl, rfl, rfl, rfl, rfl, rfl, rfl, trivial⟩ fun e => ?_) | (refine QuG.keep ?_; first | refine QuG.l1E cok 0 rfl rfl rfl rfl rfl (by first | exact Nat.le_of_ble_eq_true rfl | omega | (dsimp only; omega) | (simp only [addS_eq, mulS_eq]; omega)) (by assumption) ?_) | refine GuardS.yes rfl ?_ | refine CondS.f rfl ?_ | (refine OpG.keep ?_; first | refine OpG.s1 cok 0 rfl rfl rfl rfl rfl (by first | exact Nat.le_of_ble_eq_true rfl | omega | (dsimp only; omega) | (simp only [addS_eq, mulS_eq]; omega)) rfl rfl ?_))
  refine ValS.to (u := .int .i8 0) (congrArg (Value.int .i8) (by decide)) ?_
  repeat (first | (refine SeqS.slots cok [(0, ptr cb 0), (1, .int .u8 0), (2, .slice none 0 0), (6, ptr cb 1868), (7, .int .u64 ((g1 - 0 : Nat) : Int)), (8, .bool true), (9, ptr cb 1803)] ⟨rfl, rfl, rfl, rfl, rfl, rfl, rfl, trivial⟩ fun e => ?_) | (refine SeqS.slots cok [(0, ptr cb 0), (1, .int .u8 0), (2, .slice none 0 0), (6, ptr cb 1868), (7, .int .u64 ((g1 - 0 : Nat) : Int)), (8, .bool true), (98, .bool false)] ⟨rfl, rfl, rfl, rfl, rfl, rfl, rfl, trivial⟩ fun e => ?_) | (refine SeqS.slots cok [(0, ptr cb 0), (1, .int .u8 0), (2, .slice none 0 0), (6, ptr cb 1868), (7, .int .u64 ((g1 - 0 : Nat) : Int)), (8, .bool true)] ⟨rfl, rfl, rfl, rfl, rfl, rfl, trivial⟩ fun e => ?_) | (refine QuG.keep ?_; first | refine QuG.l1E cok 0 rfl rfl rfl rfl rfl (by first | exact Nat.le_of_ble_eq_true rfl | omega | (dsimp only; omega) | (simp only [addS_eq, mulS_eq]; omega)) (by assumption) ?_) | refine CondS.f rfl ?_ | refine And.intro (fillOk_of (Eq.refl true)) ?_ | refine And.intro (by dsimp only; omega) ?_ | (refine NatS.keep ?_; first | with_reducible refine NatS.lit ?_) | (refine ValS.keep ?_; first | (with_reducible refine ValS.kU64 ?_; first | (with_reducible refine ValS.addU64 ?_ ?_ ; omega))) | (refine QuG.keep ?_; first | refine QuG.l1 cok 0 rfl rfl rfl rfl rfl (by first | exact Nat.le_of_ble_eq_true rfl | omega | (dsimp only; omega) | (simp only [addS_eq, mulS_eq]; omega)) ?_) | (refine OpG.keep ?_; first | refine OpG.s1 cok 0 rfl rfl rfl rfl rfl (by first | exact Nat.le_of_ble_eq_true rfl | omega | (dsimp only; omega) | (simp only [addS_eq, mulS_eq]; omega)) rfl rfl ?_) | refine W.drawI 22 cok [0, 0, 2, 6, 14, 1, 33, 127, 255] [0, 1, 2, 3, 4, 5, 6, 7, 8] [4] (by kernel_rfl) (by kernel_rfl) ?_)
  intro x1
  repeat (first | (refine SeqS.slots cok [(0, ptr cb 0), (1, .int .u8 0), (2, .slice none 0 0), (6, ptr cb 1868), (8, .bool true), (9, ptr cb 1803), (10, ptr x1 0), (132, .bool true)] ⟨rfl, rfl, rfl, rfl, rfl, rfl, rfl, rfl, trivial⟩ fun e => ?_) | (refine SeqS.slots cok [(0, ptr cb 0), (1, .int .u8 0), (2, .slice none 0 0), (6, ptr cb 1868), (8, .bool true), (9, ptr cb 1803), (10, ptr x1 0), (130, .bool true)] ⟨rfl, rfl, rfl, rfl, rfl, rfl, rfl, rfl, trivial⟩ fun e => ?_) | (refine SeqS.slots cok [(0, ptr cb 0), (1, .int .u8 0), (2, .slice none 0 0), (6, ptr cb 1868), (8, .bool true), (9, ptr cb 1803), (10, ptr x1 0)] ⟨rfl, rfl, rfl, rfl, rfl, rfl, rfl, trivial⟩ fun e => ?_) | (refine QuG.keep ?_; refine QuG.rowE cok hrow (.inr (List.mem_cons_of_mem _ List.mem_cons_self)) rfl rfl rfl rfl rfl rfl hfit ?_) | refine CondS.t rfl ?_ | refine And.intro (by dsimp only; omega) ?_ | (refine NatS.keep ?_; first | with_reducible refine NatS.lit ?_) | (refine OpG.keep ?_; first | refine OpG.s1 cok 0 rfl rfl rfl rfl rfl (by first | exact Nat.le_of_ble_eq_true rfl | omega | (dsimp only; omega) | (simp only [addS_eq, mulS_eq]; omega)) rfl rfl ?_ | refine OpG.sL cok 0 rfl rfl rfl rfl rfl rfl rfl (by first | exact Nat.le_of_ble_eq_true rfl | omega | (dsimp only; omega) | (simp only [addS_eq, mulS_eq]; omega)) ?_))
  refine CallG.idC2 (c := chE c (g0 + g1)) rfl ?_
  refine (haw _).mono ?_
  rintro r _ - ⟨rfl, rfl⟩
  repeat (first | (refine SeqS.slots cok [(0, ptr cb 0), (2, .slice none 0 0), (9, ptr cb 1803), (10, ptr x1 0), (11, .int .u32 ((0 : Nat) : Int)), (165, .bool false)] ⟨rfl, rfl, rfl, rfl, rfl, rfl, trivial⟩ fun e => ?_) | (refine SeqS.slots cok [(0, ptr cb 0), (2, .slice none 0 0), (9, ptr cb 1803), (10, ptr x1 0), (11, .int .u32 ((0 : Nat) : Int)), (147, .bool false)] ⟨rfl, rfl, rfl, rfl, rfl, rfl, trivial⟩ fun e => ?_) | (refine SeqS.slots cok [(0, ptr cb 0), (2, .slice none 0 0), (9, ptr cb 1803), (10, ptr x1 0), (11, .int .u32 ((0 : Nat) : Int))] ⟨rfl, rfl, rfl, rfl, rfl, trivial⟩ fun e => ?_) | (refine SeqS.slots cok [(0, ptr cb 0), (2, .slice none 0 0), (9, ptr cb 1803), (10, ptr x1 0)] ⟨rfl, rfl, rfl, rfl, trivial⟩ fun e => ?_) | (refine QuG.keep ?_; first | refine QuG.l1E cok 1 rfl rfl rfl rfl rfl (by first | exact Nat.le_of_ble_eq_true rfl | omega | (dsimp only; omega) | (simp only [addS_eq, mulS_eq]; omega)) (by assumption) ?_) | refine GuardS.no rfl ?_ | refine CondS.f rfl ?_ | (refine ValS.keep ?_; first | (with_reducible refine ValS.kU64 ?_; first | (with_reducible refine ValS.convU64 ?_ ?_ ; omega))) | (refine QuG.keep ?_; first | refine QuG.lN cok 0 rfl rfl rfl rfl rfl (by first | exact Nat.le_of_ble_eq_true rfl | omega | (dsimp only; omega) | (simp only [addS_eq, mulS_eq]; omega)) ?_) | (refine OpG.keep ?_; first | refine OpG.sL cok 0 rfl rfl rfl rfl rfl rfl rfl (by first | exact Nat.le_of_ble_eq_true rfl | omega | (dsimp only; omega) | (simp only [addS_eq, mulS_eq]; omega)) ?_) | refine W.drawI 32 cok [0, 1, 3, 7, 15, 31, 7, 71, 199, 455, 7, 7, 4095, 8191, 16383] [0, 1, 2, 3, 4, 5, 6, 7, 8, 9, 10, 11, 12, 13, 14] [9] (by kernel_rfl) (by kernel_rfl) ?_)
  refine CallG.behind [_] hse ?_
  rintro r J2 _ hs2 ⟨c', e2, q1, q2⟩
  cases e2
  skip
  exact Fin.drop (⟨cb, sz, T, c'⟩ :: G) [_] ⟨c', rfl, q1, q2⟩
end
end Go.Proofs.YgvafwGreat
