import Derived.Test.YgvafwGreatE69
import Derived.Test.YgvafwGreatV29
import Derived.Test.YgvafwGreatL8
import Derived.Test.YgvafwGreatR3
import Derived.Test.YgvafwGreatE64
import Derived.Test.YgvafwGreatY88u
set_option exponentiation.threshold 1000
set_option maxRecDepth 100000
set_option maxHeartbeats 40000000
set_option linter.unusedVariables false
set_option linter.unusedSimpArgs false
-- v2
-- v4
-- v5
-- v6
-- v7
namespace Go.Proofs.YgvafwGreat
open Go.HL Go.Proofs

theorem fz0 : FZ z105 := ⟨rfl, rfl, rfl, rfl, rfl, rfl, rfl, rfl, rfl⟩
theorem mn_up {cb : Nat} {c1 cm : Nat → Value} (h : MN cb cm) : MN cb (HL.updN c1 0 (cellsFrom cm 0 2435)) := by
  have e : ∀ k, k < 2435 → HL.updN c1 0 (cellsFrom cm 0 2435) k = cm k := fun k hk => by
    simp only [HL.updN, cellsFrom_length]
    rw [if_pos (by omega), Nat.sub_zero, cells_getD hk]
  exact ⟨(e _ (by decide)).trans h.mS, (e _ (by decide)).trans h.a1, (e _ (by decide)).trans h.a2, (e _ (by decide)).trans h.a10, (e _ (by decide)).trans h.top, Row.congr h.env fun k h1 h2 => e k (by have : k < 2260 + 120 := h2; omega), (e _ (by decide)).trans h.ph, (e _ (by decide)).trans h.ap, fun k hk => by rw [e k hk]; exact h.on k hk⟩
/-- engine.New -/
theorem eNew {I : Ent → Prop} {cc : Nat} {w : Value} {ca : Option Addr} {code : List Nat} (hR : RowI I 55 w [el1 (.slice ca code.length cc), el2]) (hb : Byt ⟨I, []⟩ (.slice ca code.length cc) code) (hcl : code.length ≤ 256) :
    CallG Hvaf.prog 21 #[w, envV] ⟨I, []⟩ fun r S' => ∃ J cb sz c G V, r = .tuple #[ptr cb 0, .bool true] ∧ S' = ⟨J, ⟨cb, sz, 105, c⟩ :: G⟩ ∧ 27024 ≤ sz ∧ VI J c V G ∧ FP code 2 V ∧ MN cb c ∧ c 27023 = .bool false := by
  have hf := fun (cb sz : Nat) (hsz : 27019 ≤ sz) => vFill (n := 0) (cb := cb) (T := 105) hsz fz0 hR hb hcl
  obtain ⟨wa, wc, rfl⟩ := hR.form
  refine CallG.start (C := mkC Hvaf.prog) cok (args := [.slice wa [el1 (.slice ca code.length cc), el2].length wc, envV]) Hvaf.func21 rfl Hvaf.ntmps21 (by simp) (by kernel_rfl) ?_
  intro b3
  repeat (first | refine SeqS.go cok ?_ | (refine QuG.keep ?_; first | refine QuG.lN cok 0 rfl rfl rfl rfl rfl (by first | exact Nat.le_of_ble_eq_true rfl | omega | (dsimp only; omega) | (simp only [addS_eq, mulS_eq]; omega)) ?_))
  refine lEnvOK.mono ?_
  rintro r _ - ⟨rfl, rfl⟩
  repeat (first | refine SeqS.go cok ?_ | refine CondS.f rfl ?_)
  intro cb
  repeat (first | refine SeqS.go cok ?_)
  refine CallG.focus 1 rfl ?_
  refine CallG.behind [_] (hf cb _ (Nat.le_of_ble_eq_true rfl)) ?_
  rintro r J1 _ hs1 ⟨rfl, J1', c1, G', V, e1, hV, hF, hk⟩
  cases e1
  repeat (first | refine SeqS.go cok ?_ | refine CondS.f rfl ?_ | (refine QuG.keep ?_; first | refine QuG.lN cok 0 rfl rfl rfl rfl rfl (by first | exact Nat.le_of_ble_eq_true rfl | omega | (dsimp only; omega) | (simp only [addS_eq, mulS_eq]; omega)) ?_) | refine W.drawI 6 cok [0, 0, 2, 6, 0, 30, 62, 126, 255, 511, 1023] [0, 1, 2, 3, 4, 5, 6, 7, 8, 9, 10] [4, 7] (by kernel_rfl) (by kernel_rfl) ?_)
  refine (mNew (cb := cb)).mono ?_
  rintro r _ - ⟨mb, msz, cm, rfl, rfl, hmsz, hMN⟩
  have hone := cells_one' hMN.on
  repeat (first | (refine OpG.keep ?_; refine OpG.upS cok 2 (vs := cellsFrom cm 0 2435) rfl rfl rfl rfl rfl (cellsFrom_length _ _ _) hone (Nat.le_of_ble_eq_true rfl) ?_) | refine SeqS.go cok ?_ | (refine QuG.keep ?_; first | refine QuG.lN cok 0 rfl rfl rfl rfl rfl (by first | exact Nat.le_of_ble_eq_true rfl | omega | (dsimp only; omega) | (simp only [addS_eq, mulS_eq]; omega)) ?_) | (refine still_in ?_; first | refine still_drop (by decide) ?_))
  refine Fin.drop (⟨cb, _, 105, HL.updN c1 0 (cellsFrom cm 0 2435)⟩ :: G') [_, _] ?_
  exact ⟨_, cb, _, _, G', V, rfl, rfl, Nat.le_of_ble_eq_true rfl, VI.congr hV fun k h1 h2 => updN_o (.inr (by rw [cellsFrom_length]; omega)), hF, mn_up hMN, (updN_o (.inr (by rw [cellsFrom_length]; decide))).trans (hk _ (.inr (by decide)))⟩
end Go.Proofs.YgvafwGreat
