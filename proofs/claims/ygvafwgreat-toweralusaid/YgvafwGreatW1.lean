import Derived.Test.YgvafwGreatRows
import Derived.WalkKit
import Derived.ProofKit
import Derived.OpenShut
import Derived.ShutString
import Derived.ChangeOld
import Derived.Below
import Derived.SizedLaws
import Derived.WideKeyArr2
import Derived.Test.YgvafwGreatL0
import Derived.Test.YgvafwGreatW6
namespace Go.Proofs.YgvafwGreat.towerAlu
open Go.ChangeShapes Go.WideShapes Go.ChangeAt Go.RowKit
set_option linter.unusedVariables false

theorem own : ownKnob Hvaf.prog.godebug = none := by kernel_rfl
theorem laidOut : laidOutB Hvaf.prog = true := by kernel_rfl
/-- An array of bytes, as a value. -/
def arrV (l : List Nat) : Value := .agg (l.map fun d => .int .u8 (d : Nat)).toArray
/-- The whole law, by the walk of its functions. -/
def Law : Prop := ∀ {I : HL.Ent → Prop} {o : Nat} {a b c : List Nat}, o < 256 → (a.length = 32 ∧ ∀ d ∈ a, d < 256) → (b.length = 32 ∧ ∀ d ∈ b, d < 256) → (c.length = 32 ∧ ∀ d ∈ c, d < 256) → HL.CallG Hvaf.prog 3 #[.int .u8 (o : Nat), arrV a, arrV b, arrV c] ⟨I, []⟩ fun r _ => r = .bool true
theorem key22 : WideMaps.ArrKey Hvaf.prog 22 5 32 := ⟨Hvaf.underlying22, by kernel_rfl, by kernel_rfl, by kernel_rfl⟩
theorem u8_of {n : Int} (h : (Lit.int .u8 n).wf = true) : ∃ m : Nat, n = (m : Int) ∧ m < 256 := by
  simp only [Lit.wf, Bool.and_eq_true, decide_eq_true_eq] at h
  have e1 : IntKind.u8.min = 0 := by decide
  have e2 : IntKind.u8.max = 255 := by decide
  exact ⟨n.toNat, by omega, by omega⟩
section
variable {H : Type} {enc : TypeId × Value → H} {P : Program} {k e : TypeId} {W : World} {base : Nat} {sp : Nat → Bool} {held : Bool}
theorem mapM_bytes (he : P.underlying e = some (.int .u8)) {m : Nat} {cs : List Value} : ∀ (L : List Nat) (xs : List (DataW H × List MemPlace)),
    L.mapM (fun i => DataW.trod enc P W base sp held m e ((cs.drop (i * 1)).take 1)) = some xs → ∀ i ∈ L, ∃ z : Nat, z < 256 ∧ (cs.drop i).take 1 = [.int .u8 (z : Nat)]
  | [], xs, h => by intro i hi; cases hi
  | i :: L, xs, h => by
    rw [List.mapM_cons] at h
    simp only [bind, Option.bind_eq_some_iff, pure, Option.some.injEq] at h
    obtain ⟨y, hy, ys, hys, rfl⟩ := h
    obtain ⟨a, ea, rfl, wa⟩ := DataW.trod_int he hy
    obtain ⟨z, rfl, hz⟩ := u8_of wa
    intro j hj
    rcases List.mem_cons.1 hj with rfl | hj
    · rw [Nat.mul_one] at ea; exact ⟨z, hz, ea⟩
    · exact mapM_bytes he L ys hys j hj
/-- An array of bytes that came in. -/
theorem arr_in (A : WideMaps.ArrKey P k e 32) (he : P.underlying e = some (.int .u8)) {xs : Array Value} (hn : xs.size = 32) {d : DataW H} {ps : List MemPlace} (hd : DataW.Trod enc P W base sp held k (.agg xs) d ps) :
    ∃ l : List Nat, Value.agg xs = arrV l ∧ l.length = 32 ∧ ∀ z ∈ l, z < 256 := by
  obtain ⟨fuel, hf⟩ := hd
  cases fuel with
  | zero => simp [DataW.trod] at hf
  | succ m =>
    rw [DataW.trod_step] at hf
    unfold DataW.trodStep at hf
    simp only [A.hu, Value.cells] at hf
    rw [if_pos (by rw [A.size]; simpa using hn)] at hf
    simp only [Option.map_eq_some_iff, A.one] at hf
    obtain ⟨ys, hy, e1⟩ := hf
    have hb := mapM_bytes he _ ys hy
    refine ⟨(List.range 32).map fun i => match xs.toList.getD i (.bool false) with | .int _ n => n.toNat | _ => 0, ?_, by simp, ?_⟩
    · have hx : xs.toList = ((List.range 32).map fun i => match xs.toList.getD i (.bool false) with | .int _ n => n.toNat | _ => 0).map fun d : Nat => Value.int .u8 (d : Nat) := by
        apply List.ext_getElem?
        intro i
        by_cases hi : i < 32
        · obtain ⟨z, hz, ez⟩ := hb i (List.mem_range.2 hi)
          have hil : i < xs.toList.length := by simpa [hn] using hi
          have e2 : xs.toList[i] = .int .u8 (z : Nat) := by
            have := congrArg (fun l => l[0]?) ez
            simp only [List.getElem?_take, List.getElem?_drop, Nat.add_zero] at this
            rw [List.getElem?_eq_getElem hil] at this
            simpa using this
          rw [List.getElem?_eq_getElem hil, e2, List.getElem?_map, List.getElem?_map, List.getElem?_range hi]
          simp only [Option.map_some, List.getD_eq_getElem?_getD, List.getElem?_eq_getElem hil, e2, Option.getD_some, Int.toNat_natCast]
        · rw [List.getElem?_eq_none (by simpa [hn] using hi), List.getElem?_eq_none (by simpa using hi)]
      unfold arrV
      rw [← hx]
    · intro z hz
      obtain ⟨i, hi, rfl⟩ := List.mem_map.1 hz
      obtain ⟨z, hz2, ez⟩ := hb i hi
      have hi : i < 32 := List.mem_range.1 hi
      have hil : i < xs.toList.length := by simpa [hn] using hi
      have e2 : xs.toList[i] = .int .u8 (z : Nat) := by
        have := congrArg (fun l => l[0]?) ez
        simp only [List.getElem?_take, List.getElem?_drop, Nat.add_zero] at this
        rw [List.getElem?_eq_getElem hil] at this
        simpa using this
      simp only [List.getD_eq_getElem?_getD, List.getElem?_eq_getElem hil, e2, Option.getD_some, Int.toNat_natCast]
      exact hz2
end
theorem walk (hL : Law) {o : Nat} {a b c : List Nat} (w : World) (ho : o < 256) (ha : a.length = 32 ∧ ∀ d ∈ a, d < 256) (hb : b.length = 32 ∧ ∀ d ∈ b, d < 256) (hc : c.length = 32 ∧ ∀ d ∈ c, d < 256) :
    Calls Hvaf.prog 3 #[.int .u8 (o : Nat), arrV a, arrV b, arrV c] w fun e w' => e = .returned (.bool true) ∧ Below w.heap.size w w' := by
  refine (HL.CallG.world (w := w) (hL ho ha hb hc)).mono ?_
  rintro x w' ⟨rfl, ⟨h1, h2, h3⟩, h4, h5⟩
  exact ⟨rfl, h1, h2, h3, h4, h5⟩
def z32v : Value := .agg (Array.replicate 32 (.int .u8 0))
/-! ### THE ROW's STEP -/
set_option maxRecDepth 100000 in
theorem lifted (hL : Law) (os : Os) (started : os.Started) (H : Type) (enc : TypeId × Value → H) :
    ReturnsInHanded {} Hvaf.checked os 3 .any (Rows.towerAluSpec.pre6 enc Hvaf.prog Hvaf.f3 Rows.towerAluRow.domain false) (Rows.towerAluSpec.post enc Hvaf.prog Hvaf.f3 false true false false) := by
  refine returnsInHanded_of_change_sized (C := Hvaf.checked) own started (by kernel_rfl) Hvaf.func3
    (ChangeSpec.witness6 (enc := enc) (C := Hvaf.checked) false ⟨#[], #[.int .u8 0, z32v, z32v, z32v], []⟩ 8 (by kernel_rfl) (by kernel_rfl) (by kernel_rfl) (by kernel_rfl)) ?_
  intro W base args ds gs before hval0 hW hcnd hszd _
  have hval : ∀ (j : Nat) t v, Hvaf.f3.params[j]? = some t → args[j]? = some v → Value.okWide Hvaf.prog W .any base t v := hval0
  have hW' := hW
  obtain ⟨p, q, hA0, hV, rfl, hfz, hnd⟩ := hW
  have hA : DataW.TrodAll enc Hvaf.prog W 0 (fun _ => true) true Hvaf.f3.params.toList args.toList ds p := hA0
  rw [Hvaf.params3] at hA hval
  obtain ⟨v0, vs0, d0, ds0, p0, q0, hargs, rfl, rfl, h0, r0⟩ := trodAll_cons hA
  obtain ⟨v1, vs1, d1, ds1, p1, q1, rfl, rfl, rfl, h1, r1⟩ := trodAll_cons r0
  obtain ⟨v2, vs2, d2, ds2, p2, q2, rfl, rfl, rfl, h2, r2⟩ := trodAll_cons r1
  obtain ⟨v3, vs3, d3, ds3, p3, q3, rfl, rfl, rfl, h3, r3⟩ := trodAll_cons r2
  obtain ⟨rfl, rfl, rfl⟩ := trodAll_nil r3
  obtain rfl : args = #[v0, v1, v2, v3] := by cases args; simp_all
  obtain ⟨rfl, rfl⟩ := trodVars_none hV
  obtain ⟨a0, rfl, rfl, rfl, w0⟩ := open_int Hvaf.underlying5 (hval 0 5 v0 rfl rfl) h0
  obtain ⟨o, rfl, ho⟩ := u8_of w0
  obtain ⟨x1, rfl, n1⟩ := WideMaps.okWide_arr key22 (hval 1 22 v1 rfl rfl)
  obtain ⟨x2, rfl, n2⟩ := WideMaps.okWide_arr key22 (hval 2 22 v2 rfl rfl)
  obtain ⟨x3, rfl, n3⟩ := WideMaps.okWide_arr key22 (hval 3 22 v3 rfl rfl)
  have k1 := h1
  have lt1 : ∀ x ∈ p1, x.block < W.heap.size := by obtain ⟨m, hm⟩ := k1; exact DataW.trod_lt m _ _ _ hm
  have k2 := h2
  have lt2 : ∀ x ∈ p2, x.block < W.heap.size := by obtain ⟨m, hm⟩ := k2; exact DataW.trod_lt m _ _ _ hm
  have k3 := h3
  have lt3 : ∀ x ∈ p3, x.block < W.heap.size := by obtain ⟨m, hm⟩ := k3; exact DataW.trod_lt m _ _ _ hm
  obtain ⟨l1, e1, l1l, l1b⟩ := arr_in key22 Hvaf.underlying5 n1 h1
  obtain ⟨l2, e2, l2l, l2b⟩ := arr_in key22 Hvaf.underlying5 n2 h2
  obtain ⟨l3, e3, l3l, l3b⟩ := arr_in key22 Hvaf.underlying5 n3 h3
  clear hA0 hval0
  have hwk := walk hL W ho ⟨l1l, l1b⟩ ⟨l2l, l2b⟩ ⟨l3l, l3b⟩
  rw [← e1, ← e2, ← e3] at hwk
  refine hwk.mono fun e W' ⟨he, bel⟩ => ?_
  subst he
  exact ⟨_, rfl, _, _, _, [], _, [], hW', trodAll_mk1 (shut_bool Hvaf.underlying4 _), (trodAll_cons_mk (shut_int Hvaf.underlying5 w0) (trodAll_cons_mk (Below.trod laidOut (by kernel_rfl) (of_decide_eq_true (by kernel_rfl)) k1 bel lt1) (trodAll_cons_mk (Below.trod laidOut (by kernel_rfl) (of_decide_eq_true (by kernel_rfl)) k2 bel lt2) (trodAll_cons_mk (Below.trod laidOut (by kernel_rfl) (of_decide_eq_true (by kernel_rfl)) k3 bel lt3) trodAll_mk0)))), rfl, bel.frame _, fun h => by cases h⟩

theorem over (hL : Law) : Rows.towerAluRow.holds Hvaf.pinned (OpenSpec.ofChange Rows.towerAluSpec) :=
  OpenClaim.holds_of_wide 3 Hvaf.f3 rfl rfl rfl rfl rfl rfl rfl ⟨rfl, rfl, rfl, rfl, rfl⟩ rfl rfl rfl rfl rfl (by kernel_rfl) Hvaf.func3 closed
    (of_decide_eq_true (by kernel_rfl)) (by unfold Func.isWrapper; first | (rw [if_neg (by decide +kernel)]; exact ⟨rfl, rfl⟩))
    (fun os started H enc _ => lifted hL os started H enc)

end Go.Proofs.YgvafwGreat.towerAlu
