import Derived.Test.YgvaewGreatRows
import Derived.WalkKit
import Derived.ProofKit
import Derived.OpenShut
import Derived.ShutString
import Derived.ChangeOld
import Derived.Below
import Derived.SizedLaws
import Derived.Test.YgvaewGreatL0
import Derived.Test.YgvaewGreatW6
namespace Go.Proofs.YgvaewGreat.towerNoCall
open Go.ChangeShapes Go.WideShapes Go.ChangeAt Go.RowKit
open Go.ChangeMaps (open_string shut_string)
set_option linter.unusedVariables false

theorem own : ownKnob Hvae.prog.godebug = none := by kernel_rfl
theorem laidOut : laidOutB Hvae.prog = true := by kernel_rfl

/-- WHAT THE WALK IS TOLD OF A SLICE OF INTEGERS THAT CAME IN: it is nil; or it leads to a row of 'cap' cells, the numbers 'zs' (the first 'len' are its elements, the rest its spare room), each fitting its kind. -/
def IsRow (k : IntKind) (w : World) (a : Option Addr) (len cap : Nat) (zs : List Int) : Prop :=
  (a = none ∧ len = 0 ∧ cap = 0 ∧ zs = []) ∨
  ∃ x, a = some x ∧ len ≤ cap ∧ cap ≤ maxLen ∧ zs.length = cap ∧ (∀ i, i < zs.length → w.cell? (x.add i) = some (.int k (zs.getD i 0))) ∧ ∀ n ∈ zs, (Lit.int k n).wf = true

/-- The whole law, by the walk of its functions. -/
def Law : Prop := ∀ {I : HL.Ent → Prop} {cv dv : Value} {cd ds : List Nat} {gas : Nat}, HL.BytE ⟨I, []⟩ cv cd → HL.BytE ⟨I, []⟩ dv ds → gas < 2 ^ 64 → HL.CallG Hvae.prog 3 #[cv, dv, .int .u64 (gas : Nat)] ⟨I, []⟩ fun r _ => r = .bool true
theorem row_in {w : World} {a : Option Addr} {len cap : Nat} {zs : List Int} (h : IsRow .u8 w a len cap zs) (hc : cap < 2 ^ 47) : HL.BytE ⟨HL.All w, []⟩ (.slice a len cap) ((zs.take len).map Int.toNat) := by
  refine HL.BytE.in_ (w := w) (fun b arr T fz h => ⟨arr, T, fz, h, rfl⟩) ?_ hc
  rcases h with h | ⟨x, h1, h2, h3, h4, h5, h6⟩
  · exact .inl h
  · refine .inr ⟨x, h1, h2, h4, h5, fun n hn => ?_⟩
    have := h6 n hn
    simp only [Lit.wf, Bool.and_eq_true, decide_eq_true_eq] at this
    have e1 : IntKind.u8.min = 0 := by decide
    have e2 : IntKind.u8.max = 255 := by decide
    omega
theorem small {H : Type} {ts : List TypeId} {ds : List (DataW H)} (h : (DataW.weightsEach Hvae.prog ts ds).all (· ≤ reachBytes) = true) {j n cap : Nat} {zs : List Int} (ht : ts[j]? = some 22) (hd : ds[j]? = some (.slice (lits .u8 (zs.take n)) (lits .u8 (zs.drop n)))) (hz : zs.length = if true = true then cap else n) : cap < 2 ^ 47 := by
  have hq := sized_slice h ht hd Hvae.underlying22
  have hb1 : Hvae.prog.bytesOf 5 = 1 := by kernel_rfl
  rw [hb1, Nat.mul_one] at hq
  have e1 : (lits (H := H) .u8 (zs.take n)).length + (lits (H := H) .u8 (zs.drop n)).length = zs.length := by simp [lits]; omega
  rw [e1, hz, if_pos rfl] at hq
  unfold reachBytes at hq
  omega
theorem walk (hL : Law) (a0 : Option Addr) (len0 cap0 : Nat) (z0 : List Int) (a1 : Option Addr) (len1 cap1 : Nat) (z1 : List Int) (a2 : Int) (w : World) (w0 : IsRow .u8 w a0 len0 cap0 z0) (w1 : IsRow .u8 w a1 len1 cap1 z1) (w2 : (Lit.int .u64 a2).wf = true) (s0 : cap0 < 2 ^ 47) (s1 : cap1 < 2 ^ 47) :
    Calls Hvae.prog 3 #[.slice a0 len0 cap0, .slice a1 len1 cap1, .int .u64 a2] w fun e w' => e = .returned (.bool true) ∧ Below w.heap.size w w' := by
  simp only [Lit.wf, Bool.and_eq_true, decide_eq_true_eq] at w2
  have e1 : IntKind.u64.min = 0 := by decide
  have e2 : IntKind.u64.max = 18446744073709551615 := by decide
  obtain ⟨n, rfl⟩ : ∃ n : Nat, a2 = (n : Int) := ⟨a2.toNat, by omega⟩
  refine (HL.CallG.world (hL (row_in w0 s0) (row_in w1 s1) (gas := n) (by omega))).mono ?_
  rintro x w' ⟨rfl, ⟨h1, h2, h3⟩, h4, h5⟩
  exact ⟨rfl, h1, h2, h3, h4, h5⟩

/-! ### THE ROW's STEP: WRITTEN OUT: LEAVE IT -/
set_option maxRecDepth 100000 in
theorem lifted (hL : Law) (os : Os) (started : os.Started) (H : Type) (enc : TypeId × Value → H) :
    ReturnsInHanded {} Hvae.checked os 3 .any (Rows.towerNoCallSpec.pre6 enc Hvae.prog Hvae.f3 Rows.towerNoCallRow.domain false) (Rows.towerNoCallSpec.post enc Hvae.prog Hvae.f3 false true false false) := by
  refine returnsInHanded_of_change_sized (C := Hvae.checked) own started (by kernel_rfl) Hvae.func3
    (ChangeSpec.witness6 (enc := enc) (C := Hvae.checked) false ⟨#[], #[.slice none 0 0, .slice none 0 0, .int .u64 0], []⟩ 8 (by kernel_rfl) (by kernel_rfl) (by kernel_rfl) (by kernel_rfl)) ?_
  intro W base args ds gs before hval0 hW hcnd hszd _
  have hval : ∀ (j : Nat) t v, Hvae.f3.params[j]? = some t → args[j]? = some v → Value.okWide Hvae.prog W .any base t v := hval0
  have hW' := hW
  obtain ⟨p, q, hA0, hV, rfl, hfz, hnd⟩ := hW
  have hA : DataW.TrodAll enc Hvae.prog W 0 (fun _ => true) true Hvae.f3.params.toList args.toList ds p := hA0
  rw [Hvae.params3] at hA hval
  obtain ⟨v0, vs0, d0, ds0, p0, q0, hargs, rfl, rfl, h0, r0⟩ := trodAll_cons hA
  obtain ⟨v1, vs1, d1, ds1, p1, q1, rfl, rfl, rfl, h1, r1⟩ := trodAll_cons r0
  obtain ⟨v2, vs2, d2, ds2, p2, q2, rfl, rfl, rfl, h2, r2⟩ := trodAll_cons r1
  obtain ⟨rfl, rfl, rfl⟩ := trodAll_nil r2
  obtain rfl : args = #[v0, v1, v2] := by cases args; simp_all
  obtain ⟨rfl, rfl⟩ := trodVars_none hV
  obtain ⟨a0, len0, cap0, rfl⟩ := okWide_slice Hvae.underlying22 (hval 0 22 v0 rfl rfl)
  have k0 := h0
  have lt0 : ∀ x ∈ p0, x.block < W.heap.size := by obtain ⟨m, hm⟩ := k0; exact DataW.trod_lt m _ _ _ hm
  obtain ⟨z0, w0, s0⟩ : ∃ zs, IsRow .u8 W a0 len0 cap0 zs ∧ cap0 < 2 ^ 47 := by
    obtain ⟨fuel, hf⟩ := h0
    rcases open_ints Hvae.underlying22 Hvae.underlying5 (by kernel_rfl) hf with ⟨hcs, _⟩ | ⟨x, l, c, zs, hcs, _, hl, hm, hz, hx, hcell, hwz⟩
    · simp [Value.cells] at hcs
      obtain ⟨rfl, rfl, rfl⟩ := hcs
      exact ⟨[], .inl ⟨rfl, rfl, rfl, rfl⟩, by decide⟩
    · simp [Value.cells] at hcs
      obtain ⟨rfl, rfl, rfl⟩ := hcs
      exact ⟨zs, .inr ⟨_, rfl, hl, hm, by simpa using hz, hcell, hwz⟩, small hszd (j := 0) rfl (congrArg some (Prod.mk.inj hx).1) hz⟩
  obtain ⟨a1, len1, cap1, rfl⟩ := okWide_slice Hvae.underlying22 (hval 1 22 v1 rfl rfl)
  have k1 := h1
  have lt1 : ∀ x ∈ p1, x.block < W.heap.size := by obtain ⟨m, hm⟩ := k1; exact DataW.trod_lt m _ _ _ hm
  obtain ⟨z1, w1, s1⟩ : ∃ zs, IsRow .u8 W a1 len1 cap1 zs ∧ cap1 < 2 ^ 47 := by
    obtain ⟨fuel, hf⟩ := h1
    rcases open_ints Hvae.underlying22 Hvae.underlying5 (by kernel_rfl) hf with ⟨hcs, _⟩ | ⟨x, l, c, zs, hcs, _, hl, hm, hz, hx, hcell, hwz⟩
    · simp [Value.cells] at hcs
      obtain ⟨rfl, rfl, rfl⟩ := hcs
      exact ⟨[], .inl ⟨rfl, rfl, rfl, rfl⟩, by decide⟩
    · simp [Value.cells] at hcs
      obtain ⟨rfl, rfl, rfl⟩ := hcs
      exact ⟨zs, .inr ⟨_, rfl, hl, hm, by simpa using hz, hcell, hwz⟩, small hszd (j := 1) rfl (congrArg some (Prod.mk.inj hx).1) hz⟩
  obtain ⟨a2, rfl, rfl, rfl, w2⟩ := open_int Hvae.underlying23 (hval 2 23 v2 rfl rfl) h2
  clear hA0 hval0
  refine (walk hL a0 len0 cap0 z0 a1 len1 cap1 z1 a2 W w0 w1 w2 s0 s1).mono fun e W' ⟨he, bel⟩ => ?_
  subst he
  exact ⟨_, rfl, _, _, _, [], _, [], hW', trodAll_mk1 (shut_bool Hvae.underlying4 _), (trodAll_cons_mk (Below.trod laidOut (by kernel_rfl) (of_decide_eq_true (by kernel_rfl)) k0 bel lt0) (trodAll_cons_mk (Below.trod laidOut (by kernel_rfl) (of_decide_eq_true (by kernel_rfl)) k1 bel lt1) (trodAll_cons_mk (shut_int Hvae.underlying23 w2) trodAll_mk0))), rfl, bel.frame _, fun h => by cases h⟩

theorem over (hL : Law) : Rows.towerNoCallRow.holds Hvae.pinned (OpenSpec.ofChange Rows.towerNoCallSpec) :=
  OpenClaim.holds_of_wide 3 Hvae.f3 rfl rfl rfl rfl rfl rfl rfl ⟨rfl, rfl, rfl, rfl, rfl⟩ rfl rfl rfl rfl rfl (by kernel_rfl) Hvae.func3 closed
    (of_decide_eq_true (by kernel_rfl)) (by unfold Func.isWrapper; first | (rw [if_neg (by decide +kernel)]; exact ⟨rfl, rfl⟩))
    (fun os started H enc _ => lifted hL os started H enc)

end Go.Proofs.YgvaewGreat.towerNoCall
