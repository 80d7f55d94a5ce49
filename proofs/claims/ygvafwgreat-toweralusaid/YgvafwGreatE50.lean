import Derived.Test.YgvafwGreatE49
import Derived.Test.YgvafwGreatE35
import Derived.Test.YgvafwGreatR2
import Derived.Test.YgvafwGreatS1
set_option exponentiation.threshold 1000
set_option maxRecDepth 100000
set_option maxHeartbeats 4000000
set_option linter.unusedVariables false
set_option linter.unusedSimpArgs false
-- v2
-- v4
-- v5
-- v6
-- v7
namespace Go.Proofs.YgvafwGreat
open Go.HL Go.Proofs
/-- The machine's cells that no step of a running frame changes. -/
def KeepC (c c' : Nat → Value) : Prop := ∀ k, (k < 2435 ∨ 27018 < k) → (k = 0 ∨ 1803 ≤ k ∧ k < 1866 ∨ 2258 ≤ k) → k ≠ 1807 → k ≠ 1809 → k ≠ 1810 → c' k = c k
theorem KeepC.refl (c : Nat → Value) : KeepC c c := fun _ _ _ _ _ _ => rfl
theorem KeepC.trans {a b c : Nat → Value} (h1 : KeepC a b) (h2 : KeepC b c) : KeepC a c := fun k x y z u v => (h2 k x y z u v).trans (h1 k x y z u v)
theorem KeepC.stk {c c' : Nat → Value} (h : Stk c c') : KeepC c c' := fun k x y z u v => h k (by omega) z u
theorem KeepC.stkv {c c' : Nat → Value} (h : StkV c c') : KeepC c c' := fun k x y z u v => h k (by omega) x z u
theorem KeepC.out {c c' : Nat → Value} (h : Out c c') : KeepC c c' := fun k x y z u v => h k x
/-- How much the vault has grown. -/
structure Gr (V V' : Vl) (da ds dt dj dl dr : Nat) : Prop where
  ga : V'.ac.length ≤ V.ac.length + da
  gs : V'.sl.length ≤ V.sl.length + ds
  gt : V'.tp.length ≤ V.tp.length + dt
  gj : V'.jr.length ≤ V.jr.length + dj
  gl : V'.lg.length ≤ V.lg.length + dl
  gr : V'.rf ≤ V.rf + dr
theorem Gr.refl (V : Vl) : Gr V V 0 0 0 0 0 0 := ⟨by omega, by omega, by omega, by omega, by omega, by omega⟩
/-- What an instruction that lets the frame run on leaves. -/
def OpP (cb sz : Nat) (T : TypeId) (c : Nat → Value) (K : YK) (V : Vl) (da ds dt dj dl dr : Nat) (σ : NS) : Post := fun r S' => ∃ J c' V' M' G', S' = ⟨J, ⟨cb, sz, T, c'⟩ :: (M' ++ G')⟩ ∧ EI J cb sz c' K V' σ.pc σ.gas σ.s σ.mem M' G' ∧ RJ K V' σ.w ∧ KeepC c c' ∧ Gr V V' da ds dt dj dl dr
theorem ArI.stk {c c' : Nat → Value} {mem : List Nat} {M : List Ent} (h : ArI c mem M) (hs : Stk c c') : ArI c' mem M := h.cong (hs 1 (by omega) (by decide) (by decide)) (hs 2 (by omega) (by decide) (by decide)) (hs 3 (by omega) (by decide) (by decide)) (hs 10 (by omega) (by decide) (by decide))
theorem ArI.stkv {c c' : Nat → Value} {mem : List Nat} {M : List Ent} (h : ArI c mem M) (hs : StkV c c') : ArI c' mem M := h.cong (hs 1 (by omega) (by decide) (by decide) (by decide)) (hs 2 (by omega) (by decide) (by decide) (by decide)) (hs 3 (by omega) (by decide) (by decide) (by decide)) (hs 10 (by omega) (by decide) (by decide) (by decide))
section
variable {I : Ent → Prop} {cb sz : Nat} {T : TypeId} {c : Nat → Value} {K : YK} {V : Vl} {w : YW} {pc gas : Nat} {s mem : List Nat} {M G : List Ent}
/-- The state moved on, the vault as it was. -/
theorem EI.move (h : EI I cb sz c K V pc gas s mem M G) {J : Ent → Prop} {c' : Nat → Value} {pc' gas' : Nat} {s' mem' : List Nat} {M' : List Ent} (hs : HL.Sub I J) (hk : KeepC c c') (hM : MV c' pc' gas' s') (hA : ArI c' mem' M') (hv : ∀ k, 2435 ≤ k → k ≤ 27018 → c' k = c k) : EI J cb sz c' K V pc' gas' s' mem' M' G :=
  ⟨h.eS, hA, h.eK.congr hs fun k a b x y z => hk k (.inl a) b x y z, hM, (h.eV.up hs).congr hv, h.eO, h.nm, h.mq, h.pk, h.ok⟩
/-- The state moved on with the vault. -/
theorem EI.moveV (h : EI I cb sz c K V pc gas s mem M G) {J : Ent → Prop} {c' : Nat → Value} {pc' gas' : Nat} {s' mem' : List Nat} {M' G' : List Ent} {V' : Vl} {w' : YW} (hs : HL.Sub I J) (hk : KeepC c c') (hM : MV c' pc' gas' s') (hA : ArI c' mem' M') (hV : VI J c' V' G') (hO : VOk V') (hR : RJ K V' w') : EI J cb sz c' K V' pc' gas' s' mem' M' G' :=
  ⟨h.eS, hA, h.eK.congr hs fun k a b x y z => hk k (.inl a) b x y z, hM, hV, hO, hR.nm ▸ Nat.le_add_left _ _, hR.mq, hR.pk, hR.oks hO⟩
theorem OpP.ofSetP (h : EI I cb sz c K V pc gas s mem M G) (hR : RJ K V w) {σ : NS} (hw : σ.w = w) (hm : σ.mem = mem) {f : FuncId} {args : Array Value} (hx : CallG Hvaf.prog f args ⟨I, ⟨cb, sz, T, c⟩ :: (M ++ G)⟩ (SetP I (M ++ G) cb sz T c σ.pc σ.gas σ.s)) : CallG Hvaf.prog f args ⟨I, ⟨cb, sz, T, c⟩ :: (M ++ G)⟩ (OpP cb sz T c K V 0 0 0 0 0 0 σ) := by
  refine hx.mono ?_
  rintro r S' hs ⟨c', rfl, h1, h2⟩
  exact ⟨I, c', V, M, G, rfl, h.move (fun _ h => h) (KeepC.stk h2) h1 (by rw [hm]; exact h.eA.stk h2) (fun k a b => h2 k (by omega) (by omega) (by omega)), by rw [hw]; exact hR, KeepC.stk h2, Gr.refl V⟩
theorem OpP.ofSetJ (h : EI I cb sz c K V pc gas s mem M G) (hR : RJ K V w) {σ : NS} (hw : σ.w = w) (hm : σ.mem = mem) {f : FuncId} {args : Array Value} (hx : CallG Hvaf.prog f args ⟨I, ⟨cb, sz, T, c⟩ :: (M ++ G)⟩ (SetJ (M ++ G) cb sz T c σ.pc σ.gas σ.s)) : CallG Hvaf.prog f args ⟨I, ⟨cb, sz, T, c⟩ :: (M ++ G)⟩ (OpP cb sz T c K V 0 0 0 0 0 0 σ) := by
  refine hx.mono ?_
  rintro r S' hs ⟨J, c', rfl, h1, h2⟩
  exact ⟨J, c', V, M, G, rfl, h.move hs (KeepC.stk h2) h1 (by rw [hm]; exact h.eA.stk h2) (fun k a b => h2 k (by omega) (by omega) (by omega)), by rw [hw]; exact hR, KeepC.stk h2, Gr.refl V⟩
theorem OpP.ofSetV (h : EI I cb sz c K V pc gas s mem M G) {σ : NS} (hm : σ.mem = mem) {da ds dt dj dl dr : Nat} {P : Vl → Prop} (hP : ∀ V', P V' → RJ K V' σ.w ∧ Gr V V' da ds dt dj dl dr) {f : FuncId} {args : Array Value} (hx : CallG Hvaf.prog f args ⟨I, ⟨cb, sz, T, c⟩ :: (M ++ G)⟩ (SetV I M cb sz T c σ.pc σ.gas σ.s P)) : CallG Hvaf.prog f args ⟨I, ⟨cb, sz, T, c⟩ :: (M ++ G)⟩ (OpP cb sz T c K V da ds dt dj dl dr σ) := by
  refine hx.mono ?_
  rintro r S' hs ⟨c', G', V', rfl, h1, h2, h3, h4, h5⟩
  obtain ⟨k1, k2⟩ := hP V' h5
  exact ⟨I, c', V', M, G', rfl, h.moveV (fun _ h => h) (KeepC.stkv h2) h1 (by rw [hm]; exact h.eA.stkv h2) h3 h4 k1, k1, KeepC.stkv h2, k2⟩
theorem OpP.ofSetK (h : EI I cb sz c K V pc gas s mem M G) {σ : NS} (hm : σ.mem = mem) {da ds dt dj dl dr : Nat} {P : Vl → Prop} (hP : ∀ V', P V' → RJ K V' σ.w ∧ Gr V V' da ds dt dj dl dr) {f : FuncId} {args : Array Value} (hx : CallG Hvaf.prog f args ⟨I, ⟨cb, sz, T, c⟩ :: (M ++ G)⟩ (SetK M cb sz T c σ.pc σ.gas σ.s P)) : CallG Hvaf.prog f args ⟨I, ⟨cb, sz, T, c⟩ :: (M ++ G)⟩ (OpP cb sz T c K V da ds dt dj dl dr σ) := by
  refine hx.mono ?_
  rintro r S' hs ⟨J, c', G', V', rfl, h1, h2, h3, h4, h5⟩
  obtain ⟨k1, k2⟩ := hP V' h5
  exact ⟨J, c', V', M, G', rfl, h.moveV hs (KeepC.stkv h2) h1 (by rw [hm]; exact h.eA.stkv h2) h3 h4 k1, k1, KeepC.stkv h2, k2⟩
/-- The arena with a new content of the same length. -/
theorem ArI.write {c' : Nat → Value} {mem' : List Nat} {b cap : Nat} {cm cm' : Nat → Value} (h : ArI c mem [⟨b, mulS cap 1, 5, cm⟩]) (h1 : c 1 = sl b 0 mem.length cap) (h2 : mem.length ≤ cap) (hs : c' 1 = c 1 ∧ c' 2 = c 2 ∧ c' 3 = c 3 ∧ c' 10 = c 10) (hl : mem'.length = mem.length) (h8 : ∀ d ∈ mem', d < 256) (hr : Row cm' 0 (bvs mem')) : ArI c' mem' [⟨b, mulS cap 1, 5, cm'⟩] :=
  ⟨by rw [hs.2.2.2]; exact h.tp, by rw [hs.2.1]; exact h.b0, by rw [hs.2.2.1, hl]; exact h.b1, ⟨h8, by rw [hl]; exact h.bf.len, .inr ⟨b, cap, cm', by rw [hs.1, hl]; exact h1, by rw [hl]; exact h2, rfl, hr⟩⟩⟩
theorem OpP.ofMem {b cap : Nat} {cm : Nat → Value} (h : EI I cb sz c K V pc gas s mem [⟨b, mulS cap 1, 5, cm⟩] G) (hR : RJ K V w) {σ : NS} (hw : σ.w = w) (h1 : c 1 = sl b 0 mem.length cap) (h2 : mem.length ≤ cap) (hl : σ.mem.length = mem.length) (h8 : ∀ d ∈ σ.mem, d < 256) {f : FuncId} {args : Array Value} (hx : CallG Hvaf.prog f args ⟨I, ⟨cb, sz, T, c⟩ :: ⟨b, mulS cap 1, 5, cm⟩ :: G⟩ fun r S' => ∃ c' cm', S' = ⟨I, ⟨cb, sz, T, c'⟩ :: ⟨b, mulS cap 1, 5, cm'⟩ :: G⟩ ∧ MV c' σ.pc σ.gas σ.s ∧ Stk c c' ∧ Row cm' 0 (bvs σ.mem)) : CallG Hvaf.prog f args ⟨I, ⟨cb, sz, T, c⟩ :: ([⟨b, mulS cap 1, 5, cm⟩] ++ G)⟩ (OpP cb sz T c K V 0 0 0 0 0 0 σ) := by
  refine hx.mono ?_
  rintro r S' hs ⟨c', cm', rfl, h3, h4, h5⟩
  exact ⟨I, c', V, [⟨b, mulS cap 1, 5, cm'⟩], G, rfl, h.move (fun _ h => h) (KeepC.stk h4) h3 (h.eA.write h1 h2 ⟨h4 1 (by omega) (by decide) (by decide), h4 2 (by omega) (by decide) (by decide), h4 3 (by omega) (by decide) (by decide), h4 10 (by omega) (by decide) (by decide)⟩ hl h8 h5) (fun k a b => h4 k (by omega) (by omega) (by omega)), by rw [hw]; exact hR, KeepC.stk h4, Gr.refl V⟩
theorem RJ.ix (h : RJ K V w) : V.ix K.self = 0 ∧ 0 < V.ac.length := by
  obtain ⟨y, l, h1, h2⟩ := h.rel.x0
  refine ⟨?_, by rw [h1]; simp⟩
  unfold Vl.ix; rw [h1, List.findIdx_cons]; simp [h2]
end
end Go.Proofs.YgvafwGreat
