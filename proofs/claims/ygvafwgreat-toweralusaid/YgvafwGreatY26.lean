import Derived.Test.YgvafwGreatY25
import Derived.Test.YgvafwGreatY18a
import Derived.Test.YgvafwGreatY18b
set_option maxRecDepth 100000
set_option maxHeartbeats 4000000
set_option linter.unusedVariables false
set_option linter.unusedSimpArgs false
-- v2
-- v4
-- v5
-- v6
namespace Go.Proofs.YgvafwGreat
open Go.HL Go.Proofs

def warmM (t : TM) (ml : List TM) : List TM := if (findT t.1 t.2.1 ml).isSome then ml else insM t ml
/-- yp.World.warmSlot -/
theorem yWarmSlot {I : Ent → Prop} {G : List Ent} {wb sz k : Nat} {T : TypeId} {c : Nat → Value} {ml : List TM} {a : List Nat} {v : Value} (hsz : 8 ≤ sz) (hN : MarksI I (c 2) ml) (hA : AdOk a) (hN2 : NatI I v k) (hlen : ml.length < 2 ^ 18) :
    CallG Hvaf.prog 62 #[ptr wb 0, bytesV a, v] ⟨I, ⟨wb, sz, T, c⟩ :: G⟩ fun r S' => ∃ J w, S' = ⟨J, ⟨wb, sz, T, upd c 2 w⟩ :: G⟩ ∧ MarksI J w (warmM (a, k, 0) ml) := by
  unfold warmM
  cases hf : (findT a k ml).isSome
  · rw [if_neg (by decide)]
    exact yWarmSlotNew hsz hN hA hN2 hlen hf
  · rw [if_pos rfl]
    have hw := fun (G : List Ent) => yIsWarmSlot (wb := wb) (T := T) (G := G) hsz hN hA hN2 (by omega)
    rw [hf] at hw
    have ha := hA.bv
    refine CallG.start (C := mkC Hvaf.prog) cok (args := [ptr wb 0, bytesV a, v]) Hvaf.func62 rfl Hvaf.ntmps62 (by simp) (by kernel_rfl) ?_
    intro b4
    repeat (first | (refine QuG.keep ?_; first | refine QuG.boxL cok 0 rfl rfl rfl rfl rfl (by assumption) ?_) | refine SeqS.go cok ?_)
    refine CallG.focus 1 rfl ?_
    refine (hw _).mono ?_
    rintro r _ - ⟨rfl, rfl⟩
    repeat (first | refine SeqS.go cok ?_ | refine CondS.t rfl ?_)
    exact Fin.drop1 _ G [_] ⟨I, c 2, by rw [upd_self], hN⟩
/-- yp.World.store -/
theorem yStore {I : Ent → Prop} {G : List Ent} {wb sz k n : Nat} {T : TypeId} {c : Nat → Value} {al : List YA} {a : List Nat} {v u : Value} (hsz : 8 ≤ sz) (hN : AcctsI I (c 0) al) (hA : AdOk a) (hN2 : NatI I v k) (hN3 : NatI I u n) (hlen : al.length < 2 ^ 19) (hsl0 : (getA al a).slots.length < 2 ^ 18) :
    CallG Hvaf.prog 359 #[ptr wb 0, bytesV a, v, u] ⟨I, ⟨wb, sz, T, c⟩ :: G⟩ fun r S' => ∃ J w, S' = ⟨J, ⟨wb, sz, T, upd c 0 w⟩ :: G⟩ ∧ AcctsI J w (putA { getA al a with slots := storeS k n (decide (n = 0)) (getA al a).slots } al) := by
  by_cases h : n = 0
  · rw [decide_eq_true h]; exact yStoreZ hsz hN hA hN2 hN3 hlen hsl0 h
  · rw [decide_eq_false h]; exact yStoreP hsz hN hA hN2 hN3 hlen hsl0 (by omega)
/-- yp.World.tstore -/
theorem yTStore {I : Ent → Prop} {G : List Ent} {wb sz k n : Nat} {T : TypeId} {c : Nat → Value} {ml : List TM} {a : List Nat} {v u : Value} (hsz : 8 ≤ sz) (hN : TempsI I (c 5) ml) (hA : AdOk a) (hN2 : NatI I v k) (hN3 : NatI I u n) (hlen : ml.length < 2 ^ 18) :
    CallG Hvaf.prog 246 #[ptr wb 0, bytesV a, v, u] ⟨I, ⟨wb, sz, T, c⟩ :: G⟩ fun r S' => ∃ J w, S' = ⟨J, ⟨wb, sz, T, upd c 5 w⟩ :: G⟩ ∧ TempsI J w (tstT (a, k, n) (decide (n = 0)) ml) := by
  by_cases h : n = 0
  · rw [decide_eq_true h]; exact yTStoreZ hsz hN hA hN2 hN3 hlen h
  · rw [decide_eq_false h]; exact yTStoreP hsz hN hA hN2 hN3 hlen (by omega)
/-- yp.Frame.copied: n bytes are laid in memory, which is long enough already. -/
theorem yCopied {I : Ent → Prop} {G : List Ent} {fb sz mb d o n : Nat} {T Tm : TypeId} {c cm : Nat → Value} {mem src : List Nat} {v s u w : Value} (hsz : 60 ≤ sz) (hc : c 9 = sl mb 0 mem.length mem.length) (hN : NatI I v d) (hs0 : Byt ⟨I, []⟩ s src) (hN2 : NatI I u o) (hN3 : NatI I w n) (hl : mem.length < 2 ^ 40) (hn : n < 2 ^ 40) (hsl : src.length < 2 ^ 40) :
    CallG Hvaf.prog 244 #[ptr fb 0, v, s, u, w] ⟨I, ⟨fb, sz, T, c⟩ :: ⟨mb, mem.length, Tm, updN cm 0 (bvs mem)⟩ :: G⟩ fun r S' => ∃ J, S' = ⟨J, ⟨fb, sz, T, c⟩ :: ⟨mb, mem.length, Tm, updN cm 0 (bvs (if n = 0 then mem else writeL mem d (cutL src o n)))⟩ :: G⟩ := by
  by_cases h0 : n = 0
  · rw [if_pos h0]
    refine CallG.start (C := mkC Hvaf.prog) cok (args := [ptr fb 0, v, s, u, w]) Hvaf.func244 rfl Hvaf.ntmps244 (by simp) (by kernel_rfl) ?_
    skip
    refine (zT hN3 h0).mono ?_
    rintro r _ - ⟨rfl, rfl⟩
    repeat (first | refine SeqS.go cok ?_ | refine CondS.f rfl ?_)
    exact Fin.same ⟨I, rfl⟩
  · rw [if_neg h0]
    have hcut := yCut (G := ⟨fb, sz, T, c⟩ :: ⟨mb, mem.length, Tm, updN cm 0 (bvs mem)⟩ :: G) (hs0.mono (S' := ⟨I, ⟨fb, sz, T, c⟩ :: ⟨mb, mem.length, Tm, updN cm 0 (bvs mem)⟩ :: G⟩) (.refl _) (by simp)) hN2 hN3 hn hsl
    refine CallG.start (C := mkC Hvaf.prog) cok (args := [ptr fb 0, v, s, u, w]) Hvaf.func244 rfl Hvaf.ntmps244 (by simp) (by kernel_rfl) ?_
    skip
    refine (zF hN3 h0).mono ?_
    rintro r _ - ⟨rfl, rfl⟩
    repeat (first | refine SeqS.go cok ?_ | refine CondS.t rfl ?_)
    refine hcut.mono ?_
    rintro r ⟨J, G'⟩ hs ⟨h1, h2⟩
    dsimp only at h1 h2 hs
    subst h1
    skip
    refine (yWrite hsz hc (hN.up hs) h2 hl).mono ?_
    rintro r2 _ - rfl
    skip
    exact Fin.same ⟨J, rfl⟩
end Go.Proofs.YgvafwGreat
