import Derived.Test.YgvafwGreatU13
import Derived.Test.YgvafwGreatHR
set_option maxRecDepth 100000
set_option maxHeartbeats 4000000
set_option linter.unusedVariables false
set_option linter.unusedSimpArgs false
-- v2
-- v3
namespace Go.Proofs.YgvafwGreat
open Go.HL Go.Proofs

def shUp (s : Nat) : Nat → List Nat → List Nat
  | _, [] => []
  | c, l :: ds => (l * 2 ^ s % 18446744073709551616 ||| c) :: shUp s (l / 2 ^ (64 - s)) ds
theorem shUp_len (s c : Nat) (ds : List Nat) : (shUp s c ds).length = ds.length := by
  induction ds generalizing c with
  | nil => rfl
  | cons d ds ih => simp [shUp, ih]

/-- u256.ShiftUp -/
theorem ShiftUp_spec {I : Ent → Prop} {G : List Ent} {b sz o cap s : Nat} {T : TypeId} {c : Nat → Value} {ds : List Nat} (hs : s < 64) (hd : Lim ds) (hl : ds.length < 2 ^ 40) (hc : ds.length ≤ cap) (ho : o + ds.length ≤ sz) :
    CallG Hvaf.prog 412 #[sl b o ds.length cap, .int .u8 (s : Nat)] ⟨I, ⟨b, sz, T, updN c o (ivs .u64 ds)⟩ :: G⟩ fun r S' => S' = ⟨I, ⟨b, sz, T, updN c o (ivs .u64 (shUp s 0 ds))⟩ :: G⟩ := by
  refine CallG.start (C := mkC Hvaf.prog) cok (args := [sl b o ds.length cap, .int .u8 (s : Nat)]) Hvaf.func412 rfl Hvaf.ntmps412 (by simp) (by kernel_rfl) ?_
  repeat (first | refine SeqS.go cok ?_ | (refine CondS.keep ?_; first | refine CondS.d0 rfl (by omega) ?_))
  refine W.loopE cok (by kernel_rfl) 0 (fun (p : List Nat × Nat × List Nat) e' S' => S' = ⟨I, ⟨b, sz, T, updN c o (ivs .u64 (p.1 ++ p.2.2))⟩ :: G⟩ ∧ p.1.length + p.2.2.length = ds.length ∧ Lim p.2.2 ∧ p.2.1 < 2 ^ s ∧ shUp s 0 ds = p.1 ++ shUp s p.2.1 p.2.2 ∧
      slots [(0, sl b o ds.length cap), (1, .int .u8 (s : Nat)), (4, .int .u64 (p.2.1 : Nat)), (9, sl b o ds.length cap), (10, .int .i64 (ds.length : Nat)), (11, .int .i64 (p.1.length : Nat))] e') (fun p => p.2.2.length) ([], 0, ds)
      ⟨rfl, by simp, hd, Nat.two_pow_pos s, rfl, rfl, rfl, rfl, rfl, rfl, rfl, trivial⟩
      (fun e' S' => S' = ⟨I, ⟨b, sz, T, updN c o (ivs .u64 (shUp s 0 ds))⟩ :: G⟩) ?_ ?_
  · rintro e' _ _ rfl
    exact Fin.same rfl
  · rintro ⟨P, k, R⟩ e' S2 - ⟨hS, h1, h2, h3, h4, hsl⟩
    dsimp only at hS h1 h2 h3 h4 hsl
    subst hS
    refine W.slots _ hsl fun e => ?_
    cases R with
    | nil =>
      simp only [List.length_nil, Nat.add_zero] at h1
      have hf : P = shUp s 0 ds := by simpa [shUp] using h4.symm
      repeat (first | refine SeqS.go cok ?_ | (refine CondS.keep ?_; first | refine CondS.d0 rfl (by omega) ?_))
      exact (by rw [List.append_nil, hf] : (⟨I, ⟨b, sz, T, updN c o (ivs .u64 (P ++ []))⟩ :: G⟩ : St) = ⟨I, ⟨b, sz, T, updN c o (ivs .u64 (shUp s 0 ds))⟩ :: G⟩)
    | cons l R =>
      have hll := h2 l (by simp)
      have hg : (P ++ l :: R).getD P.length 0 = l := getD_mid P l R
      have hgl : (P ++ l :: R).getD P.length 0 < 18446744073709551616 := by rw [hg]; exact hll
      have hT : 2 ^ s ≤ 2 ^ 63 := Nat.pow_le_pow_right (by omega) (by omega)
      simp only [List.length_cons] at h1
      repeat (first | refine SeqS.go cok ?_ | refine And.intro (by omega) ?_ | (refine NatS.keep ?_; first | with_reducible refine NatS.nat ?_) | (refine ValS.keep ?_; first | (with_reducible refine ValS.kI64 ?_; first | (with_reducible refine ValS.addI64_L ?_ ?_ ; omega)) | (with_reducible refine ValS.kU64 ?_; first | (with_reducible refine ValS.orFU64 ?_ ?_ (fun _ => ?_); omega; omega) | (with_reducible refine ValS.shrU64 ?_ ?_ ; omega) | (with_reducible refine ValS.shlWU64 ?_ ?_ ; omega)) | (with_reducible refine ValS.kU8 ?_; first | (with_reducible refine ValS.subU8_M ?_ ?_ ?_ ; omega; omega))) | (refine QuG.keep ?_; first | refine QuG.ar cok 0 rfl rfl rfl rfl rfl rfl (by first | omega | (simp; done) | (simp; omega)) (by first | omega | (simp; done) | (simp; omega)) ?_) | (refine OpG.keep ?_; first | refine OpG.ar cok 0 rfl rfl rfl rfl rfl rfl (by first | omega | (simp; done) | (simp; omega)) (by first | omega | (simp; done) | (simp; omega)) rfl ?_) | (refine CondS.keep ?_; first | refine CondS.d1 rfl (by omega) ?_))
      refine ⟨(P ++ [l * 2 ^ s % 18446744073709551616 ||| k], l / 2 ^ (64 - s), R), ⟨?_, by simp; omega, fun d hd => h2 d (by simp [hd]), shl_hi (by omega) hll, by rw [h4]; simp [shUp], rfl, rfl, ?_, rfl, rfl, ?_, trivial⟩, by show R.length < (l :: R).length; simp⟩
      · exact (by rw [hg, set_mid]; simp : (⟨I, ⟨b, sz, T, updN c o (ivs .u64 ((P ++ l :: R).set P.length ((P ++ l :: R).getD P.length 0 * 2 ^ s % 18446744073709551616 ||| k)))⟩ :: G⟩ : St) = ⟨I, ⟨b, sz, T, updN c o (ivs .u64 ((P ++ [l * 2 ^ s % 18446744073709551616 ||| k]) ++ R))⟩ :: G⟩)
      · exact vI rfl (by rw [hg])
      · exact vI rfl (by simp)
end Go.Proofs.YgvafwGreat
