import Derived.Test.YgvafwGreatY20
set_option maxRecDepth 100000
set_option maxHeartbeats 4000000
set_option linter.unusedVariables false
set_option linter.unusedSimpArgs false
-- v2
-- v3
-- v4
-- v5
-- v6
namespace Go.Proofs.YgvafwGreat
open Go.HL Go.Proofs

def adF (ds : List Nat) (i : Nat) : List Nat := (List.range 20).map fun p => if 19 - p < i then ds.getD (19 - p) 0 else 0
theorem adF_len (ds : List Nat) (i : Nat) : (adF ds i).length = 20 := by simp [adF]
theorem adF_get (ds : List Nat) (i : Nat) {p : Nat} (h : p < 20) : (adF ds i)[p]? = some (if 19 - p < i then ds.getD (19 - p) 0 else 0) := by
  simp only [adF, List.getElem?_map, List.getElem?_range h]; rfl
theorem adF_set (ds : List Nat) {i : Nat} (hi : i < 20) : (adF ds i).set (19 - i) (ds.getD i 0) = adF ds (i + 1) := by
  apply List.ext_getElem?
  intro p
  by_cases hp : p < 20
  · rw [adF_get ds (i + 1) hp]
    by_cases he : 19 - i = p
    · rw [← he, List.getElem?_set_self (by rw [adF_len]; omega), show 19 - (19 - i) = i by omega, if_pos (by omega)]
    · rw [List.getElem?_set_ne he, adF_get ds i hp]
      by_cases h : 19 - p < i
      · rw [if_pos h, if_pos (by omega)]
      · rw [if_neg h, if_neg (by omega)]
  · rw [List.getElem?_eq_none (by rw [List.length_set, adF_len]; omega), List.getElem?_eq_none (by rw [adF_len]; omega)]
/-- The low twenty bytes of a number, the greatest first. -/
def adN (n : Nat) : List Nat := (List.range 20).map fun p => n / 256 ^ (19 - p) % 256
theorem adN_ok (n : Nat) : AdOk (adN n) := ⟨by simp [adN], by intro d hd; obtain ⟨p, _, rfl⟩ := List.mem_map.1 hd; omega⟩
theorem adF_end {ds : List Nat} (h8 : ∀ d ∈ ds, d < 256) {i : Nat} (hi : 20 ≤ i ∨ ds.length ≤ i) : adF ds i = adN (val ds) := by
  apply List.ext_getElem?
  intro p
  by_cases hp : p < 20
  · rw [adF_get ds i hp]
    simp only [adN, List.getElem?_map, List.getElem?_range hp, Option.map_some]
    rw [dig_at h8]
    by_cases h : 19 - p < i
    · rw [if_pos h]
    · rw [if_neg h, getD_big (by omega)]
  · rw [List.getElem?_eq_none (by rw [adF_len]; omega), List.getElem?_eq_none (by simp [adN]; omega)]
/-- yp.addrOf -/
theorem yAddrOf {I : Ent → Prop} {G : List Ent} {v : Value} {n : Nat} (hN : NatI I v n) :
    CallG Hvaf.prog 157 #[v] ⟨I, G⟩ fun r S' => ⟨I, G⟩ = S' ∧ r = bytesV (adN n) := by
  obtain ⟨ds, hb0, hn, hv, hl80⟩ := hN
  obtain ⟨ad, cap, rfl, k1, k2, hb⟩ := hb0.form
  refine CallG.start (C := mkC Hvaf.prog) cok (args := [.slice ad ds.length cap]) Hvaf.func157 rfl Hvaf.ntmps157 (by simp) (by kernel_rfl) ?_
  intro b2
  repeat (first | refine SeqS.go cok ?_)
  intro b3
  repeat (first | refine SeqS.go cok ?_)
  refine W.loopE cok (by kernel_rfl) 0 (fun (i : Nat) e' S' => S' = ⟨I, ⟨b3, 20, 31, updN z_int__u8_0 0 (ivs .u8 (adF ds i))⟩ :: ⟨b2, 20, 31, z_int__u8_0⟩ :: G⟩ ∧ i ≤ ds.length ∧ i ≤ 20 ∧ slots [(0, .slice ad ds.length cap), (2, ptr b2 0), (3, ptr b3 0), (4, .int .i64 (i : Nat))] e') (fun i => 20 - i) 0
    ⟨?_, Nat.zero_le _, Nat.zero_le _, rfl, rfl, rfl, rfl, trivial⟩
    (fun e' S' => S' = ⟨I, ⟨b3, 20, 31, updN z_int__u8_0 0 (ivs .u8 (adN n))⟩ :: ⟨b2, 20, 31, z_int__u8_0⟩ :: G⟩ ∧ slots [(2, ptr b2 0), (3, ptr b3 0)] e') ?_ ?_
  · refine congrArg (fun c => (⟨I, ⟨b3, 20, 31, c⟩ :: ⟨b2, 20, 31, z_int__u8_0⟩ :: G⟩ : St)) (updN_self ⟨fun p hp => ?_⟩).symm
    have hp2 : p < 20 := by simpa [adF_len] using hp
    rw [ivs, List.getD_eq_getElem?_getD, List.getElem?_map, adF_get ds 0 hp2, if_neg (by omega)]; rfl
  · rintro e' S2 - ⟨rfl, hsl⟩
    have hl : (ivs .u8 (adN n)).length = 20 := by simp [adN]
    have ho : ∀ u ∈ ivs .u8 (adN n), one u = true := by intro u hu; obtain ⟨d, _, rfl⟩ := List.mem_map.1 hu; rfl
    refine SeqS.slots cok _ hsl fun e => ?_
    repeat (first | (refine QuG.keep ?_; first | refine QuG.upL cok 0 rfl rfl rfl rfl rfl rfl (by assumption) (by first | exact Nat.le_of_ble_eq_true rfl | omega) ?_) | (refine OpG.keep ?_; first | refine OpG.upS cok 1 rfl rfl rfl rfl rfl (by assumption) (by first | assumption | exact one_bvs _) (by first | exact Nat.le_of_ble_eq_true rfl | omega) ?_) | (refine LdG.keep ?_; first | refine LdG.upL cok 1 rfl rfl rfl rfl rfl rfl (by assumption) (by first | exact Nat.le_of_ble_eq_true rfl | omega) ?_) | refine SeqS.go cok ?_)
    exact Fin.drop G [_, _] ⟨rfl, rfl⟩
  · rintro i e' S2 - ⟨rfl, hi, hi20, hsl⟩
    refine W.slots _ hsl fun e => ?_
    have hal := adF_len ds i
    by_cases hlt : i < ds.length
    · obtain ⟨x, o, rfl, hx, hbs⟩ := hb.some (by omega)
      have hx2 : Rd ⟨I, ⟨b3, 20, 31, updN z_int__u8_0 0 (ivs .u8 (adF ds i))⟩ :: ⟨b2, 20, 31, z_int__u8_0⟩ :: G⟩ x := hx.mono (.refl _) (by simp)
      by_cases h20 : i < 20
      · have hset := adF_set ds h20
        repeat (first | refine SeqS.go cok ?_ | refine GuardS.yes rfl ?_ | refine And.intro (by omega) ?_ | refine And.intro (by dsimp only; omega) ?_ | (refine NatS.keep ?_; first | with_reducible refine NatS.nat ?_) | (refine ValS.keep ?_; first | (with_reducible refine ValS.kI64 ?_; first | (with_reducible refine ValS.addI64_L ?_ ?_ ; omega) | (with_reducible refine ValS.subI64_M ?_ ?_ ?_ ; omega; omega))) | (refine OpG.keep ?_; first | refine OpG.ar cok 0 rfl rfl rfl rfl rfl rfl (by first | omega | (simp; done) | (simp; omega)) (by first | omega | (simp; done) | (simp; omega)) rfl ?_) | (refine QuG.keep ?_; first | refine QuG.bs cok (by assumption) (by assumption) rfl rfl rfl rfl (by omega) ?_) | (refine GuardS.keep ?_; first | refine GuardS.T1 rfl (by omega) ?_) | (refine CondS.keep ?_; first | refine CondS.d1 rfl (by omega) ?_))
        exact ⟨i + 1, ⟨congrArg (fun L => (⟨I, ⟨b3, 20, 31, updN z_int__u8_0 0 (ivs .u8 L)⟩ :: ⟨b2, 20, 31, z_int__u8_0⟩ :: G⟩ : St)) hset, hlt, h20, rfl, rfl, rfl, rfl, trivial⟩, by show 20 - (i + 1) < 20 - i; omega⟩
      · have he := adF_end hb0.1 (i := i) (.inl (by omega))
        rw [hv] at he
        repeat (first | refine SeqS.go cok ?_ | refine GuardS.yes rfl ?_ | (refine GuardS.keep ?_; first | refine GuardS.T1 rfl (by omega) ?_) | (refine CondS.keep ?_; first | refine CondS.d0 rfl (by omega) ?_))
        exact ⟨congrArg (fun L => (⟨I, ⟨b3, 20, 31, updN z_int__u8_0 0 (ivs .u8 L)⟩ :: ⟨b2, 20, 31, z_int__u8_0⟩ :: G⟩ : St)) he, rfl, rfl, trivial⟩
    · have he := adF_end hb0.1 (i := i) (.inr (by omega))
      rw [hv] at he
      repeat (first | refine SeqS.go cok ?_ | refine GuardS.no rfl ?_ | refine CondS.f rfl ?_ | (refine GuardS.keep ?_; first | refine GuardS.T0 rfl (by omega) ?_))
      exact ⟨congrArg (fun L => (⟨I, ⟨b3, 20, 31, updN z_int__u8_0 0 (ivs .u8 L)⟩ :: ⟨b2, 20, 31, z_int__u8_0⟩ :: G⟩ : St)) he, rfl, rfl, trivial⟩
end Go.Proofs.YgvafwGreat
