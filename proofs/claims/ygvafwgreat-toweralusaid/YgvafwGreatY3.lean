import Derived.Test.YgvafwGreatHQb
import Derived.Test.YgvafwGreatY2
import Derived.Test.YgvafwGreatD3
set_option maxRecDepth 100000
set_option maxHeartbeats 4000000
set_option linter.unusedVariables false
set_option linter.unusedSimpArgs false
-- v2
-- v3
-- plus: (refine ValS.keep ?_; fail "none")
namespace Go.Proofs.YgvafwGreat
open Go.HL Go.Proofs

theorem _root_.Go.HL.ValS.andZ {q : Value → Prop} (h : q (.int .u8 ((0 &&& 0 : Nat) : Int))) : ValS (.int .u8 (iand .u8 0 0)) q := ValS.andU8 (a := 0) (b := 0) (by decide) (by decide) h
theorem _root_.Go.HL.ValS.orZ {q : Value → Prop} (h : q (.int .u8 ((0 ||| 0 : Nat) : Int))) : ValS (.int .u8 (ior .u8 0 0)) q := ValS.orU8 (a := 0) (b := 0) (by decide) (by decide) h
theorem _root_.Go.HL.ValS.xorZ {q : Value → Prop} (h : q (.int .u8 ((0 ^^^ 0 : Nat) : Int))) : ValS (.int .u8 (ixor .u8 0 0)) q := ValS.xorU8 (a := 0) (b := 0) (by decide) (by decide) h
/-- The first i digits laid, zeros behind. -/
def bitL (g : Nat → Nat → Nat) (da db : List Nat) (i : Nat) : List Nat := (List.range i).map (fun k => g (da.getD k 0) (db.getD k 0)) ++ List.replicate (32 - i) 0
theorem bitL_len (g : Nat → Nat → Nat) (da db : List Nat) {i : Nat} (hi : i ≤ 32) : (bitL g da db i).length = 32 := by simp [bitL]; omega
theorem bitL_set (g : Nat → Nat → Nat) (da db : List Nat) {i : Nat} (hi : i < 32) : (bitL g da db i).set i (g (da.getD i 0) (db.getD i 0)) = bitL g da db (i + 1) := by
  unfold bitL
  rw [show 32 - i = (32 - (i + 1)) + 1 by omega, List.replicate_succ, List.range_succ, List.map_append, List.append_assoc]
  have := set_at ((List.range i).map (fun k => g (da.getD k 0) (db.getD k 0))) 0 (g (da.getD i 0) (db.getD i 0)) (List.replicate (32 - (i + 1)) 0) i (by simp)
  rw [this]; rfl
theorem bitL_lt {g : Nat → Nat → Nat} (hg : ∀ x y, x < 256 → y < 256 → g x y < 256) {da db : List Nat} (ha : ∀ d ∈ da, d < 256) (hb : ∀ d ∈ db, d < 256) : ∀ d ∈ bitL g da db 32, d < 256 := by
  intro d hd
  simp only [bitL, List.mem_append, List.mem_map, List.mem_range, Nat.sub_self, List.replicate_zero, List.not_mem_nil, or_false] at hd
  obtain ⟨k, _, rfl⟩ := hd
  exact hg _ _ (getD_lt ha k) (getD_lt hb k)
theorem Bs.of_updN {b sz n : Nat} {T : TypeId} {c : Nat → Value} {L : List Nat} (hl : L.length = n) (hn : n ≤ sz) : Bs ⟨b, sz, T, updN c 0 (ivs .u8 L)⟩ 0 L := by
  refine ⟨by dsimp only; omega, fun i hi => ?_⟩
  show updN c 0 (ivs .u8 L) (0 + i) = _
  rw [updN_get (by simpa using hi), ivs, List.getD_eq_getElem?_getD, List.getElem?_map, List.getElem?_eq_getElem hi, List.getD_eq_getElem?_getD, List.getElem?_eq_getElem hi]; rfl
theorem Byt.of_own {I : Ent → Prop} {G : List Ent} {b n : Nat} {T : TypeId} {c : Nat → Value} {L : List Nat} (hl : L.length = n) (hn : n < 2 ^ 40) (h8 : ∀ d ∈ L, d < 256) (hG : (⟨b, n, T, updN c 0 (ivs .u8 L)⟩ : Ent) ∈ G) : Byt ⟨I, G⟩ (sl b 0 n n) L := by
  subst hl
  exact ⟨h8, by omega, _, _, rfl, Nat.le_refl _, by omega, .inr ⟨_, 0, rfl, .inr hG, Bs.of_updN rfl (Nat.le_refl _)⟩⟩

theorem yBitwiseAnd {I : Ent → Prop} {G : List Ent} {v u : Value} {da db : List Nat} (ha : Byt ⟨I, []⟩ v da) (hb : Byt ⟨I, []⟩ u db) :
    CallG Hvaf.prog 356 #[.int .u8 22, v, u] ⟨I, G⟩ fun r S' => S'.G = G ∧ NatI S'.I r (val (bitL (fun x y => x &&& y) da db 32)) := by
  have h8 : ∀ d ∈ bitL (fun x y => x &&& y) da db 32, d < 256 := bitL_lt (fun x y hx hy => Nat.lt_of_le_of_lt Nat.and_le_left hx) ha.1 hb.1
  have hla := ha.2.1
  have hlb := hb.2.1
  refine CallG.start (C := mkC Hvaf.prog) cok (args := [.int .u8 22, v, u]) Hvaf.func356 rfl Hvaf.ntmps356 (by simp) (by kernel_rfl) ?_
  repeat (first | refine SeqS.go cok ?_ | refine And.intro (by dsimp only; omega) ?_ | (refine NatS.keep ?_; first | with_reducible refine NatS.lit ?_))
  intro b
  repeat (first | refine SeqS.go cok ?_)
  refine W.loopE cok (by kernel_rfl) 0 (fun (i : Nat) e' S' => S' = ⟨I, ⟨b, 32, 5, updN (zc { kind := 1, size := 1, bytes := 1, zero := z_int__u8_0 }) 0 (ivs .u8 (bitL (fun x y => x &&& y) da db i))⟩ :: G⟩ ∧ i ≤ 32 ∧
      slots [(0, .int .u8 22), (1, v), (2, u), (7, sl b 0 32 32), (13, .int .i64 32), (14, .int .i64 (i : Nat))] e') (fun i => 32 - i) 0
      ⟨?_, by omega, rfl, rfl, rfl, rfl, rfl, rfl, trivial⟩
      (fun e' S' => S' = ⟨I, ⟨b, 32, 5, updN (zc { kind := 1, size := 1, bytes := 1, zero := z_int__u8_0 }) 0 (ivs .u8 (bitL (fun x y => x &&& y) da db 32))⟩ :: G⟩ ∧ slots [(7, sl b 0 32 32)] e') ?_ ?_
  · refine congrArg (fun c => (⟨I, ⟨b, 32, 5, c⟩ :: G⟩ : St)) (updN_self ⟨fun i hi => ?_⟩).symm
    simp only [bitL, List.range_zero, List.map_nil, List.nil_append] at hi ⊢
    rw [ivs, List.getD_eq_getElem?_getD, List.getElem?_map, List.getElem?_replicate, if_pos (by simpa using hi)]; rfl
  · rintro e' S2 - ⟨rfl, hsl⟩
    refine SeqS.slots cok _ hsl fun e => ?_
    skip
    refine callN (Norm_spec (S := ⟨I, _ :: G⟩) (Byt.of_own (I := I) (bitL_len _ _ _ (Nat.le_refl _)) (by decide) h8 List.mem_cons_self) ?_) ?_
    · exact Nat.lt_of_lt_of_le (val_lt _ h8) (Nat.pow_le_pow_right (by decide) (by rw [bitL_len _ _ _ (Nat.le_refl _)]; decide))
    intro r J hs hr
    repeat (first | refine SeqS.go cok ?_)
    exact Fin.drop G [_] ⟨rfl, hr⟩
  · rintro i e' S2 - ⟨rfl, hi, hsl⟩
    refine W.slots _ hsl fun e => ?_
    by_cases h32 : i < 32
    · have hlen := bitL_len (fun x y => x &&& y) da db hi
      have hset := bitL_set (fun x y => x &&& y) da db h32
      have hax := getD_lt ha.1 i
      have hbx := getD_lt hb.1 i
      rcases (ha.mono (S' := ⟨I, ⟨b, 32, 5, updN (zc { kind := 1, size := 1, bytes := 1, zero := z_int__u8_0 }) 0 (ivs .u8 (bitL (fun x y => x &&& y) da db i))⟩ :: G⟩) (.refl _) (by simp)).cases with ⟨rfl, rfl⟩ | ⟨x, o, cap, rfl, k1, k2, k3, k4⟩
      · rcases (hb.mono (S' := ⟨I, ⟨b, 32, 5, updN (zc { kind := 1, size := 1, bytes := 1, zero := z_int__u8_0 }) 0 (ivs .u8 (bitL (fun x y => x &&& y) [] db i))⟩ :: G⟩) (.refl _) (by simp)).cases with ⟨rfl, rfl⟩ | ⟨y, o', cap', rfl, m1, m2, m3, m4⟩
        · repeat (first | (refine ValS.keep ?_; first | with_reducible refine ValS.andZ ?_) | refine SeqS.go cok ?_ | refine CondS.t rfl ?_ | refine CondS.f rfl ?_ | refine And.intro (by omega) ?_ | (refine NatS.keep ?_; first | with_reducible refine NatS.nat ?_) | (refine ValS.keep ?_; first | (with_reducible refine ValS.kI64 ?_; first | (with_reducible refine ValS.addI64_L ?_ ?_ ; omega))) | (refine OpG.keep ?_; first | refine OpG.ar cok 0 rfl rfl rfl rfl rfl rfl (by first | omega | (simp; done) | (simp; omega)) (by first | omega | (simp; done) | (simp; omega)) rfl ?_) | (refine CondS.keep ?_; first | refine CondS.d1 rfl (by omega) ?_))
          exact ⟨i + 1, ⟨congrArg (fun L => (⟨I, ⟨b, 32, 5, updN _ 0 (ivs .u8 L)⟩ :: G⟩ : St)) hset, h32, rfl, rfl, rfl, rfl, rfl, rfl, trivial⟩, by show 32 - (i + 1) < 32 - i; omega⟩
        · by_cases hib : i < db.length
          · repeat (first | refine SeqS.go cok ?_ | refine CondS.t rfl ?_ | refine CondS.f rfl ?_ | refine And.intro (by omega) ?_ | (refine NatS.keep ?_; first | with_reducible refine NatS.nat ?_) | (refine ValS.keep ?_; first | (with_reducible refine ValS.kI64 ?_; first | (with_reducible refine ValS.addI64_L ?_ ?_ ; omega)) | (with_reducible refine ValS.kU8 ?_; first | (with_reducible refine ValS.andU8_M ?_ ?_ ?_ ; omega; omega))) | (refine OpG.keep ?_; first | refine OpG.ar cok 0 rfl rfl rfl rfl rfl rfl (by first | omega | (simp; done) | (simp; omega)) (by first | omega | (simp; done) | (simp; omega)) rfl ?_) | (refine QuG.keep ?_; first | refine QuG.bs cok (by assumption) (by assumption) rfl rfl rfl rfl (by omega) ?_) | (refine CondS.keep ?_; first | refine CondS.d1 rfl (by omega) ?_))
            exact ⟨i + 1, ⟨congrArg (fun L => (⟨I, ⟨b, 32, 5, updN _ 0 (ivs .u8 L)⟩ :: G⟩ : St)) hset, h32, rfl, rfl, rfl, rfl, rfl, rfl, trivial⟩, by show 32 - (i + 1) < 32 - i; omega⟩
          · rw [getD_big hib] at hset
            repeat (first | (refine ValS.keep ?_; first | with_reducible refine ValS.andZ ?_) | refine SeqS.go cok ?_ | refine CondS.t rfl ?_ | refine CondS.f rfl ?_ | refine And.intro (by omega) ?_ | (refine NatS.keep ?_; first | with_reducible refine NatS.nat ?_) | (refine ValS.keep ?_; first | (with_reducible refine ValS.kI64 ?_; first | (with_reducible refine ValS.addI64_L ?_ ?_ ; omega))) | (refine OpG.keep ?_; first | refine OpG.ar cok 0 rfl rfl rfl rfl rfl rfl (by first | omega | (simp; done) | (simp; omega)) (by first | omega | (simp; done) | (simp; omega)) rfl ?_) | (refine CondS.keep ?_; first | refine CondS.d1 rfl (by omega) ?_ | refine CondS.d0 rfl (by omega) ?_))
            exact ⟨i + 1, ⟨congrArg (fun L => (⟨I, ⟨b, 32, 5, updN _ 0 (ivs .u8 L)⟩ :: G⟩ : St)) hset, h32, rfl, rfl, rfl, rfl, rfl, rfl, trivial⟩, by show 32 - (i + 1) < 32 - i; omega⟩
      · by_cases hia : i < da.length
        · rcases (hb.mono (S' := ⟨I, ⟨b, 32, 5, updN (zc { kind := 1, size := 1, bytes := 1, zero := z_int__u8_0 }) 0 (ivs .u8 (bitL (fun x y => x &&& y) da db i))⟩ :: G⟩) (.refl _) (by simp)).cases with ⟨rfl, rfl⟩ | ⟨y, o', cap', rfl, m1, m2, m3, m4⟩
          · repeat (first | refine SeqS.go cok ?_ | refine CondS.t rfl ?_ | refine CondS.f rfl ?_ | refine And.intro (by omega) ?_ | (refine NatS.keep ?_; first | with_reducible refine NatS.nat ?_) | (refine ValS.keep ?_; first | (with_reducible refine ValS.kI64 ?_; first | (with_reducible refine ValS.addI64_L ?_ ?_ ; omega)) | (with_reducible refine ValS.kU8 ?_; first | (with_reducible refine ValS.andU8_L ?_ ?_ ?_ ; omega; omega))) | (refine OpG.keep ?_; first | refine OpG.ar cok 0 rfl rfl rfl rfl rfl rfl (by first | omega | (simp; done) | (simp; omega)) (by first | omega | (simp; done) | (simp; omega)) rfl ?_) | (refine QuG.keep ?_; first | refine QuG.bs cok (by assumption) (by assumption) rfl rfl rfl rfl (by omega) ?_) | (refine CondS.keep ?_; first | refine CondS.d1 rfl (by omega) ?_))
            exact ⟨i + 1, ⟨congrArg (fun L => (⟨I, ⟨b, 32, 5, updN _ 0 (ivs .u8 L)⟩ :: G⟩ : St)) hset, h32, rfl, rfl, rfl, rfl, rfl, rfl, trivial⟩, by show 32 - (i + 1) < 32 - i; omega⟩
          · by_cases hib : i < db.length
            · repeat (first | refine SeqS.go cok ?_ | refine CondS.t rfl ?_ | refine And.intro (by omega) ?_ | (refine NatS.keep ?_; first | with_reducible refine NatS.nat ?_) | (refine ValS.keep ?_; first | (with_reducible refine ValS.kI64 ?_; first | (with_reducible refine ValS.addI64_L ?_ ?_ ; omega)) | (with_reducible refine ValS.kU8 ?_; first | (with_reducible refine ValS.andU8 ?_ ?_ ?_ ; omega; omega))) | (refine OpG.keep ?_; first | refine OpG.ar cok 0 rfl rfl rfl rfl rfl rfl (by first | omega | (simp; done) | (simp; omega)) (by first | omega | (simp; done) | (simp; omega)) rfl ?_) | (refine QuG.keep ?_; first | refine QuG.bs cok (by assumption) (by assumption) rfl rfl rfl rfl (by omega) ?_) | (refine CondS.keep ?_; first | refine CondS.d1 rfl (by omega) ?_))
              exact ⟨i + 1, ⟨congrArg (fun L => (⟨I, ⟨b, 32, 5, updN _ 0 (ivs .u8 L)⟩ :: G⟩ : St)) hset, h32, rfl, rfl, rfl, rfl, rfl, rfl, trivial⟩, by show 32 - (i + 1) < 32 - i; omega⟩
            · rw [getD_big hib] at hset
              repeat (first | refine SeqS.go cok ?_ | refine CondS.t rfl ?_ | refine And.intro (by omega) ?_ | (refine NatS.keep ?_; first | with_reducible refine NatS.nat ?_) | (refine ValS.keep ?_; first | (with_reducible refine ValS.kI64 ?_; first | (with_reducible refine ValS.addI64_L ?_ ?_ ; omega)) | (with_reducible refine ValS.kU8 ?_; first | (with_reducible refine ValS.andU8_L ?_ ?_ ?_ ; omega; omega))) | (refine OpG.keep ?_; first | refine OpG.ar cok 0 rfl rfl rfl rfl rfl rfl (by first | omega | (simp; done) | (simp; omega)) (by first | omega | (simp; done) | (simp; omega)) rfl ?_) | (refine QuG.keep ?_; first | refine QuG.bs cok (by assumption) (by assumption) rfl rfl rfl rfl (by omega) ?_) | (refine CondS.keep ?_; first | refine CondS.d1 rfl (by omega) ?_ | refine CondS.d0 rfl (by omega) ?_))
              exact ⟨i + 1, ⟨congrArg (fun L => (⟨I, ⟨b, 32, 5, updN _ 0 (ivs .u8 L)⟩ :: G⟩ : St)) hset, h32, rfl, rfl, rfl, rfl, rfl, rfl, trivial⟩, by show 32 - (i + 1) < 32 - i; omega⟩
        · rw [getD_big hia] at hset
          rcases (hb.mono (S' := ⟨I, ⟨b, 32, 5, updN (zc { kind := 1, size := 1, bytes := 1, zero := z_int__u8_0 }) 0 (ivs .u8 (bitL (fun x y => x &&& y) da db i))⟩ :: G⟩) (.refl _) (by simp)).cases with ⟨rfl, rfl⟩ | ⟨y, o', cap', rfl, m1, m2, m3, m4⟩
          · repeat (first | (refine ValS.keep ?_; first | with_reducible refine ValS.andZ ?_) | refine SeqS.go cok ?_ | refine CondS.t rfl ?_ | refine CondS.f rfl ?_ | refine And.intro (by omega) ?_ | (refine NatS.keep ?_; first | with_reducible refine NatS.nat ?_) | (refine ValS.keep ?_; first | (with_reducible refine ValS.kI64 ?_; first | (with_reducible refine ValS.addI64_L ?_ ?_ ; omega))) | (refine OpG.keep ?_; first | refine OpG.ar cok 0 rfl rfl rfl rfl rfl rfl (by first | omega | (simp; done) | (simp; omega)) (by first | omega | (simp; done) | (simp; omega)) rfl ?_) | (refine CondS.keep ?_; first | refine CondS.d1 rfl (by omega) ?_ | refine CondS.d0 rfl (by omega) ?_))
            exact ⟨i + 1, ⟨congrArg (fun L => (⟨I, ⟨b, 32, 5, updN _ 0 (ivs .u8 L)⟩ :: G⟩ : St)) hset, h32, rfl, rfl, rfl, rfl, rfl, rfl, trivial⟩, by show 32 - (i + 1) < 32 - i; omega⟩
          · by_cases hib : i < db.length
            · repeat (first | refine SeqS.go cok ?_ | refine CondS.t rfl ?_ | refine And.intro (by omega) ?_ | (refine NatS.keep ?_; first | with_reducible refine NatS.nat ?_) | (refine ValS.keep ?_; first | (with_reducible refine ValS.kI64 ?_; first | (with_reducible refine ValS.addI64_L ?_ ?_ ; omega)) | (with_reducible refine ValS.kU8 ?_; first | (with_reducible refine ValS.andU8_M ?_ ?_ ?_ ; omega; omega))) | (refine OpG.keep ?_; first | refine OpG.ar cok 0 rfl rfl rfl rfl rfl rfl (by first | omega | (simp; done) | (simp; omega)) (by first | omega | (simp; done) | (simp; omega)) rfl ?_) | (refine QuG.keep ?_; first | refine QuG.bs cok (by assumption) (by assumption) rfl rfl rfl rfl (by omega) ?_) | (refine CondS.keep ?_; first | refine CondS.d1 rfl (by omega) ?_ | refine CondS.d0 rfl (by omega) ?_))
              exact ⟨i + 1, ⟨congrArg (fun L => (⟨I, ⟨b, 32, 5, updN _ 0 (ivs .u8 L)⟩ :: G⟩ : St)) hset, h32, rfl, rfl, rfl, rfl, rfl, rfl, trivial⟩, by show 32 - (i + 1) < 32 - i; omega⟩
            · rw [getD_big hib] at hset
              repeat (first | (refine ValS.keep ?_; first | with_reducible refine ValS.andZ ?_) | refine SeqS.go cok ?_ | refine CondS.t rfl ?_ | refine And.intro (by omega) ?_ | (refine NatS.keep ?_; first | with_reducible refine NatS.nat ?_) | (refine ValS.keep ?_; first | (with_reducible refine ValS.kI64 ?_; first | (with_reducible refine ValS.addI64_L ?_ ?_ ; omega))) | (refine OpG.keep ?_; first | refine OpG.ar cok 0 rfl rfl rfl rfl rfl rfl (by first | omega | (simp; done) | (simp; omega)) (by first | omega | (simp; done) | (simp; omega)) rfl ?_) | (refine CondS.keep ?_; first | refine CondS.d1 rfl (by omega) ?_ | refine CondS.d0 rfl (by omega) ?_))
              exact ⟨i + 1, ⟨congrArg (fun L => (⟨I, ⟨b, 32, 5, updN _ 0 (ivs .u8 L)⟩ :: G⟩ : St)) hset, h32, rfl, rfl, rfl, rfl, rfl, rfl, trivial⟩, by show 32 - (i + 1) < 32 - i; omega⟩
    · repeat (first | refine SeqS.go cok ?_ | (refine CondS.keep ?_; first | refine CondS.d0 rfl (by omega) ?_))
      obtain rfl : i = 32 := by omega
      exact ⟨rfl, rfl, trivial⟩
theorem yBitwiseOr {I : Ent → Prop} {G : List Ent} {v u : Value} {da db : List Nat} (ha : Byt ⟨I, []⟩ v da) (hb : Byt ⟨I, []⟩ u db) :
    CallG Hvaf.prog 356 #[.int .u8 23, v, u] ⟨I, G⟩ fun r S' => S'.G = G ∧ NatI S'.I r (val (bitL (fun x y => x ||| y) da db 32)) := by
  have h8 : ∀ d ∈ bitL (fun x y => x ||| y) da db 32, d < 256 := bitL_lt (fun x y hx hy => Nat.or_lt_two_pow (n := 8) hx hy) ha.1 hb.1
  have hla := ha.2.1
  have hlb := hb.2.1
  refine CallG.start (C := mkC Hvaf.prog) cok (args := [.int .u8 23, v, u]) Hvaf.func356 rfl Hvaf.ntmps356 (by simp) (by kernel_rfl) ?_
  repeat (first | refine SeqS.go cok ?_ | refine And.intro (by dsimp only; omega) ?_ | (refine NatS.keep ?_; first | with_reducible refine NatS.lit ?_))
  intro b
  repeat (first | refine SeqS.go cok ?_)
  refine W.loopE cok (by kernel_rfl) 0 (fun (i : Nat) e' S' => S' = ⟨I, ⟨b, 32, 5, updN (zc { kind := 1, size := 1, bytes := 1, zero := z_int__u8_0 }) 0 (ivs .u8 (bitL (fun x y => x ||| y) da db i))⟩ :: G⟩ ∧ i ≤ 32 ∧
      slots [(0, .int .u8 23), (1, v), (2, u), (7, sl b 0 32 32), (13, .int .i64 32), (14, .int .i64 (i : Nat))] e') (fun i => 32 - i) 0
      ⟨?_, by omega, rfl, rfl, rfl, rfl, rfl, rfl, trivial⟩
      (fun e' S' => S' = ⟨I, ⟨b, 32, 5, updN (zc { kind := 1, size := 1, bytes := 1, zero := z_int__u8_0 }) 0 (ivs .u8 (bitL (fun x y => x ||| y) da db 32))⟩ :: G⟩ ∧ slots [(7, sl b 0 32 32)] e') ?_ ?_
  · refine congrArg (fun c => (⟨I, ⟨b, 32, 5, c⟩ :: G⟩ : St)) (updN_self ⟨fun i hi => ?_⟩).symm
    simp only [bitL, List.range_zero, List.map_nil, List.nil_append] at hi ⊢
    rw [ivs, List.getD_eq_getElem?_getD, List.getElem?_map, List.getElem?_replicate, if_pos (by simpa using hi)]; rfl
  · rintro e' S2 - ⟨rfl, hsl⟩
    refine SeqS.slots cok _ hsl fun e => ?_
    skip
    refine callN (Norm_spec (S := ⟨I, _ :: G⟩) (Byt.of_own (I := I) (bitL_len _ _ _ (Nat.le_refl _)) (by decide) h8 List.mem_cons_self) ?_) ?_
    · exact Nat.lt_of_lt_of_le (val_lt _ h8) (Nat.pow_le_pow_right (by decide) (by rw [bitL_len _ _ _ (Nat.le_refl _)]; decide))
    intro r J hs hr
    repeat (first | refine SeqS.go cok ?_)
    exact Fin.drop G [_] ⟨rfl, hr⟩
  · rintro i e' S2 - ⟨rfl, hi, hsl⟩
    refine W.slots _ hsl fun e => ?_
    by_cases h32 : i < 32
    · have hlen := bitL_len (fun x y => x ||| y) da db hi
      have hset := bitL_set (fun x y => x ||| y) da db h32
      have hax := getD_lt ha.1 i
      have hbx := getD_lt hb.1 i
      rcases (ha.mono (S' := ⟨I, ⟨b, 32, 5, updN (zc { kind := 1, size := 1, bytes := 1, zero := z_int__u8_0 }) 0 (ivs .u8 (bitL (fun x y => x ||| y) da db i))⟩ :: G⟩) (.refl _) (by simp)).cases with ⟨rfl, rfl⟩ | ⟨x, o, cap, rfl, k1, k2, k3, k4⟩
      · rcases (hb.mono (S' := ⟨I, ⟨b, 32, 5, updN (zc { kind := 1, size := 1, bytes := 1, zero := z_int__u8_0 }) 0 (ivs .u8 (bitL (fun x y => x ||| y) [] db i))⟩ :: G⟩) (.refl _) (by simp)).cases with ⟨rfl, rfl⟩ | ⟨y, o', cap', rfl, m1, m2, m3, m4⟩
        · repeat (first | (refine ValS.keep ?_; first | with_reducible refine ValS.orZ ?_) | refine SeqS.go cok ?_ | refine CondS.t rfl ?_ | refine CondS.f rfl ?_ | refine And.intro (by omega) ?_ | (refine NatS.keep ?_; first | with_reducible refine NatS.nat ?_) | (refine ValS.keep ?_; first | (with_reducible refine ValS.kI64 ?_; first | (with_reducible refine ValS.addI64_L ?_ ?_ ; omega))) | (refine OpG.keep ?_; first | refine OpG.ar cok 0 rfl rfl rfl rfl rfl rfl (by first | omega | (simp; done) | (simp; omega)) (by first | omega | (simp; done) | (simp; omega)) rfl ?_) | (refine CondS.keep ?_; first | refine CondS.d1 rfl (by omega) ?_))
          exact ⟨i + 1, ⟨congrArg (fun L => (⟨I, ⟨b, 32, 5, updN _ 0 (ivs .u8 L)⟩ :: G⟩ : St)) hset, h32, rfl, rfl, rfl, rfl, rfl, rfl, trivial⟩, by show 32 - (i + 1) < 32 - i; omega⟩
        · by_cases hib : i < db.length
          · repeat (first | refine SeqS.go cok ?_ | refine CondS.t rfl ?_ | refine CondS.f rfl ?_ | refine And.intro (by omega) ?_ | (refine NatS.keep ?_; first | with_reducible refine NatS.nat ?_) | (refine ValS.keep ?_; first | (with_reducible refine ValS.kI64 ?_; first | (with_reducible refine ValS.addI64_L ?_ ?_ ; omega)) | (with_reducible refine ValS.kU8 ?_; first | (with_reducible refine ValS.orU8_M ?_ ?_ ?_ ; omega; omega))) | (refine OpG.keep ?_; first | refine OpG.ar cok 0 rfl rfl rfl rfl rfl rfl (by first | omega | (simp; done) | (simp; omega)) (by first | omega | (simp; done) | (simp; omega)) rfl ?_) | (refine QuG.keep ?_; first | refine QuG.bs cok (by assumption) (by assumption) rfl rfl rfl rfl (by omega) ?_) | (refine CondS.keep ?_; first | refine CondS.d1 rfl (by omega) ?_))
            exact ⟨i + 1, ⟨congrArg (fun L => (⟨I, ⟨b, 32, 5, updN _ 0 (ivs .u8 L)⟩ :: G⟩ : St)) hset, h32, rfl, rfl, rfl, rfl, rfl, rfl, trivial⟩, by show 32 - (i + 1) < 32 - i; omega⟩
          · rw [getD_big hib] at hset
            repeat (first | (refine ValS.keep ?_; first | with_reducible refine ValS.orZ ?_) | refine SeqS.go cok ?_ | refine CondS.t rfl ?_ | refine CondS.f rfl ?_ | refine And.intro (by omega) ?_ | (refine NatS.keep ?_; first | with_reducible refine NatS.nat ?_) | (refine ValS.keep ?_; first | (with_reducible refine ValS.kI64 ?_; first | (with_reducible refine ValS.addI64_L ?_ ?_ ; omega))) | (refine OpG.keep ?_; first | refine OpG.ar cok 0 rfl rfl rfl rfl rfl rfl (by first | omega | (simp; done) | (simp; omega)) (by first | omega | (simp; done) | (simp; omega)) rfl ?_) | (refine CondS.keep ?_; first | refine CondS.d1 rfl (by omega) ?_ | refine CondS.d0 rfl (by omega) ?_))
            exact ⟨i + 1, ⟨congrArg (fun L => (⟨I, ⟨b, 32, 5, updN _ 0 (ivs .u8 L)⟩ :: G⟩ : St)) hset, h32, rfl, rfl, rfl, rfl, rfl, rfl, trivial⟩, by show 32 - (i + 1) < 32 - i; omega⟩
      · by_cases hia : i < da.length
        · rcases (hb.mono (S' := ⟨I, ⟨b, 32, 5, updN (zc { kind := 1, size := 1, bytes := 1, zero := z_int__u8_0 }) 0 (ivs .u8 (bitL (fun x y => x ||| y) da db i))⟩ :: G⟩) (.refl _) (by simp)).cases with ⟨rfl, rfl⟩ | ⟨y, o', cap', rfl, m1, m2, m3, m4⟩
          · repeat (first | refine SeqS.go cok ?_ | refine CondS.t rfl ?_ | refine CondS.f rfl ?_ | refine And.intro (by omega) ?_ | (refine NatS.keep ?_; first | with_reducible refine NatS.nat ?_) | (refine ValS.keep ?_; first | (with_reducible refine ValS.kI64 ?_; first | (with_reducible refine ValS.addI64_L ?_ ?_ ; omega)) | (with_reducible refine ValS.kU8 ?_; first | (with_reducible refine ValS.orU8_L ?_ ?_ ?_ ; omega; omega))) | (refine OpG.keep ?_; first | refine OpG.ar cok 0 rfl rfl rfl rfl rfl rfl (by first | omega | (simp; done) | (simp; omega)) (by first | omega | (simp; done) | (simp; omega)) rfl ?_) | (refine QuG.keep ?_; first | refine QuG.bs cok (by assumption) (by assumption) rfl rfl rfl rfl (by omega) ?_) | (refine CondS.keep ?_; first | refine CondS.d1 rfl (by omega) ?_))
            exact ⟨i + 1, ⟨congrArg (fun L => (⟨I, ⟨b, 32, 5, updN _ 0 (ivs .u8 L)⟩ :: G⟩ : St)) hset, h32, rfl, rfl, rfl, rfl, rfl, rfl, trivial⟩, by show 32 - (i + 1) < 32 - i; omega⟩
          · by_cases hib : i < db.length
            · repeat (first | refine SeqS.go cok ?_ | refine CondS.t rfl ?_ | refine CondS.f rfl ?_ | refine And.intro (by omega) ?_ | (refine NatS.keep ?_; first | with_reducible refine NatS.nat ?_) | (refine ValS.keep ?_; first | (with_reducible refine ValS.kI64 ?_; first | (with_reducible refine ValS.addI64_L ?_ ?_ ; omega)) | (with_reducible refine ValS.kU8 ?_; first | (with_reducible refine ValS.orU8 ?_ ?_ ?_ ; omega; omega))) | (refine OpG.keep ?_; first | refine OpG.ar cok 0 rfl rfl rfl rfl rfl rfl (by first | omega | (simp; done) | (simp; omega)) (by first | omega | (simp; done) | (simp; omega)) rfl ?_) | (refine QuG.keep ?_; first | refine QuG.bs cok (by assumption) (by assumption) rfl rfl rfl rfl (by omega) ?_) | (refine CondS.keep ?_; first | refine CondS.d1 rfl (by omega) ?_))
              exact ⟨i + 1, ⟨congrArg (fun L => (⟨I, ⟨b, 32, 5, updN _ 0 (ivs .u8 L)⟩ :: G⟩ : St)) hset, h32, rfl, rfl, rfl, rfl, rfl, rfl, trivial⟩, by show 32 - (i + 1) < 32 - i; omega⟩
            · rw [getD_big hib] at hset
              repeat (first | refine SeqS.go cok ?_ | refine CondS.t rfl ?_ | refine CondS.f rfl ?_ | refine And.intro (by omega) ?_ | (refine NatS.keep ?_; first | with_reducible refine NatS.nat ?_) | (refine ValS.keep ?_; first | (with_reducible refine ValS.kI64 ?_; first | (with_reducible refine ValS.addI64_L ?_ ?_ ; omega)) | (with_reducible refine ValS.kU8 ?_; first | (with_reducible refine ValS.orU8_L ?_ ?_ ?_ ; omega; omega))) | (refine OpG.keep ?_; first | refine OpG.ar cok 0 rfl rfl rfl rfl rfl rfl (by first | omega | (simp; done) | (simp; omega)) (by first | omega | (simp; done) | (simp; omega)) rfl ?_) | (refine QuG.keep ?_; first | refine QuG.bs cok (by assumption) (by assumption) rfl rfl rfl rfl (by omega) ?_) | (refine CondS.keep ?_; first | refine CondS.d1 rfl (by omega) ?_ | refine CondS.d0 rfl (by omega) ?_))
              exact ⟨i + 1, ⟨congrArg (fun L => (⟨I, ⟨b, 32, 5, updN _ 0 (ivs .u8 L)⟩ :: G⟩ : St)) hset, h32, rfl, rfl, rfl, rfl, rfl, rfl, trivial⟩, by show 32 - (i + 1) < 32 - i; omega⟩
        · rw [getD_big hia] at hset
          rcases (hb.mono (S' := ⟨I, ⟨b, 32, 5, updN (zc { kind := 1, size := 1, bytes := 1, zero := z_int__u8_0 }) 0 (ivs .u8 (bitL (fun x y => x ||| y) da db i))⟩ :: G⟩) (.refl _) (by simp)).cases with ⟨rfl, rfl⟩ | ⟨y, o', cap', rfl, m1, m2, m3, m4⟩
          · repeat (first | (refine ValS.keep ?_; first | with_reducible refine ValS.orZ ?_) | refine SeqS.go cok ?_ | refine CondS.t rfl ?_ | refine CondS.f rfl ?_ | refine And.intro (by omega) ?_ | (refine NatS.keep ?_; first | with_reducible refine NatS.nat ?_) | (refine ValS.keep ?_; first | (with_reducible refine ValS.kI64 ?_; first | (with_reducible refine ValS.addI64_L ?_ ?_ ; omega))) | (refine OpG.keep ?_; first | refine OpG.ar cok 0 rfl rfl rfl rfl rfl rfl (by first | omega | (simp; done) | (simp; omega)) (by first | omega | (simp; done) | (simp; omega)) rfl ?_) | (refine CondS.keep ?_; first | refine CondS.d1 rfl (by omega) ?_ | refine CondS.d0 rfl (by omega) ?_))
            exact ⟨i + 1, ⟨congrArg (fun L => (⟨I, ⟨b, 32, 5, updN _ 0 (ivs .u8 L)⟩ :: G⟩ : St)) hset, h32, rfl, rfl, rfl, rfl, rfl, rfl, trivial⟩, by show 32 - (i + 1) < 32 - i; omega⟩
          · by_cases hib : i < db.length
            · repeat (first | refine SeqS.go cok ?_ | refine CondS.t rfl ?_ | refine CondS.f rfl ?_ | refine And.intro (by omega) ?_ | (refine NatS.keep ?_; first | with_reducible refine NatS.nat ?_) | (refine ValS.keep ?_; first | (with_reducible refine ValS.kI64 ?_; first | (with_reducible refine ValS.addI64_L ?_ ?_ ; omega)) | (with_reducible refine ValS.kU8 ?_; first | (with_reducible refine ValS.orU8_M ?_ ?_ ?_ ; omega; omega))) | (refine OpG.keep ?_; first | refine OpG.ar cok 0 rfl rfl rfl rfl rfl rfl (by first | omega | (simp; done) | (simp; omega)) (by first | omega | (simp; done) | (simp; omega)) rfl ?_) | (refine QuG.keep ?_; first | refine QuG.bs cok (by assumption) (by assumption) rfl rfl rfl rfl (by omega) ?_) | (refine CondS.keep ?_; first | refine CondS.d1 rfl (by omega) ?_ | refine CondS.d0 rfl (by omega) ?_))
              exact ⟨i + 1, ⟨congrArg (fun L => (⟨I, ⟨b, 32, 5, updN _ 0 (ivs .u8 L)⟩ :: G⟩ : St)) hset, h32, rfl, rfl, rfl, rfl, rfl, rfl, trivial⟩, by show 32 - (i + 1) < 32 - i; omega⟩
            · rw [getD_big hib] at hset
              repeat (first | (refine ValS.keep ?_; first | with_reducible refine ValS.orZ ?_) | refine SeqS.go cok ?_ | refine CondS.t rfl ?_ | refine CondS.f rfl ?_ | refine And.intro (by omega) ?_ | (refine NatS.keep ?_; first | with_reducible refine NatS.nat ?_) | (refine ValS.keep ?_; first | (with_reducible refine ValS.kI64 ?_; first | (with_reducible refine ValS.addI64_L ?_ ?_ ; omega))) | (refine OpG.keep ?_; first | refine OpG.ar cok 0 rfl rfl rfl rfl rfl rfl (by first | omega | (simp; done) | (simp; omega)) (by first | omega | (simp; done) | (simp; omega)) rfl ?_) | (refine CondS.keep ?_; first | refine CondS.d1 rfl (by omega) ?_ | refine CondS.d0 rfl (by omega) ?_))
              exact ⟨i + 1, ⟨congrArg (fun L => (⟨I, ⟨b, 32, 5, updN _ 0 (ivs .u8 L)⟩ :: G⟩ : St)) hset, h32, rfl, rfl, rfl, rfl, rfl, rfl, trivial⟩, by show 32 - (i + 1) < 32 - i; omega⟩
    · repeat (first | refine SeqS.go cok ?_ | (refine CondS.keep ?_; first | refine CondS.d0 rfl (by omega) ?_))
      obtain rfl : i = 32 := by omega
      exact ⟨rfl, rfl, trivial⟩
theorem yBitwiseXor {I : Ent → Prop} {G : List Ent} {v u : Value} {da db : List Nat} (ha : Byt ⟨I, []⟩ v da) (hb : Byt ⟨I, []⟩ u db) :
    CallG Hvaf.prog 356 #[.int .u8 24, v, u] ⟨I, G⟩ fun r S' => S'.G = G ∧ NatI S'.I r (val (bitL (fun x y => x ^^^ y) da db 32)) := by
  have h8 : ∀ d ∈ bitL (fun x y => x ^^^ y) da db 32, d < 256 := bitL_lt (fun x y hx hy => Nat.xor_lt_two_pow (n := 8) hx hy) ha.1 hb.1
  have hla := ha.2.1
  have hlb := hb.2.1
  refine CallG.start (C := mkC Hvaf.prog) cok (args := [.int .u8 24, v, u]) Hvaf.func356 rfl Hvaf.ntmps356 (by simp) (by kernel_rfl) ?_
  repeat (first | refine SeqS.go cok ?_ | refine And.intro (by dsimp only; omega) ?_ | (refine NatS.keep ?_; first | with_reducible refine NatS.lit ?_))
  intro b
  repeat (first | refine SeqS.go cok ?_)
  refine W.loopE cok (by kernel_rfl) 0 (fun (i : Nat) e' S' => S' = ⟨I, ⟨b, 32, 5, updN (zc { kind := 1, size := 1, bytes := 1, zero := z_int__u8_0 }) 0 (ivs .u8 (bitL (fun x y => x ^^^ y) da db i))⟩ :: G⟩ ∧ i ≤ 32 ∧
      slots [(0, .int .u8 24), (1, v), (2, u), (7, sl b 0 32 32), (13, .int .i64 32), (14, .int .i64 (i : Nat))] e') (fun i => 32 - i) 0
      ⟨?_, by omega, rfl, rfl, rfl, rfl, rfl, rfl, trivial⟩
      (fun e' S' => S' = ⟨I, ⟨b, 32, 5, updN (zc { kind := 1, size := 1, bytes := 1, zero := z_int__u8_0 }) 0 (ivs .u8 (bitL (fun x y => x ^^^ y) da db 32))⟩ :: G⟩ ∧ slots [(7, sl b 0 32 32)] e') ?_ ?_
  · refine congrArg (fun c => (⟨I, ⟨b, 32, 5, c⟩ :: G⟩ : St)) (updN_self ⟨fun i hi => ?_⟩).symm
    simp only [bitL, List.range_zero, List.map_nil, List.nil_append] at hi ⊢
    rw [ivs, List.getD_eq_getElem?_getD, List.getElem?_map, List.getElem?_replicate, if_pos (by simpa using hi)]; rfl
  · rintro e' S2 - ⟨rfl, hsl⟩
    refine SeqS.slots cok _ hsl fun e => ?_
    skip
    refine callN (Norm_spec (S := ⟨I, _ :: G⟩) (Byt.of_own (I := I) (bitL_len _ _ _ (Nat.le_refl _)) (by decide) h8 List.mem_cons_self) ?_) ?_
    · exact Nat.lt_of_lt_of_le (val_lt _ h8) (Nat.pow_le_pow_right (by decide) (by rw [bitL_len _ _ _ (Nat.le_refl _)]; decide))
    intro r J hs hr
    repeat (first | refine SeqS.go cok ?_)
    exact Fin.drop G [_] ⟨rfl, hr⟩
  · rintro i e' S2 - ⟨rfl, hi, hsl⟩
    refine W.slots _ hsl fun e => ?_
    by_cases h32 : i < 32
    · have hlen := bitL_len (fun x y => x ^^^ y) da db hi
      have hset := bitL_set (fun x y => x ^^^ y) da db h32
      have hax := getD_lt ha.1 i
      have hbx := getD_lt hb.1 i
      rcases (ha.mono (S' := ⟨I, ⟨b, 32, 5, updN (zc { kind := 1, size := 1, bytes := 1, zero := z_int__u8_0 }) 0 (ivs .u8 (bitL (fun x y => x ^^^ y) da db i))⟩ :: G⟩) (.refl _) (by simp)).cases with ⟨rfl, rfl⟩ | ⟨x, o, cap, rfl, k1, k2, k3, k4⟩
      · rcases (hb.mono (S' := ⟨I, ⟨b, 32, 5, updN (zc { kind := 1, size := 1, bytes := 1, zero := z_int__u8_0 }) 0 (ivs .u8 (bitL (fun x y => x ^^^ y) [] db i))⟩ :: G⟩) (.refl _) (by simp)).cases with ⟨rfl, rfl⟩ | ⟨y, o', cap', rfl, m1, m2, m3, m4⟩
        · repeat (first | (refine ValS.keep ?_; first | with_reducible refine ValS.xorZ ?_) | refine SeqS.go cok ?_ | refine CondS.t rfl ?_ | refine CondS.f rfl ?_ | refine And.intro (by omega) ?_ | (refine NatS.keep ?_; first | with_reducible refine NatS.nat ?_) | (refine ValS.keep ?_; first | (with_reducible refine ValS.kI64 ?_; first | (with_reducible refine ValS.addI64_L ?_ ?_ ; omega))) | (refine OpG.keep ?_; first | refine OpG.ar cok 0 rfl rfl rfl rfl rfl rfl (by first | omega | (simp; done) | (simp; omega)) (by first | omega | (simp; done) | (simp; omega)) rfl ?_) | (refine CondS.keep ?_; first | refine CondS.d1 rfl (by omega) ?_))
          exact ⟨i + 1, ⟨congrArg (fun L => (⟨I, ⟨b, 32, 5, updN _ 0 (ivs .u8 L)⟩ :: G⟩ : St)) hset, h32, rfl, rfl, rfl, rfl, rfl, rfl, trivial⟩, by show 32 - (i + 1) < 32 - i; omega⟩
        · by_cases hib : i < db.length
          · repeat (first | refine SeqS.go cok ?_ | refine CondS.t rfl ?_ | refine CondS.f rfl ?_ | refine And.intro (by omega) ?_ | (refine NatS.keep ?_; first | with_reducible refine NatS.nat ?_) | (refine ValS.keep ?_; first | (with_reducible refine ValS.kI64 ?_; first | (with_reducible refine ValS.addI64_L ?_ ?_ ; omega)) | (with_reducible refine ValS.kU8 ?_; first | (with_reducible refine ValS.xorU8_M ?_ ?_ ?_ ; omega; omega))) | (refine OpG.keep ?_; first | refine OpG.ar cok 0 rfl rfl rfl rfl rfl rfl (by first | omega | (simp; done) | (simp; omega)) (by first | omega | (simp; done) | (simp; omega)) rfl ?_) | (refine QuG.keep ?_; first | refine QuG.bs cok (by assumption) (by assumption) rfl rfl rfl rfl (by omega) ?_) | (refine CondS.keep ?_; first | refine CondS.d1 rfl (by omega) ?_))
            exact ⟨i + 1, ⟨congrArg (fun L => (⟨I, ⟨b, 32, 5, updN _ 0 (ivs .u8 L)⟩ :: G⟩ : St)) hset, h32, rfl, rfl, rfl, rfl, rfl, rfl, trivial⟩, by show 32 - (i + 1) < 32 - i; omega⟩
          · rw [getD_big hib] at hset
            repeat (first | (refine ValS.keep ?_; first | with_reducible refine ValS.xorZ ?_) | refine SeqS.go cok ?_ | refine CondS.t rfl ?_ | refine CondS.f rfl ?_ | refine And.intro (by omega) ?_ | (refine NatS.keep ?_; first | with_reducible refine NatS.nat ?_) | (refine ValS.keep ?_; first | (with_reducible refine ValS.kI64 ?_; first | (with_reducible refine ValS.addI64_L ?_ ?_ ; omega))) | (refine OpG.keep ?_; first | refine OpG.ar cok 0 rfl rfl rfl rfl rfl rfl (by first | omega | (simp; done) | (simp; omega)) (by first | omega | (simp; done) | (simp; omega)) rfl ?_) | (refine CondS.keep ?_; first | refine CondS.d1 rfl (by omega) ?_ | refine CondS.d0 rfl (by omega) ?_))
            exact ⟨i + 1, ⟨congrArg (fun L => (⟨I, ⟨b, 32, 5, updN _ 0 (ivs .u8 L)⟩ :: G⟩ : St)) hset, h32, rfl, rfl, rfl, rfl, rfl, rfl, trivial⟩, by show 32 - (i + 1) < 32 - i; omega⟩
      · by_cases hia : i < da.length
        · rcases (hb.mono (S' := ⟨I, ⟨b, 32, 5, updN (zc { kind := 1, size := 1, bytes := 1, zero := z_int__u8_0 }) 0 (ivs .u8 (bitL (fun x y => x ^^^ y) da db i))⟩ :: G⟩) (.refl _) (by simp)).cases with ⟨rfl, rfl⟩ | ⟨y, o', cap', rfl, m1, m2, m3, m4⟩
          · repeat (first | refine SeqS.go cok ?_ | refine CondS.t rfl ?_ | refine CondS.f rfl ?_ | refine And.intro (by omega) ?_ | (refine NatS.keep ?_; first | with_reducible refine NatS.nat ?_) | (refine ValS.keep ?_; first | (with_reducible refine ValS.kI64 ?_; first | (with_reducible refine ValS.addI64_L ?_ ?_ ; omega)) | (with_reducible refine ValS.kU8 ?_; first | (with_reducible refine ValS.xorU8_L ?_ ?_ ?_ ; omega; omega))) | (refine OpG.keep ?_; first | refine OpG.ar cok 0 rfl rfl rfl rfl rfl rfl (by first | omega | (simp; done) | (simp; omega)) (by first | omega | (simp; done) | (simp; omega)) rfl ?_) | (refine QuG.keep ?_; first | refine QuG.bs cok (by assumption) (by assumption) rfl rfl rfl rfl (by omega) ?_) | (refine CondS.keep ?_; first | refine CondS.d1 rfl (by omega) ?_))
            exact ⟨i + 1, ⟨congrArg (fun L => (⟨I, ⟨b, 32, 5, updN _ 0 (ivs .u8 L)⟩ :: G⟩ : St)) hset, h32, rfl, rfl, rfl, rfl, rfl, rfl, trivial⟩, by show 32 - (i + 1) < 32 - i; omega⟩
          · by_cases hib : i < db.length
            · repeat (first | refine SeqS.go cok ?_ | refine CondS.t rfl ?_ | refine CondS.f rfl ?_ | refine And.intro (by omega) ?_ | (refine NatS.keep ?_; first | with_reducible refine NatS.nat ?_) | (refine ValS.keep ?_; first | (with_reducible refine ValS.kI64 ?_; first | (with_reducible refine ValS.addI64_L ?_ ?_ ; omega)) | (with_reducible refine ValS.kU8 ?_; first | (with_reducible refine ValS.xorU8 ?_ ?_ ?_ ; omega; omega))) | (refine OpG.keep ?_; first | refine OpG.ar cok 0 rfl rfl rfl rfl rfl rfl (by first | omega | (simp; done) | (simp; omega)) (by first | omega | (simp; done) | (simp; omega)) rfl ?_) | (refine QuG.keep ?_; first | refine QuG.bs cok (by assumption) (by assumption) rfl rfl rfl rfl (by omega) ?_) | (refine CondS.keep ?_; first | refine CondS.d1 rfl (by omega) ?_))
              exact ⟨i + 1, ⟨congrArg (fun L => (⟨I, ⟨b, 32, 5, updN _ 0 (ivs .u8 L)⟩ :: G⟩ : St)) hset, h32, rfl, rfl, rfl, rfl, rfl, rfl, trivial⟩, by show 32 - (i + 1) < 32 - i; omega⟩
            · rw [getD_big hib] at hset
              repeat (first | refine SeqS.go cok ?_ | refine CondS.t rfl ?_ | refine CondS.f rfl ?_ | refine And.intro (by omega) ?_ | (refine NatS.keep ?_; first | with_reducible refine NatS.nat ?_) | (refine ValS.keep ?_; first | (with_reducible refine ValS.kI64 ?_; first | (with_reducible refine ValS.addI64_L ?_ ?_ ; omega)) | (with_reducible refine ValS.kU8 ?_; first | (with_reducible refine ValS.xorU8_L ?_ ?_ ?_ ; omega; omega))) | (refine OpG.keep ?_; first | refine OpG.ar cok 0 rfl rfl rfl rfl rfl rfl (by first | omega | (simp; done) | (simp; omega)) (by first | omega | (simp; done) | (simp; omega)) rfl ?_) | (refine QuG.keep ?_; first | refine QuG.bs cok (by assumption) (by assumption) rfl rfl rfl rfl (by omega) ?_) | (refine CondS.keep ?_; first | refine CondS.d1 rfl (by omega) ?_ | refine CondS.d0 rfl (by omega) ?_))
              exact ⟨i + 1, ⟨congrArg (fun L => (⟨I, ⟨b, 32, 5, updN _ 0 (ivs .u8 L)⟩ :: G⟩ : St)) hset, h32, rfl, rfl, rfl, rfl, rfl, rfl, trivial⟩, by show 32 - (i + 1) < 32 - i; omega⟩
        · rw [getD_big hia] at hset
          rcases (hb.mono (S' := ⟨I, ⟨b, 32, 5, updN (zc { kind := 1, size := 1, bytes := 1, zero := z_int__u8_0 }) 0 (ivs .u8 (bitL (fun x y => x ^^^ y) da db i))⟩ :: G⟩) (.refl _) (by simp)).cases with ⟨rfl, rfl⟩ | ⟨y, o', cap', rfl, m1, m2, m3, m4⟩
          · repeat (first | (refine ValS.keep ?_; first | with_reducible refine ValS.xorZ ?_) | refine SeqS.go cok ?_ | refine CondS.t rfl ?_ | refine CondS.f rfl ?_ | refine And.intro (by omega) ?_ | (refine NatS.keep ?_; first | with_reducible refine NatS.nat ?_) | (refine ValS.keep ?_; first | (with_reducible refine ValS.kI64 ?_; first | (with_reducible refine ValS.addI64_L ?_ ?_ ; omega))) | (refine OpG.keep ?_; first | refine OpG.ar cok 0 rfl rfl rfl rfl rfl rfl (by first | omega | (simp; done) | (simp; omega)) (by first | omega | (simp; done) | (simp; omega)) rfl ?_) | (refine CondS.keep ?_; first | refine CondS.d1 rfl (by omega) ?_ | refine CondS.d0 rfl (by omega) ?_))
            exact ⟨i + 1, ⟨congrArg (fun L => (⟨I, ⟨b, 32, 5, updN _ 0 (ivs .u8 L)⟩ :: G⟩ : St)) hset, h32, rfl, rfl, rfl, rfl, rfl, rfl, trivial⟩, by show 32 - (i + 1) < 32 - i; omega⟩
          · by_cases hib : i < db.length
            · repeat (first | refine SeqS.go cok ?_ | refine CondS.t rfl ?_ | refine CondS.f rfl ?_ | refine And.intro (by omega) ?_ | (refine NatS.keep ?_; first | with_reducible refine NatS.nat ?_) | (refine ValS.keep ?_; first | (with_reducible refine ValS.kI64 ?_; first | (with_reducible refine ValS.addI64_L ?_ ?_ ; omega)) | (with_reducible refine ValS.kU8 ?_; first | (with_reducible refine ValS.xorU8_M ?_ ?_ ?_ ; omega; omega))) | (refine OpG.keep ?_; first | refine OpG.ar cok 0 rfl rfl rfl rfl rfl rfl (by first | omega | (simp; done) | (simp; omega)) (by first | omega | (simp; done) | (simp; omega)) rfl ?_) | (refine QuG.keep ?_; first | refine QuG.bs cok (by assumption) (by assumption) rfl rfl rfl rfl (by omega) ?_) | (refine CondS.keep ?_; first | refine CondS.d1 rfl (by omega) ?_ | refine CondS.d0 rfl (by omega) ?_))
              exact ⟨i + 1, ⟨congrArg (fun L => (⟨I, ⟨b, 32, 5, updN _ 0 (ivs .u8 L)⟩ :: G⟩ : St)) hset, h32, rfl, rfl, rfl, rfl, rfl, rfl, trivial⟩, by show 32 - (i + 1) < 32 - i; omega⟩
            · rw [getD_big hib] at hset
              repeat (first | (refine ValS.keep ?_; first | with_reducible refine ValS.xorZ ?_) | refine SeqS.go cok ?_ | refine CondS.t rfl ?_ | refine CondS.f rfl ?_ | refine And.intro (by omega) ?_ | (refine NatS.keep ?_; first | with_reducible refine NatS.nat ?_) | (refine ValS.keep ?_; first | (with_reducible refine ValS.kI64 ?_; first | (with_reducible refine ValS.addI64_L ?_ ?_ ; omega))) | (refine OpG.keep ?_; first | refine OpG.ar cok 0 rfl rfl rfl rfl rfl rfl (by first | omega | (simp; done) | (simp; omega)) (by first | omega | (simp; done) | (simp; omega)) rfl ?_) | (refine CondS.keep ?_; first | refine CondS.d1 rfl (by omega) ?_ | refine CondS.d0 rfl (by omega) ?_))
              exact ⟨i + 1, ⟨congrArg (fun L => (⟨I, ⟨b, 32, 5, updN _ 0 (ivs .u8 L)⟩ :: G⟩ : St)) hset, h32, rfl, rfl, rfl, rfl, rfl, rfl, trivial⟩, by show 32 - (i + 1) < 32 - i; omega⟩
    · repeat (first | refine SeqS.go cok ?_ | (refine CondS.keep ?_; first | refine CondS.d0 rfl (by omega) ?_))
      obtain rfl : i = 32 := by omega
      exact ⟨rfl, rfl, trivial⟩
end Go.Proofs.YgvafwGreat
