import Derived.Test.YgvafwGreatV5
set_option exponentiation.threshold 1000
set_option maxRecDepth 100000
set_option maxHeartbeats 4000000
set_option linter.unusedVariables false
set_option linter.unusedSimpArgs false
-- v2
-- v4
-- v5
-- v6
-- v7
namespace Go.Proofs.YgvafwGreat
open Go.HL Go.Proofs

def Vl.is (V : Vl) (key : Nat) : Nat := V.sl.findIdx fun x => x.key == key
theorem VOk.isE {V : Vl} (h : VOk V) {a : Nat} {i : Nat} (hi : i < V.sl.length) (he : (V.sl.getD i dVS).key = a) : V.is a = i := by
  have h1 : V.is a < V.sl.length := List.findIdx_lt_length_of_exists ⟨_, getD_mem (d := dVS) hi, by simpa using he⟩
  have h2 : (V.sl[V.is a]'h1).key = a := by
    have := List.findIdx_getElem (xs := V.sl) (p := fun (x : VSl) => x.key == a) (w := h1)
    exact beq_iff_eq.1 this
  have hn := h.snd
  rw [List.getD_eq_getElem?_getD, List.getElem?_eq_getElem hi, Option.getD_some] at he
  have h3 : (V.sl.map VSl.key)[V.is a]'(by simpa using h1) = (V.sl.map VSl.key)[i]'(by simpa using hi) := by simp [h2, he]
  exact (List.getElem_inj hn).1 h3
theorem Vl.isY {V : Vl} {a : Nat} (h1 : V.is a < V.sl.length) : (V.sl.getD (V.is a) dVS).key = a := by
  have := List.findIdx_getElem (xs := V.sl) (p := fun (x : VSl) => x.key == a) (w := h1)
  rw [List.getD_eq_getElem?_getD, List.getElem?_eq_getElem h1, Option.getD_some]
  exact beq_iff_eq.1 this
theorem Vl.isN {V : Vl} {a : Nat} (h1 : ¬ V.is a < V.sl.length) {i : Nat} (hi : i < V.sl.length) : (V.sl.getD i dVS).key ≠ a := by
  intro he
  exact h1 (List.findIdx_lt_length_of_exists ⟨_, getD_mem (d := dVS) hi, by simpa using he⟩)
/-- vault.Vault.findSlot, where the slot is there -/
theorem vFindSY {I : Ent → Prop} {R G : List Ent} {cb sz : Nat} {T : TypeId} {c : Nat → Value} {V : Vl} {key : Nat} (hsz : 27019 ≤ sz) (hV : VI I c V G) (hO : VOk V) (hk : key < 115792089237316195423570985008687907853269984665640564039457584007913129639936) (hi : V.is key < V.sl.length) :
    CallG Hvaf.prog 170 #[ptr cb 2435, .int .i32 ((0 : Nat) : Int), wordV key] ⟨I, ⟨cb, sz, T, c⟩ :: (R ++ G)⟩ fun r S' => ⟨I, ⟨cb, sz, T, c⟩ :: (R ++ G)⟩ = S' ∧ r = .tuple #[.int .i32 (V.is key : Nat), .int .i32 (-1)] := by
  have hl := look_yes (ok := V.okS key) hO.sts hi (h := mixN 0 key % 4096) (by rw [Vl.isY hi]) (by show ((V.sl.getD (V.is key) dVS).key == key) = true; rw [Vl.isY hi]; simp) (fun j hj he => (hO.isE hj (by simpa [Vl.okS] using he)).symm) 4096 0 rfl (by omega)
  rw [Nat.add_zero, Nat.mod_mod] at hl
  have := vFindS0 (R := R) (cb := cb) (T := T) hsz hV hO hk
  rw [hl] at this
  exact this
theorem vFindSN {I : Ent → Prop} {R G : List Ent} {cb sz : Nat} {T : TypeId} {c : Nat → Value} {V : Vl} {key : Nat} (hsz : 27019 ≤ sz) (hV : VI I c V G) (hO : VOk V) (hk : key < 115792089237316195423570985008687907853269984665640564039457584007913129639936) (hi : ¬ V.is key < V.sl.length) :
    ∃ p, FreeAt 4096 V.ts (mixN 0 key % 4096) p ∧ CallG Hvaf.prog 170 #[ptr cb 2435, .int .i32 ((0 : Nat) : Int), wordV key] ⟨I, ⟨cb, sz, T, c⟩ :: (R ++ G)⟩ fun r S' => ⟨I, ⟨cb, sz, T, c⟩ :: (R ++ G)⟩ = S' ∧ r = .tuple #[.int .i32 (-1), .int .i32 (p : Nat)] := by
  obtain ⟨p, hp, hl⟩ := look_no (ok := V.okS key) (h := mixN 0 key % 4096) hO.sts (by have := hO.sln; omega) (fun j hj => by simpa [Vl.okS] using Vl.isN hi hj) 4096 0 rfl (by omega)
  rw [Nat.add_zero, Nat.mod_mod] at hl
  have := vFindS0 (R := R) (cb := cb) (T := T) hsz hV hO hk
  rw [hl] at this
  exact ⟨p, hp, this⟩
/-- The slot, zeros if there is none. -/
def Vl.slt (V : Vl) (key : Nat) : VSl := V.sl.getD (V.is key) dVS
theorem Vl.sltN {V : Vl} {a : Nat} (h1 : ¬ V.is a < V.sl.length) : V.slt a = dVS := by
  unfold Vl.slt
  rw [List.getD_eq_getElem?_getD, List.getElem?_eq_none (by omega)]; rfl
theorem Vl.sltY {V : Vl} {a : Nat} (h1 : V.is a < V.sl.length) : V.slt a ∈ V.sl := getD_mem h1
/-- vault.Vault.peekSlot -/
theorem vPeekSlot {I : Ent → Prop} {R G : List Ent} {cb sz key : Nat} {T : TypeId} {c : Nat → Value} {V : Vl} {a : List Nat} (hsz : 27019 ≤ sz) (hV : VI I c V G) (hO : VOk V) (ha : AdOk a) (h0 : V.ix a = 0) (h1 : 0 < V.ac.length) (hk : key < 115792089237316195423570985008687907853269984665640564039457584007913129639936) :
    CallG Hvaf.prog 257 #[ptr cb 2435, bytesV a, wordV key] ⟨I, ⟨cb, sz, T, c⟩ :: (R ++ G)⟩ fun r S' => ⟨I, ⟨cb, sz, T, c⟩ :: (R ++ G)⟩ = S' ∧ r = .int .i32 (if V.is key < V.sl.length then (V.is key : Int) else -1) := by
  have hal := ha.len
  have hab := ha.bv
  have hbl : (wcs key).length = 4 := rfl
  have hfn := vFindY (R := R) (cb := cb) (T := T) hsz hV hO ha (by omega)
  rw [h0] at hfn
  by_cases hi : V.is key < V.sl.length
  · have hfs := vFindSY (R := R) (cb := cb) (T := T) hsz hV hO hk hi
    rw [if_pos hi]
    rw [← wcs_word] at *
    generalize wcs key = kv at *
    refine CallG.start (C := mkC Hvaf.prog) cok (args := [ptr cb 2435, bytesV a, .agg kv.toArray]) Hvaf.func257 rfl Hvaf.ntmps257 (by simp) (by kernel_rfl) ?_
    intro xb kb
    repeat (first | (refine QuG.keep ?_; first | refine QuG.boxL cok 1 rfl rfl rfl rfl rfl (by assumption) ?_) | refine SeqS.go cok ?_)
    refine CallG.sameL [_, _] hfn ?_
    repeat (first | (refine QuG.keep ?_; first | refine QuG.boxL cok 0 rfl rfl rfl rfl rfl (by assumption) ?_) | refine SeqS.go cok ?_ | refine CondS.f rfl ?_)
    refine CallG.sameL [_, _] hfs ?_
    repeat (first | refine SeqS.go cok ?_)
    exact Fin.drop (⟨cb, sz, T, c⟩ :: (R ++ G)) [_, _] ⟨rfl, rfl⟩
  · obtain ⟨p, hp, hfs⟩ := vFindSN (R := R) (cb := cb) (T := T) hsz hV hO hk hi
    rw [if_neg hi]
    rw [← wcs_word] at *
    generalize wcs key = kv at *
    refine CallG.start (C := mkC Hvaf.prog) cok (args := [ptr cb 2435, bytesV a, .agg kv.toArray]) Hvaf.func257 rfl Hvaf.ntmps257 (by simp) (by kernel_rfl) ?_
    intro xb kb
    repeat (first | (refine QuG.keep ?_; first | refine QuG.boxL cok 1 rfl rfl rfl rfl rfl (by assumption) ?_) | refine SeqS.go cok ?_)
    refine CallG.sameL [_, _] hfn ?_
    repeat (first | (refine QuG.keep ?_; first | refine QuG.boxL cok 0 rfl rfl rfl rfl rfl (by assumption) ?_) | refine SeqS.go cok ?_ | refine CondS.f rfl ?_)
    refine CallG.sameL [_, _] hfs ?_
    repeat (first | refine SeqS.go cok ?_)
    exact Fin.drop (⟨cb, sz, T, c⟩ :: (R ++ G)) [_, _] ⟨rfl, rfl⟩
/-- vault.Vault.IsWarmSlot -/
theorem vIsWarmSlot {I : Ent → Prop} {R G : List Ent} {cb sz key : Nat} {T : TypeId} {c : Nat → Value} {V : Vl} {a : List Nat} (hsz : 27019 ≤ sz) (hV : VI I c V G) (hO : VOk V) (ha : AdOk a) (h0 : V.ix a = 0) (h1 : 0 < V.ac.length) (hk : key < 115792089237316195423570985008687907853269984665640564039457584007913129639936) :
    CallG Hvaf.prog 184 #[ptr cb 2435, bytesV a, wordV key] ⟨I, ⟨cb, sz, T, c⟩ :: (R ++ G)⟩ fun r S' => ⟨I, ⟨cb, sz, T, c⟩ :: (R ++ G)⟩ = S' ∧ r = .bool (V.slt key).warm := by
  have hal := ha.len
  have hab := ha.bv
  have hln := hO.sln
  have hbl : (wcs key).length = 4 := rfl
  have hps := vPeekSlot (R := R) (cb := cb) (T := T) hsz hV hO ha h0 h1 hk
  by_cases hi : V.is key < V.sl.length
  · rw [if_pos hi] at hps
    have hi' : V.is key < (V.sl.map VSl.enc).length := by rw [List.length_map]; exact hi
    obtain ⟨x, cap', hxG, hf', hE⟩ := hV.slc.2 (by omega)
    have hrd : ∀ L, Rd ⟨I, L ++ (⟨cb, sz, T, c⟩ :: (R ++ G))⟩ x := fun L => .inr (by simp [hxG])
    have hen : ((V.sl.map VSl.enc).getD (V.is key) []).getD 13 undef = .bool (V.slt key).warm := by
      rw [getD_map (d := dVS) hi]; rfl
    rw [← wcs_word] at *
    generalize V.slt key = ys at *
    generalize V.is key = i at *
    generalize wcs key = kv at *
    refine CallG.start (C := mkC Hvaf.prog) cok (args := [ptr cb 2435, bytesV a, .agg kv.toArray]) Hvaf.func184 rfl Hvaf.ntmps184 (by simp) (by kernel_rfl) ?_
    intro xb kb
    repeat (first | (refine QuG.keep ?_; first | refine QuG.boxL cok 0 rfl rfl rfl rfl rfl (by assumption) ?_ | refine QuG.boxL cok 1 rfl rfl rfl rfl rfl (by assumption) ?_) | refine SeqS.go cok ?_)
    refine CallG.sameL [_, _] hps ?_
    repeat (first | (refine QuG.keep ?_; refine QuG.elF cok hE (hrd [⟨_, _, _, _⟩, ⟨_, _, _, _⟩]) rfl rfl rfl rfl (by simp only [addS_eq, mulS_eq]) hi' (by decide) hen ?_) | (refine QuG.keep ?_; first | refine QuG.l1E cok 2 rfl rfl rfl rfl rfl (by first | exact Nat.le_of_ble_eq_true rfl | omega | (dsimp only; omega) | (simp only [addS_eq, mulS_eq]; omega)) (by assumption) ?_) | refine SeqS.go cok ?_ | refine GuardS.yes rfl ?_ | refine And.intro (by omega) ?_ | (refine NatS.keep ?_; first | with_reducible refine NatS.nat ?_))
    exact Fin.drop (⟨cb, sz, T, c⟩ :: (R ++ G)) [_, _] ⟨rfl, rfl⟩
  · rw [if_neg hi] at hps
    rw [Vl.sltN hi]
    rw [← wcs_word] at *
    generalize wcs key = kv at *
    refine CallG.start (C := mkC Hvaf.prog) cok (args := [ptr cb 2435, bytesV a, .agg kv.toArray]) Hvaf.func184 rfl Hvaf.ntmps184 (by simp) (by kernel_rfl) ?_
    intro xb kb
    repeat (first | (refine QuG.keep ?_; first | refine QuG.boxL cok 0 rfl rfl rfl rfl rfl (by assumption) ?_ | refine QuG.boxL cok 1 rfl rfl rfl rfl rfl (by assumption) ?_) | refine SeqS.go cok ?_)
    refine CallG.sameL [_, _] hps ?_
    repeat (first | refine SeqS.go cok ?_ | refine GuardS.no rfl ?_)
    exact Fin.drop (⟨cb, sz, T, c⟩ :: (R ++ G)) [_, _] ⟨rfl, rfl⟩
end Go.Proofs.YgvafwGreat
