import Derived.Test.YgvafwGreatV6b
set_option exponentiation.threshold 1000
set_option maxRecDepth 100000
set_option maxHeartbeats 4000000
set_option linter.unusedVariables false
set_option linter.unusedSimpArgs false
-- v2
-- v4
-- v5
-- v6
-- v7
namespace Go.Proofs.YgvafwGreat
open Go.HL Go.Proofs

def Vl.it (V : Vl) (key : Nat) : Nat := V.tp.findIdx fun x => x.key == key
theorem VOk.itE {V : Vl} (h : VOk V) {a : Nat} {i : Nat} (hi : i < V.tp.length) (he : (V.tp.getD i dVT).key = a) : V.it a = i := by
  have h1 : V.it a < V.tp.length := List.findIdx_lt_length_of_exists ⟨_, getD_mem (d := dVT) hi, by simpa using he⟩
  have h2 : (V.tp[V.it a]'h1).key = a := by
    have := List.findIdx_getElem (xs := V.tp) (p := fun (x : VTp) => x.key == a) (w := h1)
    exact beq_iff_eq.1 this
  have hn := h.tnd
  rw [List.getD_eq_getElem?_getD, List.getElem?_eq_getElem hi, Option.getD_some] at he
  have h3 : (V.tp.map VTp.key)[V.it a]'(by simpa using h1) = (V.tp.map VTp.key)[i]'(by simpa using hi) := by simp [h2, he]
  exact (List.getElem_inj hn).1 h3
theorem Vl.itY {V : Vl} {a : Nat} (h1 : V.it a < V.tp.length) : (V.tp.getD (V.it a) dVT).key = a := by
  have := List.findIdx_getElem (xs := V.tp) (p := fun (x : VTp) => x.key == a) (w := h1)
  rw [List.getD_eq_getElem?_getD, List.getElem?_eq_getElem h1, Option.getD_some]
  exact beq_iff_eq.1 this
theorem Vl.itN {V : Vl} {a : Nat} (h1 : ¬ V.it a < V.tp.length) {i : Nat} (hi : i < V.tp.length) : (V.tp.getD i dVT).key ≠ a := by
  intro he
  exact h1 (List.findIdx_lt_length_of_exists ⟨_, getD_mem (d := dVT) hi, by simpa using he⟩)
/-- vault.Vault.findTemp, where the slot is there -/
theorem vFindTY {I : Ent → Prop} {R G : List Ent} {cb sz : Nat} {T : TypeId} {c : Nat → Value} {V : Vl} {key : Nat} (hsz : 27019 ≤ sz) (hV : VI I c V G) (hO : VOk V) (hk : key < 115792089237316195423570985008687907853269984665640564039457584007913129639936) (hi : V.it key < V.tp.length) :
    CallG Hvaf.prog 392 #[ptr cb 2435, .int .i32 ((0 : Nat) : Int), wordV key] ⟨I, ⟨cb, sz, T, c⟩ :: (R ++ G)⟩ fun r S' => ⟨I, ⟨cb, sz, T, c⟩ :: (R ++ G)⟩ = S' ∧ r = .tuple #[.int .i32 (V.it key : Nat), .int .i32 (-1)] := by
  have hl := look_yes (ok := V.okT key) hO.ttt hi (h := mixN 0 key % 16384) (by rw [Vl.itY hi]) (by show ((V.tp.getD (V.it key) dVT).key == key) = true; rw [Vl.itY hi]; simp) (fun j hj he => (hO.itE hj (by simpa [Vl.okT] using he)).symm) 16384 0 rfl (by omega)
  rw [Nat.add_zero, Nat.mod_mod] at hl
  rcases hV.ttc with ⟨_, h0⟩ | ⟨b, ct, h1, h2, h3⟩
  · rw [h0] at hi; simp at hi
  have := vFindT0 (R := R) (cb := cb) (T := T) hsz hV hO hk h1 h2 h3
  rw [hl] at this
  exact this
theorem vFindTN {I : Ent → Prop} {R G : List Ent} {cb sz tb : Nat} {T : TypeId} {c ct : Nat → Value} {V : Vl} {key : Nat} (hsz : 27019 ≤ sz) (hV : VI I c V G) (hO : VOk V) (hk : key < 115792089237316195423570985008687907853269984665640564039457584007913129639936) (hi : ¬ V.it key < V.tp.length) (hct0 : c 27018 = sl tb 0 16384 16384) (htm : (⟨tb, 16384, 21, ct⟩ : Ent) ∈ G) (hct : ∀ p, p < 16384 → ct p = .int .i32 (V.tt p)) :
    ∃ p, FreeAt 16384 V.tt (mixN 0 key % 16384) p ∧ CallG Hvaf.prog 392 #[ptr cb 2435, .int .i32 ((0 : Nat) : Int), wordV key] ⟨I, ⟨cb, sz, T, c⟩ :: (R ++ G)⟩ fun r S' => ⟨I, ⟨cb, sz, T, c⟩ :: (R ++ G)⟩ = S' ∧ r = .tuple #[.int .i32 (-1), .int .i32 (p : Nat)] := by
  obtain ⟨p, hp, hl⟩ := look_no (ok := V.okT key) (h := mixN 0 key % 16384) hO.ttt (by have := hO.tln; omega) (fun j hj => by simpa [Vl.okT] using Vl.itN hi hj) 16384 0 rfl (by omega)
  rw [Nat.add_zero, Nat.mod_mod] at hl
  have := vFindT0 (R := R) (cb := cb) (T := T) hsz hV hO hk hct0 htm hct
  rw [hl] at this
  exact ⟨p, hp, this⟩
/-- findTemp, where the slot is not there, whether or not there is a table -/
theorem vFindTM {I : Ent → Prop} {R G : List Ent} {cb sz : Nat} {T : TypeId} {c : Nat → Value} {V : Vl} {key : Nat} (hsz : 27019 ≤ sz) (hV : VI I c V G) (hO : VOk V) (hk : key < 115792089237316195423570985008687907853269984665640564039457584007913129639936) (hi : ¬ V.it key < V.tp.length) :
    ∃ z : Int, CallG Hvaf.prog 392 #[ptr cb 2435, .int .i32 ((0 : Nat) : Int), wordV key] ⟨I, ⟨cb, sz, T, c⟩ :: (R ++ G)⟩ fun r S' => ⟨I, ⟨cb, sz, T, c⟩ :: (R ++ G)⟩ = S' ∧ r = .tuple #[.int .i32 (-1), .int .i32 z] := by
  rcases hV.ttc with ⟨h1, _⟩ | ⟨b, ct, h1, h2, h3⟩
  · exact ⟨-1, vFindTn hsz h1⟩
  · obtain ⟨p, _, h⟩ := vFindTN (R := R) (cb := cb) (T := T) hsz hV hO hk hi h1 h2 h3
    exact ⟨p, h⟩
/-- The transient slot's value, zero if there is none. -/
def Vl.tmp (V : Vl) (key : Nat) : VTp := V.tp.getD (V.it key) dVT
theorem Vl.tmpN {V : Vl} {a : Nat} (h1 : ¬ V.it a < V.tp.length) : V.tmp a = dVT := by
  unfold Vl.tmp
  rw [List.getD_eq_getElem?_getD, List.getElem?_eq_none (by omega)]; rfl
theorem Vl.tmpY {V : Vl} {a : Nat} (h1 : V.it a < V.tp.length) : V.tmp a ∈ V.tp := getD_mem h1
/-- vault.Vault.TLoad -/
theorem vTLoad {I : Ent → Prop} {R G : List Ent} {cb sz key : Nat} {T : TypeId} {c : Nat → Value} {V : Vl} {a : List Nat} (hsz : 27019 ≤ sz) (hV : VI I c V G) (hO : VOk V) (ha : AdOk a) (h0 : V.ix a = 0) (h1 : 0 < V.ac.length) (hk : key < 115792089237316195423570985008687907853269984665640564039457584007913129639936) :
    CallG Hvaf.prog 320 #[ptr cb 2435, bytesV a, wordV key] ⟨I, ⟨cb, sz, T, c⟩ :: (R ++ G)⟩ fun r S' => ⟨I, ⟨cb, sz, T, c⟩ :: (R ++ G)⟩ = S' ∧ r = wordV (V.tmp key).val := by
  have hal := ha.len
  have hab := ha.bv
  have hln := hO.tln
  have hbl : (wcs key).length = 4 := rfl
  have hfn := vFindY (R := R) (cb := cb) (T := T) hsz hV hO ha (by omega)
  rw [h0] at hfn
  by_cases hi : V.it key < V.tp.length
  · have hft := vFindTY (R := R) (cb := cb) (T := T) hsz hV hO hk hi
    have hi' : V.it key < (V.tp.map VTp.enc).length := by rw [List.length_map]; exact hi
    obtain ⟨x, cap', hxG, hf', hE⟩ := hV.tpc.2 (by omega)
    have hrd3 : ∀ (a b d : Ent), Rd ⟨I, a :: b :: d :: (⟨cb, sz, T, c⟩ :: (R ++ G))⟩ x := fun _ _ _ => .inr (by simp [hxG])
    have hev : (((V.tp.map VTp.enc).getD (V.it key) []).drop 5).take 4 = wcs (V.tmp key).val := by
      rw [getD_map (d := dVT) hi]; rfl
    have lv : (wcs (V.tmp key).val).length = 4 := rfl
    have ov := wcs_one (V.tmp key).val
    rw [← wcs_word (V.tmp key).val]
    generalize wcs (V.tmp key).val = vv at *
    generalize V.it key = i at *
    rw [← wcs_word] at hft
    rw [← wcs_word]
    generalize wcs key = kv at *
    refine CallG.start (C := mkC Hvaf.prog) cok (args := [ptr cb 2435, bytesV a, .agg kv.toArray]) Hvaf.func320 rfl Hvaf.ntmps320 (by simp) (by kernel_rfl) ?_
    intro xb kb rb
    repeat (first | (refine QuG.keep ?_; first | refine QuG.boxL cok 2 rfl rfl rfl rfl rfl (by assumption) ?_) | refine SeqS.go cok ?_)
    refine CallG.sameL [_, _, _] hfn ?_
    repeat (first | (refine QuG.keep ?_; first | refine QuG.boxL cok 1 rfl rfl rfl rfl rfl (by assumption) ?_) | refine SeqS.go cok ?_ | refine CondS.f rfl ?_)
    refine CallG.sameL [_, _, _] hft ?_
    repeat (first | (refine QuG.keep ?_; first | refine QuG.elS cok hE (hrd3 _ _ _) rfl rfl rfl rfl (by simp only [addS_eq, mulS_eq] <;> omega) hi' (by decide) hev ?_) | (refine QuG.keep ?_; first | refine QuG.l1E cok 3 rfl rfl rfl rfl rfl (by first | exact Nat.le_of_ble_eq_true rfl | omega | (dsimp only; omega) | (simp only [addS_eq, mulS_eq]; omega)) (by assumption) ?_) | (refine OpG.keep ?_; first | refine OpG.upS cok 0 rfl rfl rfl rfl rfl (by assumption) (by first | assumption | exact one_bvs _) (by first | exact Nat.le_of_ble_eq_true rfl | omega) ?_) | (refine LdG.keep ?_; first | refine LdG.upL cok 0 rfl rfl rfl rfl rfl rfl (by assumption) (by first | exact Nat.le_of_ble_eq_true rfl | omega) ?_) | refine SeqS.go cok ?_ | refine CondS.t rfl ?_ | refine And.intro (by omega) ?_ | (refine NatS.keep ?_; first | with_reducible refine NatS.nat ?_))
    exact Fin.drop (⟨cb, sz, T, c⟩ :: (R ++ G)) [_, _, _] ⟨rfl, rfl⟩
  · obtain ⟨z, hft⟩ := vFindTM (R := R) (cb := cb) (T := T) hsz hV hO hk hi
    rw [Vl.tmpN hi]
    rw [← wcs_word] at hft
    rw [← wcs_word key]
    generalize wcs key = kv at *
    refine CallG.start (C := mkC Hvaf.prog) cok (args := [ptr cb 2435, bytesV a, .agg kv.toArray]) Hvaf.func320 rfl Hvaf.ntmps320 (by simp) (by kernel_rfl) ?_
    intro xb kb rb
    repeat (first | (refine QuG.keep ?_; first | refine QuG.boxL cok 2 rfl rfl rfl rfl rfl (by assumption) ?_) | refine SeqS.go cok ?_)
    refine CallG.sameL [_, _, _] hfn ?_
    repeat (first | (refine QuG.keep ?_; first | refine QuG.boxL cok 1 rfl rfl rfl rfl rfl (by assumption) ?_) | refine SeqS.go cok ?_ | refine CondS.f rfl ?_)
    refine CallG.sameL [_, _, _] hft ?_
    repeat (first | refine SeqS.go cok ?_ | refine CondS.f rfl ?_ | refine And.intro (fillOk_of (Eq.refl true)) ?_ | (refine LdG.keep ?_; first | refine LdG.lN cok 0 rfl rfl rfl rfl rfl (by first | exact Nat.le_of_ble_eq_true rfl | omega | (dsimp only; omega) | (simp only [addS_eq, mulS_eq]; omega)) ?_) | (refine OpG.keep ?_; first | refine OpG.sL cok 0 rfl rfl rfl rfl rfl rfl rfl (by first | exact Nat.le_of_ble_eq_true rfl | omega | (dsimp only; omega) | (simp only [addS_eq, mulS_eq]; omega)) ?_))
    exact Fin.drop (⟨cb, sz, T, c⟩ :: (R ++ G)) [_, _, _] ⟨rfl, rfl⟩
end Go.Proofs.YgvafwGreat
