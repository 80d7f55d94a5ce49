import Derived.Test.YgvafwGreatV4
set_option exponentiation.threshold 1000
set_option maxRecDepth 100000
set_option maxHeartbeats 4000000
set_option linter.unusedVariables false
set_option linter.unusedSimpArgs false
-- v2
-- v4
-- v5
-- v6
-- v7
namespace Go.Proofs.YgvafwGreat
open Go.HL Go.Proofs

theorem _root_.Go.HL.CallG.sameL {P : Program} {f : FuncId} {args : Array Value} {I : Ent → Prop} {G1 : List Ent} {K : Post} {v : Value} (L : List Ent) (h : CallG P f args ⟨I, G1⟩ fun r S' => ⟨I, G1⟩ = S' ∧ r = v) (hk : K v ⟨I, L ++ G1⟩) : CallG P f args ⟨I, L ++ G1⟩ K := by
  refine CallG.behind L h ?_
  rintro r I' G' hs ⟨h1, rfl⟩
  cases h1
  exact hk
theorem one_ivs (ds : List Nat) : ∀ u ∈ ivs .u64 ds, one u = true := by
  intro u hu
  obtain ⟨d, _, rfl⟩ := List.mem_map.1 hu
  rfl
theorem VOk.ixE {V : Vl} (h : VOk V) {a : List Nat} {i : Nat} (hi : i < V.ac.length) (he : (V.ac.getD i dVA).ad = a) : V.ix a = i := by
  have h1 : V.ix a < V.ac.length := List.findIdx_lt_length_of_exists ⟨_, getD_mem (d := dVA) hi, by simpa using he⟩
  have h2 : (V.ac[V.ix a]'h1).ad = a := by
    have := List.findIdx_getElem (xs := V.ac) (p := fun (x : VA) => x.ad == a) (w := h1)
    exact beq_iff_eq.1 this
  have hn := h.and
  rw [List.getD_eq_getElem?_getD, List.getElem?_eq_getElem hi, Option.getD_some] at he
  have h3 : (V.ac.map VA.ad)[V.ix a]'(by simpa using h1) = (V.ac.map VA.ad)[i]'(by simpa using hi) := by simp [h2, he]
  exact (List.getElem_inj hn).1 h3
theorem VOk.ixY {V : Vl} (h : VOk V) {a : List Nat} (h1 : V.ix a < V.ac.length) : (V.ac.getD (V.ix a) dVA).ad = a := by
  have := List.findIdx_getElem (xs := V.ac) (p := fun (x : VA) => x.ad == a) (w := h1)
  rw [List.getD_eq_getElem?_getD, List.getElem?_eq_getElem h1, Option.getD_some]
  exact beq_iff_eq.1 this
theorem Vl.ixN {V : Vl} {a : List Nat} (h1 : ¬ V.ix a < V.ac.length) {i : Nat} (hi : i < V.ac.length) : (V.ac.getD i dVA).ad ≠ a := by
  intro he
  exact h1 (List.findIdx_lt_length_of_exists ⟨_, getD_mem (d := dVA) hi, by simpa using he⟩)
/-- vault.Vault.findAcct, where the account is there -/
theorem vFindY {I : Ent → Prop} {R G : List Ent} {cb sz : Nat} {T : TypeId} {c : Nat → Value} {V : Vl} {a : List Nat} (hsz : 27019 ≤ sz) (hV : VI I c V G) (hO : VOk V) (ha : AdOk a) (hi : V.ix a < V.ac.length) :
    CallG Hvaf.prog 169 #[ptr cb 2435, bytesV a] ⟨I, ⟨cb, sz, T, c⟩ :: (R ++ G)⟩ fun r S' => ⟨I, ⟨cb, sz, T, c⟩ :: (R ++ G)⟩ = S' ∧ r = .tuple #[.int .i32 (V.ix a : Nat), .int .i32 (-1)] := by
  have hl := look_yes (ok := V.okA a) hO.ata hi (h := homeA a) (by rw [hO.ixY hi]) (by show ((V.ac.getD (V.ix a) dVA).ad == a) = true; rw [hO.ixY hi]; simp) (fun j hj he => (hO.ixE hj (by simpa [Vl.okA] using he)).symm) 4096 0 rfl (by omega)
  rw [Nat.add_zero, Nat.mod_eq_of_lt (homeA_lt a)] at hl
  have := vFindA0 (R := R) (cb := cb) (T := T) hsz hV hO ha
  rw [hl] at this
  exact this
theorem vFindN {I : Ent → Prop} {R G : List Ent} {cb sz : Nat} {T : TypeId} {c : Nat → Value} {V : Vl} {a : List Nat} (hsz : 27019 ≤ sz) (hV : VI I c V G) (hO : VOk V) (ha : AdOk a) (hi : ¬ V.ix a < V.ac.length) :
    ∃ p, FreeAt 4096 V.ta (homeA a) p ∧ CallG Hvaf.prog 169 #[ptr cb 2435, bytesV a] ⟨I, ⟨cb, sz, T, c⟩ :: (R ++ G)⟩ fun r S' => ⟨I, ⟨cb, sz, T, c⟩ :: (R ++ G)⟩ = S' ∧ r = .tuple #[.int .i32 (-1), .int .i32 (p : Nat)] := by
  obtain ⟨p, hp, hl⟩ := look_no (ok := V.okA a) (h := homeA a) hO.ata (by have := hO.aln; omega) (fun j hj => by simpa [Vl.okA] using Vl.ixN hi hj) 4096 0 rfl (by omega)
  rw [Nat.add_zero, Nat.mod_eq_of_lt (homeA_lt a)] at hl
  have := vFindA0 (R := R) (cb := cb) (T := T) hsz hV hO ha
  rw [hl] at this
  exact ⟨p, hp, this⟩
/-- The account, zeros if there is none. -/
def Vl.acc (V : Vl) (a : List Nat) : VA := V.ac.getD (V.ix a) dVA
theorem Vl.accN {V : Vl} {a : List Nat} (h1 : ¬ V.ix a < V.ac.length) : V.acc a = dVA := by
  unfold Vl.acc
  rw [List.getD_eq_getElem?_getD, List.getElem?_eq_none (by omega)]; rfl
theorem Vl.accY {V : Vl} {a : List Nat} (h1 : V.ix a < V.ac.length) : V.acc a ∈ V.ac := getD_mem h1
theorem wordV0 : wordV 0 = .agg (ivs .u64 [0, 0, 0, 0]).toArray := rfl
/-- vault.Vault.Nonce -/
theorem vNonce {I : Ent → Prop} {R G : List Ent} {cb sz : Nat} {T : TypeId} {c : Nat → Value} {V : Vl} {a : List Nat} (hsz : 27019 ≤ sz) (hV : VI I c V G) (hO : VOk V) (ha : AdOk a) :
    CallG Hvaf.prog 171 #[ptr cb 2435, bytesV a] ⟨I, ⟨cb, sz, T, c⟩ :: (R ++ G)⟩ fun r S' => ⟨I, ⟨cb, sz, T, c⟩ :: (R ++ G)⟩ = S' ∧ r = .int .u64 ((V.acc a).nonce : Nat) := by
  have hal := ha.len
  have hab := ha.bv
  have hln := hO.aln
  by_cases hi : V.ix a < V.ac.length
  · have hfn := vFindY (R := R) (cb := cb) (T := T) hsz hV hO ha hi
    have hm := Vl.accY hi
    have hi' : V.ix a < (V.ac.map VA.enc).length := by rw [List.length_map]; exact hi
    obtain ⟨x, cap', hxG, hf', hE⟩ := hV.acc.2 (by omega)
    have hrd : ∀ L, Rd ⟨I, L ++ (⟨cb, sz, T, c⟩ :: (R ++ G))⟩ x := fun L => .inr (by simp [hxG])
    have hen : ((V.ac.map VA.enc).getD (V.ix a) []).getD 20 undef = .int .u64 ((V.acc a).nonce : Nat) := by
      rw [getD_map (d := dVA) hi]; exact VA.enc_get _ (hO.aok _ hm).len 0
    generalize V.ix a = i at *
    have hi2 : i < 2000 := by omega
    refine CallG.start (C := mkC Hvaf.prog) cok (args := [ptr cb 2435, bytesV a]) Hvaf.func171 rfl Hvaf.ntmps171 (by simp) (by kernel_rfl) ?_
    intro xb
    repeat (first | (refine QuG.keep ?_; first | refine QuG.boxL cok 0 rfl rfl rfl rfl rfl (by assumption) ?_) | refine SeqS.go cok ?_)
    refine CallG.sameL [_] hfn ?_
    repeat (first | (refine QuG.keep ?_; refine QuG.elF cok hE (hrd [⟨_, _, _, _⟩]) rfl rfl rfl rfl (by simp only [addS_eq, mulS_eq]) hi' (by decide) hen ?_) | (refine QuG.keep ?_; first | refine QuG.l1E cok 1 rfl rfl rfl rfl rfl (by first | exact Nat.le_of_ble_eq_true rfl | omega | (dsimp only; omega) | (simp only [addS_eq, mulS_eq]; omega)) (by assumption) ?_) | refine SeqS.go cok ?_ | refine CondS.t rfl ?_ | refine And.intro (by omega) ?_ | (refine NatS.keep ?_; first | with_reducible refine NatS.nat ?_))
    exact Fin.drop (⟨cb, sz, T, c⟩ :: (R ++ G)) [_] ⟨rfl, rfl⟩
  · obtain ⟨p, hp, hfn⟩ := vFindN (R := R) (cb := cb) (T := T) hsz hV hO ha hi
    have hplt := hp.lt
    rw [Vl.accN hi]
    refine CallG.start (C := mkC Hvaf.prog) cok (args := [ptr cb 2435, bytesV a]) Hvaf.func171 rfl Hvaf.ntmps171 (by simp) (by kernel_rfl) ?_
    intro xb
    repeat (first | (refine QuG.keep ?_; first | refine QuG.boxL cok 0 rfl rfl rfl rfl rfl (by assumption) ?_) | refine SeqS.go cok ?_)
    refine CallG.sameL [_] hfn ?_
    repeat (first | refine SeqS.go cok ?_ | refine CondS.f rfl ?_)
    exact Fin.drop (⟨cb, sz, T, c⟩ :: (R ++ G)) [_] ⟨rfl, rfl⟩
/-- vault.Vault.IsWarmAcct -/
theorem vIsWarmAcct {I : Ent → Prop} {R G : List Ent} {cb sz : Nat} {T : TypeId} {c : Nat → Value} {V : Vl} {a : List Nat} (hsz : 27019 ≤ sz) (hV : VI I c V G) (hO : VOk V) (ha : AdOk a) :
    CallG Hvaf.prog 182 #[ptr cb 2435, bytesV a] ⟨I, ⟨cb, sz, T, c⟩ :: (R ++ G)⟩ fun r S' => ⟨I, ⟨cb, sz, T, c⟩ :: (R ++ G)⟩ = S' ∧ r = .bool (V.acc a).warm := by
  have hal := ha.len
  have hab := ha.bv
  have hln := hO.aln
  by_cases hi : V.ix a < V.ac.length
  · have hfn := vFindY (R := R) (cb := cb) (T := T) hsz hV hO ha hi
    have hm := Vl.accY hi
    have hi' : V.ix a < (V.ac.map VA.enc).length := by rw [List.length_map]; exact hi
    obtain ⟨x, cap', hxG, hf', hE⟩ := hV.acc.2 (by omega)
    have hrd : ∀ L, Rd ⟨I, L ++ (⟨cb, sz, T, c⟩ :: (R ++ G))⟩ x := fun L => .inr (by simp [hxG])
    have hen : ((V.ac.map VA.enc).getD (V.ix a) []).getD 26 undef = .bool (V.acc a).warm := by
      rw [getD_map (d := dVA) hi]; exact VA.enc_get _ (hO.aok _ hm).len 6
    generalize V.ix a = i at *
    have hi2 : i < 2000 := by omega
    refine CallG.start (C := mkC Hvaf.prog) cok (args := [ptr cb 2435, bytesV a]) Hvaf.func182 rfl Hvaf.ntmps182 (by simp) (by kernel_rfl) ?_
    intro xb
    repeat (first | (refine QuG.keep ?_; first | refine QuG.boxL cok 0 rfl rfl rfl rfl rfl (by assumption) ?_) | refine SeqS.go cok ?_)
    refine CallG.sameL [_] hfn ?_
    repeat (first | (refine QuG.keep ?_; refine QuG.elF cok hE (hrd [⟨_, _, _, _⟩]) rfl rfl rfl rfl (by simp only [addS_eq, mulS_eq]) hi' (by decide) hen ?_) | (refine QuG.keep ?_; first | refine QuG.l1E cok 1 rfl rfl rfl rfl rfl (by first | exact Nat.le_of_ble_eq_true rfl | omega | (dsimp only; omega) | (simp only [addS_eq, mulS_eq]; omega)) (by assumption) ?_) | refine SeqS.go cok ?_ | refine GuardS.yes rfl ?_ | refine And.intro (by omega) ?_ | (refine NatS.keep ?_; first | with_reducible refine NatS.nat ?_))
    exact Fin.drop (⟨cb, sz, T, c⟩ :: (R ++ G)) [_] ⟨rfl, rfl⟩
  · obtain ⟨p, hp, hfn⟩ := vFindN (R := R) (cb := cb) (T := T) hsz hV hO ha hi
    have hplt := hp.lt
    rw [Vl.accN hi]
    refine CallG.start (C := mkC Hvaf.prog) cok (args := [ptr cb 2435, bytesV a]) Hvaf.func182 rfl Hvaf.ntmps182 (by simp) (by kernel_rfl) ?_
    intro xb
    repeat (first | (refine QuG.keep ?_; first | refine QuG.boxL cok 0 rfl rfl rfl rfl rfl (by assumption) ?_) | refine SeqS.go cok ?_)
    refine CallG.sameL [_] hfn ?_
    repeat (first | refine SeqS.go cok ?_ | refine GuardS.no rfl ?_)
    exact Fin.drop (⟨cb, sz, T, c⟩ :: (R ++ G)) [_] ⟨rfl, rfl⟩
/-- vault.Vault.Balance -/
theorem vBalance {I : Ent → Prop} {R G : List Ent} {cb sz : Nat} {T : TypeId} {c : Nat → Value} {V : Vl} {a : List Nat} (hsz : 27019 ≤ sz) (hV : VI I c V G) (hO : VOk V) (ha : AdOk a) :
    CallG Hvaf.prog 109 #[ptr cb 2435, bytesV a] ⟨I, ⟨cb, sz, T, c⟩ :: (R ++ G)⟩ fun r S' => ⟨I, ⟨cb, sz, T, c⟩ :: (R ++ G)⟩ = S' ∧ r = wordV (V.acc a).bal := by
  have hal := ha.len
  have hab := ha.bv
  have hln := hO.aln
  by_cases hi : V.ix a < V.ac.length
  · have hfn := vFindY (R := R) (cb := cb) (T := T) hsz hV hO ha hi
    have hm := Vl.accY hi
    have hi' : V.ix a < (V.ac.map VA.enc).length := by rw [List.length_map]; exact hi
    obtain ⟨x, cap', hxG, hf', hE⟩ := hV.acc.2 (by omega)
    have hrd : ∀ L, Rd ⟨I, L ++ (⟨cb, sz, T, c⟩ :: (R ++ G))⟩ x := fun L => .inr (by simp [hxG])
    have hen : (((V.ac.map VA.enc).getD (V.ix a) []).drop 21).take 4 = ivs .u64 (limb (V.acc a).bal) := by
      rw [getD_map (d := dVA) hi]
      have hl := (hO.aok _ hm).len
      show ((VA.enc (V.acc a)).drop 21).take 4 = _
      rw [VA.enc, List.drop_append, List.drop_of_length_le (by rw [bvs_len, hl]; decide), bvs_len, hl]; rfl
    rw [wordV_limb]
    have hll := limb_len (V.acc a).bal
    have hll2 : (ivs .u64 (limb (V.acc a).bal)).length = 4 := rfl
    have hol := one_ivs (limb (V.acc a).bal)
    generalize limb (V.acc a).bal = lk at *
    generalize V.ix a = i at *
    have hi2 : i < 2000 := by omega
    refine CallG.start (C := mkC Hvaf.prog) cok (args := [ptr cb 2435, bytesV a]) Hvaf.func109 rfl Hvaf.ntmps109 (by simp) (by kernel_rfl) ?_
    intro xb rb
    repeat (first | (refine QuG.keep ?_; first | refine QuG.boxL cok 1 rfl rfl rfl rfl rfl (by assumption) ?_) | refine SeqS.go cok ?_)
    refine CallG.sameL [_, _] hfn ?_
    repeat (first | (refine QuG.keep ?_; refine QuG.elS cok hE (hrd [⟨_, _, _, _⟩, ⟨_, _, _, _⟩]) rfl rfl rfl rfl (by simp only [addS_eq, mulS_eq]) hi' (by decide) hen ?_) | (refine QuG.keep ?_; first | refine QuG.l1E cok 2 rfl rfl rfl rfl rfl (by first | exact Nat.le_of_ble_eq_true rfl | omega | (dsimp only; omega) | (simp only [addS_eq, mulS_eq]; omega)) (by assumption) ?_) | (refine OpG.keep ?_; first | refine OpG.upS cok 0 rfl rfl rfl rfl rfl (by assumption) (by first | assumption | exact one_bvs _) (by first | exact Nat.le_of_ble_eq_true rfl | omega) ?_) | (refine LdG.keep ?_; first | refine LdG.upL cok 0 rfl rfl rfl rfl rfl rfl (by assumption) (by first | exact Nat.le_of_ble_eq_true rfl | omega) ?_) | refine SeqS.go cok ?_ | refine CondS.t rfl ?_ | refine And.intro (by omega) ?_ | (refine NatS.keep ?_; first | with_reducible refine NatS.nat ?_))
    exact Fin.drop (⟨cb, sz, T, c⟩ :: (R ++ G)) [_, _] ⟨rfl, rfl⟩
  · obtain ⟨p, hp, hfn⟩ := vFindN (R := R) (cb := cb) (T := T) hsz hV hO ha hi
    have hplt := hp.lt
    rw [Vl.accN hi]
    refine CallG.start (C := mkC Hvaf.prog) cok (args := [ptr cb 2435, bytesV a]) Hvaf.func109 rfl Hvaf.ntmps109 (by simp) (by kernel_rfl) ?_
    intro xb rb
    repeat (first | (refine QuG.keep ?_; first | refine QuG.boxL cok 1 rfl rfl rfl rfl rfl (by assumption) ?_) | refine SeqS.go cok ?_)
    refine CallG.sameL [_, _] hfn ?_
    repeat (first | refine SeqS.go cok ?_ | refine CondS.f rfl ?_ | refine And.intro (fillOk_of (Eq.refl true)) ?_ | (refine LdG.keep ?_; first | refine LdG.lN cok 0 rfl rfl rfl rfl rfl (by first | exact Nat.le_of_ble_eq_true rfl | omega | (dsimp only; omega) | (simp only [addS_eq, mulS_eq]; omega)) ?_) | (refine OpG.keep ?_; first | refine OpG.sL cok 0 rfl rfl rfl rfl rfl rfl rfl (by first | exact Nat.le_of_ble_eq_true rfl | omega | (dsimp only; omega) | (simp only [addS_eq, mulS_eq]; omega)) ?_))
    exact Fin.drop (⟨cb, sz, T, c⟩ :: (R ++ G)) [_, _] ⟨rfl, rfl⟩
end Go.Proofs.YgvafwGreat
