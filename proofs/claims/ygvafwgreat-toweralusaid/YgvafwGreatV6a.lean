import Derived.Test.YgvafwGreatV5
set_option exponentiation.threshold 1000
set_option maxRecDepth 100000
set_option maxHeartbeats 4000000
set_option linter.unusedVariables false
set_option linter.unusedSimpArgs false
-- v2
-- v4
-- v5
-- v6
-- v7
namespace Go.Proofs.YgvafwGreat
open Go.HL Go.Proofs

/-- vault.copied -/
theorem vCopied {I : Ent → Prop} {G : List Ent} {v : Value} {ds : List Nat} (hb : Byt ⟨I, G⟩ v ds) :
    CallG Hvaf.prog 87 #[v] ⟨I, G⟩ fun r S' => S'.G = G ∧ Byt ⟨S'.I, []⟩ r ds := by
  have hlen := hb.2.1
  rcases hb.cases with ⟨rfl, rfl⟩ | ⟨x, o, cap, rfl, h1, h2, hx, hbs⟩
  · refine CallG.start (C := mkC Hvaf.prog) cok (args := [.slice none 0 0]) Hvaf.func87 rfl Hvaf.ntmps87 (by simp) (by kernel_rfl) ?_
    repeat (first | refine SeqS.go cok ?_ | refine CondS.t rfl ?_)
    exact Fin.same ⟨rfl, Byt.nil _⟩
  · by_cases h0 : ds.length = 0
    · refine CallG.start (C := mkC Hvaf.prog) cok (args := [.slice (some ⟨x.b, o, none⟩) ds.length cap]) Hvaf.func87 rfl Hvaf.ntmps87 (by simp) (by kernel_rfl) ?_
      repeat (first | refine SeqS.go cok ?_ | (refine CondS.keep ?_; first | refine CondS.d1 rfl (by omega) ?_))
      rw [List.length_eq_zero_iff.1 h0]
      exact Fin.same ⟨rfl, Byt.nil _⟩
    · refine CallG.start (C := mkC Hvaf.prog) cok (args := [.slice (some ⟨x.b, o, none⟩) ds.length cap]) Hvaf.func87 rfl Hvaf.ntmps87 (by simp) (by kernel_rfl) ?_
      repeat (first | refine SeqS.go cok ?_ | refine And.intro (by dsimp only; omega) ?_ | (refine NatS.keep ?_; first | with_reducible refine NatS.nat ?_) | (refine CondS.keep ?_; first | refine CondS.d0 rfl (by omega) ?_))
      intro b
      repeat (first | refine SeqS.go cok ?_)
      refine OpG.keep ?_
      refine OpG.copy cok 0 rfl (y := x) (hx.mono (.refl _) (fun y hy => List.mem_cons_of_mem _ hy)) rfl rfl rfl rfl rfl rfl rfl ?_ ?_ ?_ ?_
      · show 0 + mulS (Nat.min ds.length ds.length) 1 ≤ ds.length; rw [mulS_eq]; simp
      · show o + mulS (Nat.min ds.length ds.length) 1 ≤ x.sz; have := hbs.1; rw [mulS_eq]; simp; omega
      · intro p hp
        have hp : p < mulS (Nat.min ds.length ds.length) 1 := hp
        rw [mulS_eq] at hp; simp at hp
        rw [hbs.2 p (by omega)]; rfl
      repeat (first | refine SeqS.go cok ?_)
      refine Fin.frz [_] G ⟨rfl, ?_⟩
      refine Byt.mk0 (x := ⟨b, ds.length, _, _⟩) (.inr List.mem_cons_self) rfl hlen hb.1 (Nat.le_refl _) fun i hi => ?_
      show updN _ 0 (cellsFrom x.c o (mulS (Nat.min ds.length ds.length) 1)) i = _
      simp only [mulS_eq, Nat.mul_one]
      rw [updN_cellsFrom]
      simp only [Nat.zero_add, Nat.sub_zero, Nat.zero_le, true_and]
      rw [show Nat.min ds.length ds.length = ds.length by simp]
      have hi2 : i < ds.length := hi
      simp only [hi2, if_true]
      exact hbs.2 i hi
/-- mach.copied -/
theorem mCopied {I : Ent → Prop} {G : List Ent} {v : Value} {ds : List Nat} (hb : Byt ⟨I, G⟩ v ds) :
    CallG Hvaf.prog 270 #[v] ⟨I, G⟩ fun r S' => S'.G = G ∧ Byt ⟨S'.I, []⟩ r ds := by
  have hlen := hb.2.1
  rcases hb.cases with ⟨rfl, rfl⟩ | ⟨x, o, cap, rfl, h1, h2, hx, hbs⟩
  · refine CallG.start (C := mkC Hvaf.prog) cok (args := [.slice none 0 0]) Hvaf.func270 rfl Hvaf.ntmps270 (by simp) (by kernel_rfl) ?_
    repeat (first | refine SeqS.go cok ?_ | refine CondS.t rfl ?_)
    exact Fin.same ⟨rfl, Byt.nil _⟩
  · by_cases h0 : ds.length = 0
    · refine CallG.start (C := mkC Hvaf.prog) cok (args := [.slice (some ⟨x.b, o, none⟩) ds.length cap]) Hvaf.func270 rfl Hvaf.ntmps270 (by simp) (by kernel_rfl) ?_
      repeat (first | refine SeqS.go cok ?_ | (refine CondS.keep ?_; first | refine CondS.d1 rfl (by omega) ?_))
      rw [List.length_eq_zero_iff.1 h0]
      exact Fin.same ⟨rfl, Byt.nil _⟩
    · refine CallG.start (C := mkC Hvaf.prog) cok (args := [.slice (some ⟨x.b, o, none⟩) ds.length cap]) Hvaf.func270 rfl Hvaf.ntmps270 (by simp) (by kernel_rfl) ?_
      repeat (first | refine SeqS.go cok ?_ | refine And.intro (by dsimp only; omega) ?_ | (refine NatS.keep ?_; first | with_reducible refine NatS.nat ?_) | (refine CondS.keep ?_; first | refine CondS.d0 rfl (by omega) ?_))
      intro b
      repeat (first | refine SeqS.go cok ?_)
      refine OpG.keep ?_
      refine OpG.copy cok 0 rfl (y := x) (hx.mono (.refl _) (fun y hy => List.mem_cons_of_mem _ hy)) rfl rfl rfl rfl rfl rfl rfl ?_ ?_ ?_ ?_
      · show 0 + mulS (Nat.min ds.length ds.length) 1 ≤ ds.length; rw [mulS_eq]; simp
      · show o + mulS (Nat.min ds.length ds.length) 1 ≤ x.sz; have := hbs.1; rw [mulS_eq]; simp; omega
      · intro p hp
        have hp : p < mulS (Nat.min ds.length ds.length) 1 := hp
        rw [mulS_eq] at hp; simp at hp
        rw [hbs.2 p (by omega)]; rfl
      repeat (first | refine SeqS.go cok ?_)
      refine Fin.frz [_] G ⟨rfl, ?_⟩
      refine Byt.mk0 (x := ⟨b, ds.length, _, _⟩) (.inr List.mem_cons_self) rfl hlen hb.1 (Nat.le_refl _) fun i hi => ?_
      show updN _ 0 (cellsFrom x.c o (mulS (Nat.min ds.length ds.length) 1)) i = _
      simp only [mulS_eq, Nat.mul_one]
      rw [updN_cellsFrom]
      simp only [Nat.zero_add, Nat.sub_zero, Nat.zero_le, true_and]
      rw [show Nat.min ds.length ds.length = ds.length by simp]
      have hi2 : i < ds.length := hi
      simp only [hi2, if_true]
      exact hbs.2 i hi
/-- engine.copied -/
theorem eCopied {I : Ent → Prop} {G : List Ent} {v : Value} {ds : List Nat} (hb : Byt ⟨I, G⟩ v ds) :
    CallG Hvaf.prog 114 #[v] ⟨I, G⟩ fun r S' => S'.G = G ∧ Byt ⟨S'.I, []⟩ r ds := by
  have hlen := hb.2.1
  rcases hb.cases with ⟨rfl, rfl⟩ | ⟨x, o, cap, rfl, h1, h2, hx, hbs⟩
  · refine CallG.start (C := mkC Hvaf.prog) cok (args := [.slice none 0 0]) Hvaf.func114 rfl Hvaf.ntmps114 (by simp) (by kernel_rfl) ?_
    repeat (first | refine SeqS.go cok ?_ | refine CondS.t rfl ?_)
    exact Fin.same ⟨rfl, Byt.nil _⟩
  · by_cases h0 : ds.length = 0
    · refine CallG.start (C := mkC Hvaf.prog) cok (args := [.slice (some ⟨x.b, o, none⟩) ds.length cap]) Hvaf.func114 rfl Hvaf.ntmps114 (by simp) (by kernel_rfl) ?_
      repeat (first | refine SeqS.go cok ?_ | (refine CondS.keep ?_; first | refine CondS.d1 rfl (by omega) ?_))
      rw [List.length_eq_zero_iff.1 h0]
      exact Fin.same ⟨rfl, Byt.nil _⟩
    · refine CallG.start (C := mkC Hvaf.prog) cok (args := [.slice (some ⟨x.b, o, none⟩) ds.length cap]) Hvaf.func114 rfl Hvaf.ntmps114 (by simp) (by kernel_rfl) ?_
      repeat (first | refine SeqS.go cok ?_ | refine And.intro (by dsimp only; omega) ?_ | (refine NatS.keep ?_; first | with_reducible refine NatS.nat ?_) | (refine CondS.keep ?_; first | refine CondS.d0 rfl (by omega) ?_))
      intro b
      repeat (first | refine SeqS.go cok ?_)
      refine OpG.keep ?_
      refine OpG.copy cok 0 rfl (y := x) (hx.mono (.refl _) (fun y hy => List.mem_cons_of_mem _ hy)) rfl rfl rfl rfl rfl rfl rfl ?_ ?_ ?_ ?_
      · show 0 + mulS (Nat.min ds.length ds.length) 1 ≤ ds.length; rw [mulS_eq]; simp
      · show o + mulS (Nat.min ds.length ds.length) 1 ≤ x.sz; have := hbs.1; rw [mulS_eq]; simp; omega
      · intro p hp
        have hp : p < mulS (Nat.min ds.length ds.length) 1 := hp
        rw [mulS_eq] at hp; simp at hp
        rw [hbs.2 p (by omega)]; rfl
      repeat (first | refine SeqS.go cok ?_)
      refine Fin.frz [_] G ⟨rfl, ?_⟩
      refine Byt.mk0 (x := ⟨b, ds.length, _, _⟩) (.inr List.mem_cons_self) rfl hlen hb.1 (Nat.le_refl _) fun i hi => ?_
      show updN _ 0 (cellsFrom x.c o (mulS (Nat.min ds.length ds.length) 1)) i = _
      simp only [mulS_eq, Nat.mul_one]
      rw [updN_cellsFrom]
      simp only [Nat.zero_add, Nat.sub_zero, Nat.zero_le, true_and]
      rw [show Nat.min ds.length ds.length = ds.length by simp]
      have hi2 : i < ds.length := hi
      simp only [hi2, if_true]
      exact hbs.2 i hi
/-- vault.Vault.Code -/
theorem vCode {I : Ent → Prop} {R G : List Ent} {cb sz : Nat} {T : TypeId} {c : Nat → Value} {V : Vl} {a : List Nat} (hsz : 27019 ≤ sz) (hV : VI I c V G) (hO : VOk V) (ha : AdOk a) :
    CallG Hvaf.prog 113 #[ptr cb 2435, bytesV a] ⟨I, ⟨cb, sz, T, c⟩ :: (R ++ G)⟩ fun r S' => S'.G = ⟨cb, sz, T, c⟩ :: (R ++ G) ∧ Byt ⟨S'.I, []⟩ r (V.acc a).code := by
  have hal := ha.len
  have hab := ha.bv
  have hln := hO.aln
  by_cases hi : V.ix a < V.ac.length
  · have hfn := vFindY (R := R) (cb := cb) (T := T) hsz hV hO ha hi
    have hm := Vl.accY hi
    have hi' : V.ix a < (V.ac.map VA.enc).length := by rw [List.length_map]; exact hi
    obtain ⟨x, cap', hxG, hf', hE⟩ := hV.acc.2 (by omega)
    have hrd : ∀ L, Rd ⟨I, L ++ (⟨cb, sz, T, c⟩ :: (R ++ G))⟩ x := fun L => .inr (by simp [hxG])
    have hcp := fun L => vCopied (G := L ++ (⟨cb, sz, T, c⟩ :: (R ++ G))) ((hV.cd _ hm).mono (Sub.refl I) (by simp))
    have hen : ((V.ac.map VA.enc).getD (V.ix a) []).getD 25 undef = (V.acc a).cv := by
      rw [getD_map (d := dVA) hi]; exact VA.enc_get _ (hO.aok _ hm).len 5
    generalize V.ix a = i at *
    have hi2 : i < 2000 := by omega
    refine CallG.start (C := mkC Hvaf.prog) cok (args := [ptr cb 2435, bytesV a]) Hvaf.func113 rfl Hvaf.ntmps113 (by simp) (by kernel_rfl) ?_
    intro xb
    repeat (first | (refine QuG.keep ?_; first | refine QuG.boxL cok 0 rfl rfl rfl rfl rfl (by assumption) ?_) | refine SeqS.go cok ?_)
    refine CallG.sameL [_] hfn ?_
    repeat (first | (refine QuG.keep ?_; refine QuG.elF cok hE (hrd [⟨_, _, _, _⟩]) rfl rfl rfl rfl (by simp only [addS_eq, mulS_eq]) hi' (by decide) hen ?_) | (refine QuG.keep ?_; first | refine QuG.l1E cok 1 rfl rfl rfl rfl rfl (by first | exact Nat.le_of_ble_eq_true rfl | omega | (dsimp only; omega) | (simp only [addS_eq, mulS_eq]; omega)) (by assumption) ?_) | refine SeqS.go cok ?_ | refine CondS.t rfl ?_ | refine And.intro (by omega) ?_ | (refine NatS.keep ?_; first | with_reducible refine NatS.nat ?_))
    refine (hcp [_]).mono ?_
    rintro r ⟨J, _⟩ hs ⟨rfl, hr⟩
    repeat (first | refine SeqS.go cok ?_)
    exact Fin.drop (⟨cb, sz, T, c⟩ :: (R ++ G)) [_] ⟨rfl, hr⟩
  · obtain ⟨p, hp, hfn⟩ := vFindN (R := R) (cb := cb) (T := T) hsz hV hO ha hi
    have hplt := hp.lt
    rw [Vl.accN hi]
    refine CallG.start (C := mkC Hvaf.prog) cok (args := [ptr cb 2435, bytesV a]) Hvaf.func113 rfl Hvaf.ntmps113 (by simp) (by kernel_rfl) ?_
    intro xb
    repeat (first | (refine QuG.keep ?_; first | refine QuG.boxL cok 0 rfl rfl rfl rfl rfl (by assumption) ?_) | refine SeqS.go cok ?_)
    refine CallG.sameL [_] hfn ?_
    repeat (first | refine SeqS.go cok ?_ | refine CondS.f rfl ?_)
    exact Fin.drop (⟨cb, sz, T, c⟩ :: (R ++ G)) [_] ⟨rfl, Byt.nil _⟩
def emptyV (x : VA) : Bool := decide (x.nonce = 0) && (decide (x.bal = 0) && decide (x.code.length = 0))
/-- vault.Acct.empty -/
theorem vEmpty {I : Ent → Prop} {G : List Ent} {x : Ent} {o i : Nat} {vss : List (List Value)} {y : VA} (hE : Els x o 29 vss) (hx : Rd ⟨I, G⟩ x) (hi : i < vss.length) (hy : vss.getD i [] = y.enc) (hyl : y.ad.length = 20) (hyb : y.bal < 115792089237316195423570985008687907853269984665640564039457584007913129639936) (hyn : y.nonce < 18446744073709551616) (hyc : Byt ⟨I, []⟩ y.cv y.code) :
    CallG Hvaf.prog 83 #[ptr x.b (addS o (mulS i 29))] ⟨I, G⟩ fun r S' => ⟨I, G⟩ = S' ∧ r = .bool (emptyV y) := by
  have e20 : (vss.getD i []).getD 20 undef = .int .u64 (y.nonce : Nat) := by rw [hy]; exact VA.enc_get _ hyl 0
  have e25 : (vss.getD i []).getD 25 undef = y.cv := by rw [hy]; exact VA.enc_get _ hyl 5
  have e21 : ((vss.getD i []).drop 21).take 4 = wcs y.bal := by
    rw [hy, VA.enc, List.drop_append, List.drop_of_length_le (by rw [bvs_len, hyl]; decide), bvs_len, hyl]; rfl
  have hz := fun (S : St) => UIsZero_spec (S := S) hyb
  obtain ⟨ad, cap, hcv⟩ : ∃ ad cap, y.cv = .slice ad y.code.length cap := by
    rcases hyc.cases with ⟨h1, h2⟩ | ⟨x, o, cap, h1, _⟩
    · exact ⟨none, 0, by rw [h1, h2]; rfl⟩
    · exact ⟨_, cap, h1⟩
  rw [hcv] at e25
  unfold emptyV
  by_cases hn0 : y.nonce = 0
  · rw [decide_eq_true hn0, Bool.true_and]
    by_cases hb0 : y.bal = 0
    · rw [decide_eq_true hb0, Bool.true_and]
      rw [decide_eq_true hb0] at hz
      refine CallG.start (C := mkC Hvaf.prog) cok (args := [ptr x.b (addS o (mulS i 29))]) Hvaf.func83 rfl Hvaf.ntmps83 (by simp) (by kernel_rfl) ?_
      repeat (first | (refine QuG.keep ?_; first | refine QuG.elF cok hE hx rfl rfl rfl rfl (by simp only [addS_eq, mulS_eq]) hi (by decide) e20 ?_ | refine QuG.elS cok hE hx rfl rfl rfl rfl (by simp only [addS_eq, mulS_eq]) hi (by decide) e21 ?_) | refine SeqS.go cok ?_ | refine GuardS.yes rfl ?_ | (refine GuardS.keep ?_; first | refine GuardS.T1 rfl (by omega) ?_))
      refine (hz _).mono ?_
      rintro r _ - ⟨rfl, rfl⟩
      repeat (first | (refine QuG.keep ?_; first | refine QuG.elF cok hE hx rfl rfl rfl rfl (by simp only [addS_eq, mulS_eq]) hi (by decide) e25 ?_) | refine SeqS.go cok ?_ | refine GuardS.yes rfl ?_)
      exact Fin.same ⟨rfl, vB rfl (by by_cases hc0 : y.code.length = 0 <;> simp [hc0] <;> omega)⟩
    · rw [decide_eq_false hb0, Bool.false_and]
      rw [decide_eq_false hb0] at hz
      refine CallG.start (C := mkC Hvaf.prog) cok (args := [ptr x.b (addS o (mulS i 29))]) Hvaf.func83 rfl Hvaf.ntmps83 (by simp) (by kernel_rfl) ?_
      repeat (first | (refine QuG.keep ?_; first | refine QuG.elF cok hE hx rfl rfl rfl rfl (by simp only [addS_eq, mulS_eq]) hi (by decide) e20 ?_ | refine QuG.elS cok hE hx rfl rfl rfl rfl (by simp only [addS_eq, mulS_eq]) hi (by decide) e21 ?_) | refine SeqS.go cok ?_ | refine GuardS.yes rfl ?_ | (refine GuardS.keep ?_; first | refine GuardS.T1 rfl (by omega) ?_))
      refine (hz _).mono ?_
      rintro r _ - ⟨rfl, rfl⟩
      repeat (first | refine SeqS.go cok ?_ | refine GuardS.no rfl ?_)
      exact Fin.same ⟨rfl, rfl⟩
  · rw [decide_eq_false hn0, Bool.false_and]
    refine CallG.start (C := mkC Hvaf.prog) cok (args := [ptr x.b (addS o (mulS i 29))]) Hvaf.func83 rfl Hvaf.ntmps83 (by simp) (by kernel_rfl) ?_
    repeat (first | (refine QuG.keep ?_; first | refine QuG.elF cok hE hx rfl rfl rfl rfl (by simp only [addS_eq, mulS_eq]) hi (by decide) e20 ?_) | refine SeqS.go cok ?_ | refine GuardS.no rfl ?_ | (refine GuardS.keep ?_; first | refine GuardS.T0 rfl (by omega) ?_))
    exact Fin.same ⟨rfl, rfl⟩
/-- vault.Vault.IsEmpty -/
theorem vIsEmpty {I : Ent → Prop} {R G : List Ent} {cb sz : Nat} {T : TypeId} {c : Nat → Value} {V : Vl} {a : List Nat} (hsz : 27019 ≤ sz) (hV : VI I c V G) (hO : VOk V) (ha : AdOk a) :
    CallG Hvaf.prog 305 #[ptr cb 2435, bytesV a] ⟨I, ⟨cb, sz, T, c⟩ :: (R ++ G)⟩ fun r S' => ⟨I, ⟨cb, sz, T, c⟩ :: (R ++ G)⟩ = S' ∧ r = .bool (emptyV (V.acc a)) := by
  have hal := ha.len
  have hab := ha.bv
  have hln := hO.aln
  by_cases hi : V.ix a < V.ac.length
  · have hfn := vFindY (R := R) (cb := cb) (T := T) hsz hV hO ha hi
    have hm := Vl.accY hi
    have hi' : V.ix a < (V.ac.map VA.enc).length := by rw [List.length_map]; exact hi
    obtain ⟨x, cap', hxG, hf', hE⟩ := hV.acc.2 (by omega)
    have hrd : ∀ L, Rd ⟨I, L ++ (⟨cb, sz, T, c⟩ :: (R ++ G))⟩ x := fun L => .inr (by simp [hxG])
    have hem := fun L => vEmpty (G := L ++ (⟨cb, sz, T, c⟩ :: (R ++ G))) (y := V.acc a) hE (hrd L) hi' (getD_map (d := dVA) hi) (hO.aok _ hm).len (hO.abl _ hm) (hO.anc _ hm) (hV.cd _ hm)
    generalize V.ix a = i at *
    have hi2 : i < 2000 := by omega
    refine CallG.start (C := mkC Hvaf.prog) cok (args := [ptr cb 2435, bytesV a]) Hvaf.func305 rfl Hvaf.ntmps305 (by simp) (by kernel_rfl) ?_
    intro xb
    repeat (first | (refine QuG.keep ?_; first | refine QuG.boxL cok 0 rfl rfl rfl rfl rfl (by assumption) ?_) | refine SeqS.go cok ?_)
    refine CallG.sameL [_] hfn ?_
    repeat (first | (refine QuG.keep ?_; first | refine QuG.l1E cok 1 rfl rfl rfl rfl rfl (by first | exact Nat.le_of_ble_eq_true rfl | omega | (dsimp only; omega) | (simp only [addS_eq, mulS_eq]; omega)) (by assumption) ?_) | refine SeqS.go cok ?_ | refine GuardS.yes rfl ?_ | refine And.intro (by omega) ?_ | (refine NatS.keep ?_; first | with_reducible refine NatS.nat ?_))
    refine (hem [_]).mono ?_
    rintro r _ - ⟨rfl, rfl⟩
    repeat (first | refine SeqS.go cok ?_)
    exact Fin.drop (⟨cb, sz, T, c⟩ :: (R ++ G)) [_] ⟨rfl, rfl⟩
  · obtain ⟨p, hp, hfn⟩ := vFindN (R := R) (cb := cb) (T := T) hsz hV hO ha hi
    have hplt := hp.lt
    rw [Vl.accN hi]
    refine CallG.start (C := mkC Hvaf.prog) cok (args := [ptr cb 2435, bytesV a]) Hvaf.func305 rfl Hvaf.ntmps305 (by simp) (by kernel_rfl) ?_
    intro xb
    repeat (first | (refine QuG.keep ?_; first | refine QuG.boxL cok 0 rfl rfl rfl rfl rfl (by assumption) ?_) | refine SeqS.go cok ?_)
    refine CallG.sameL [_] hfn ?_
    repeat (first | refine SeqS.go cok ?_ | refine GuardS.no rfl ?_)
    exact Fin.drop (⟨cb, sz, T, c⟩ :: (R ++ G)) [_] ⟨rfl, rfl⟩
end Go.Proofs.YgvafwGreat
