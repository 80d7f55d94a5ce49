import Derived.Test.YgvafwGreatNat3
set_option maxRecDepth 100000
set_option linter.unusedVariables false
set_option linter.unusedSimpArgs false
namespace Go.Proofs.YgvafwGreat
open Go.HL Go.Proofs

theorem step_sub (vo vb vd P br br' d db r : Nat) (h : vo + vb = vd + br * P) (h2 : r + (br + db) = d + 256 * br') : (vo + P * r) + (vb + P * db) = (vd + P * d) + br' * (P * 256) := by
  have : P * (r + (br + db)) = P * (d + 256 * br') := by rw [h2]
  grind
theorem Rd.tail {I : Ent → Prop} {x y : Ent} {G : List Ent} (h : Rd ⟨I, G⟩ x) : Rd ⟨I, y :: G⟩ x := h.mono (.refl _) (by intro z hz; exact List.mem_cons_of_mem _ hz)
theorem Byt.tail {I : Ent → Prop} {y : Ent} {G : List Ent} {v : Value} {ds : List Nat} (h : Byt ⟨I, G⟩ v ds) : Byt ⟨I, y :: G⟩ v ds := h.mono (.refl _) (by intro z hz; exact List.mem_cons_of_mem _ hz)

/-- nat.take: the first number's row is one's own. -/
theorem take_spec {I : Ent → Prop} {G : List Ent} {b n : Nat} {c : Nat → Value} {ds db : List Nat} {u : Value} (how : Ow c ds) (hd : ∀ d ∈ ds, d < 256) (hl : ds.length = n) (hn : n ≤ 400) (h' : Byt ⟨I, G⟩ u db) (hdb : db.length ≤ n) :
    CallG Hvaf.prog 226 #[sl b 0 n n, u] ⟨I, ⟨b, n, 5, c⟩ :: G⟩ fun r S' => ∃ c' out br, S' = ⟨I, ⟨b, n, 5, c'⟩ :: G⟩ ∧ Ow c' out ∧ out.length = n ∧ (∀ d ∈ out, d < 256) ∧ br ≤ 1 ∧ val out + val db = val ds + br * 256 ^ n ∧ r = .int .u16 (br : Nat) := by
  obtain ⟨a', cap', rfl, hlc', hc', hb'⟩ := h'.form
  have hl' := hb'.2.1
  refine CallG.start (C := mkC Hvaf.prog) cok (args := [sl b 0 n n, .slice a' db.length cap']) Hvaf.func226 rfl Hvaf.ntmps226 (by simp) (by kernel_rfl) ?_
  repeat (first | refine SeqS.go cok ?_)
  refine W.loopE cok (by kernel_rfl) 0 (fun (i : Nat) e' S' => ∃ c' out br, S' = ⟨I, ⟨b, n, 5, c'⟩ :: G⟩ ∧ Ow c' out ∧ out.length = n ∧ (∀ d ∈ out, d < 256) ∧ br ≤ 1 ∧ i ≤ n ∧ (∀ j, i ≤ j → out.getD j 0 = ds.getD j 0) ∧ val (out.take i) + val (db.take i) = val (ds.take i) + br * 256 ^ i ∧
      slots [(0, sl b 0 n n), (1, .slice a' db.length cap'), (5, .int .u16 (br : Nat)), (10, .int .i64 (n : Nat)), (11, .int .i64 (i : Nat))] e') (fun i => n - i) 0 ?_
    (fun e' S' => ∃ c' out br, S' = ⟨I, ⟨b, n, 5, c'⟩ :: G⟩ ∧ Ow c' out ∧ out.length = n ∧ (∀ d ∈ out, d < 256) ∧ br ≤ 1 ∧ val out + val db = val ds + br * 256 ^ n ∧ slots [(5, .int .u16 (br : Nat))] e') ?_ ?_
  · exact ⟨c, ds, 0, rfl, how, hl, hd, by omega, by omega, fun j _ => rfl, by simp [val], rfl, rfl, rfl, rfl, rfl, trivial⟩
  · rintro e' _ _ ⟨c', out, br, rfl, h1, h2, h3, h4, h5, hs⟩
    refine SeqS.slots cok _ hs fun e => ?_
    repeat (first | refine SeqS.go cok ?_)
    refine Fin.same ⟨c', out, br, rfl, h1, h2, h3, h4, h5, rfl⟩
  · rintro i e' _ _ ⟨c', out, br, rfl, how, hol, hod, hbr, hi, hrest, hsum, hs⟩
    refine W.slots _ hs fun e => ?_
    repeat (first | refine SeqS.go cok ?_)
    refine CondS.dec rfl (fun hc => ?_) (fun hc => ?_)
    · have hd1 := getD_lt hd i
      have hd2 := getD_lt hb'.1 i
      skip
      refine SeqS.go cok ?_
      repeat (first | refine SeqS.goRS cok ?_)
      refine SeqS.cut cok (fun e' S' => S' = ⟨I, ⟨b, n, 5, c'⟩ :: G⟩ ∧ slots [(0, sl b 0 n n), (1, .slice a' db.length cap'), (6, .int .i64 (i : Nat)), (7, .int .u16 ((br + db.getD i 0 : Nat) : Int)), (10, .int .i64 (n : Nat)), (11, .int .i64 (i : Nat))] e') ?_ ?_
      · repeat (first | refine SeqS.go cok ?_)
        refine CondS.dec rfl (fun hc2 => ?_) (fun hc2 => ?_)
        · obtain ⟨y, o2, rfl, hy, hbs2⟩ := hb'.some (by omega)
          have hy := Rd.tail (y := ⟨b, n, 5, c'⟩) hy
          repeat (first | refine And.intro (by omega) ?_ | (refine NatS.keep ?_; first | with_reducible refine NatS.nat ?_) | (refine ValS.keep ?_; first | (with_reducible refine ValS.kU16 ?_; first | (with_reducible refine ValS.convU16 ?_ ?_ ; omega) | (with_reducible refine ValS.addU16 ?_ ?_ ; omega))) | (refine QuG.keep ?_; first | refine QuG.bs cok (by assumption) (by assumption) rfl rfl rfl rfl (by omega) ?_))
          exact ⟨rfl, rfl, rfl, rfl, rfl, rfl, rfl, trivial⟩
        · have h0 : db.getD i 0 = 0 := getD_ge (by omega)
          rw [h0]
          skip
          exact ⟨rfl, rfl, rfl, rfl, rfl, rfl, rfl, trivial⟩
      · rintro e' _ _ ⟨rfl, hs⟩
        refine W.slots _ hs fun e => ?_
        repeat (first | refine And.intro (by omega) ?_ | (refine NatS.keep ?_; first | with_reducible refine NatS.nat ?_))
        refine QuG.ow cok 0 rfl how rfl rfl rfl rfl rfl rfl (by omega) (by show _ ≤ n; omega) ?_
        rw [hrest i (Nat.le_refl _)]
        repeat (first | refine SeqS.goRS cok ?_ | (refine ValS.keep ?_; first | (with_reducible refine ValS.kU16 ?_; first | (with_reducible refine ValS.convU16 ?_ ?_ ; omega))))
        refine SeqS.cut cok (fun e' S' => S' = ⟨I, ⟨b, n, 5, c'⟩ :: G⟩ ∧ ∃ br' r, br' ≤ 1 ∧ r < 256 ∧ r + (br + db.getD i 0) = ds.getD i 0 + 256 * br' ∧ slots [(0, sl b 0 n n), (1, .slice a' db.length cap'), (5, .int .u16 (br' : Nat)), (6, .int .i64 (i : Nat)), (7, .int .u16 ((br + db.getD i 0 : Nat) : Int)), (8, .int .u16 ((r + (br + db.getD i 0) : Nat) : Int)), (10, .int .i64 (n : Nat)), (11, .int .i64 (i : Nat))] e') ?_ ?_
        · repeat (first | refine SeqS.go cok ?_)
          refine CondS.dec rfl (fun hc2 => ?_) (fun hc2 => ?_)
          · repeat (first | refine SeqS.go cok ?_ | (refine ValS.keep ?_; first | (with_reducible refine ValS.kU16 ?_; first | (with_reducible refine ValS.addU16_L ?_ ?_ ; omega))))
            refine ⟨rfl, 1, ds.getD i 0 + 256 - (br + db.getD i 0), by omega, by omega, by omega, rfl, rfl, rfl, rfl, rfl, vint (by omega), rfl, rfl, trivial⟩
          · skip
            refine ⟨rfl, 0, ds.getD i 0 - (br + db.getD i 0), by omega, by omega, by omega, rfl, rfl, rfl, rfl, rfl, vint (by omega), rfl, rfl, trivial⟩
        · rintro e' _ _ ⟨rfl, br', r, hbr', hr, hrr, hs⟩
          refine W.slots _ hs fun e => ?_
          repeat (first | refine And.intro (by omega) ?_ | (refine NatS.keep ?_; first | with_reducible refine NatS.nat ?_) | (refine ValS.keep ?_; first | (with_reducible refine ValS.kU8 ?_; first | (with_reducible refine ValS.convU8 ?_ ?_ ; omega)) | (with_reducible refine ValS.kU16 ?_; first | (with_reducible refine ValS.subU16 ?_ ?_ ?_ ; omega; omega))))
          refine OpG.ow cok 0 rfl how rfl rfl rfl rfl rfl rfl rfl (by omega) (by show _ ≤ n; omega) fun c2 hown => ?_
          repeat (first | refine SeqS.go cok ?_ | (refine ValS.keep ?_; first | (with_reducible refine ValS.kI64 ?_; first | (with_reducible refine ValS.addI64_L ?_ ?_ ; omega))))
          have er : r + (br + db.getD i 0) - (br + db.getD i 0) = r := by omega
          rw [er] at hown
          refine ⟨i + 1, ⟨c2, _, br', rfl, hown, by simp [hol], mem_set_lt hod hr, hbr', by omega, fun j hj => ?_, ?_, rfl, rfl, rfl, rfl, rfl, trivial⟩, ?_⟩
          · rw [getD_set _ _ _ _ (by omega), if_neg (by omega)]; exact hrest j (by omega)
          · rw [val_set_succ _ _ _ (by omega), val_take_succ, val_take_succ, Nat.pow_succ]
            exact step_sub _ _ _ _ _ _ _ _ _ hsum hrr
          · show n - (i + 1) < n - i; omega
    · have : i = n := by omega
      subst this
      skip
      refine ⟨c', out, br, rfl, how, hol, hod, hbr, ?_, rfl, trivial⟩
      rw [val_take_all _ _ (by omega), val_take_all _ _ (by omega), val_take_all _ _ (by omega)] at hsum
      exact hsum
end Go.Proofs.YgvafwGreat
