import Derived.Test.YgvafwGreatNat5
set_option maxRecDepth 100000
set_option linter.unusedVariables false
set_option linter.unusedSimpArgs false
namespace Go.Proofs.YgvafwGreat
open Go.HL Go.Proofs

theorem or_byte (x d : Nat) (h : d < 256) : x * 2 ^ 8 ||| d = x * 256 + d := by
  have := Nat.two_pow_add_eq_or_of_lt (i := 8) (b := d) (by simpa using h) x
  rw [Nat.mul_comm x, ← this, Nat.mul_comm]
theorem val_drop (l : List Nat) (i : Nat) (h : i < l.length) : val (l.drop i) = l.getD i 0 + 256 * val (l.drop (i + 1)) := by
  rw [List.drop_eq_getElem_cons h, List.getD_eq_getElem?_getD, List.getElem?_eq_getElem h]; rfl
theorem norm_ge {p : List Nat} (h : Norm p) (hl : 0 < p.length) : 256 ^ (p.length - 1) ≤ val p := by
  rcases h with rfl | h
  · simp at hl
  · have h1 := getD_le_val p (p.length - 1)
    have h4 : 256 ^ (p.length - 1) * 1 ≤ 256 ^ (p.length - 1) * p.getD (p.length - 1) 0 := Nat.mul_le_mul_left _ (Nat.pos_of_ne_zero h)
    omega

/-- nat.U64 -/
theorem U64_byt {S : St} {v : Value} {da : List Nat} (h : Byt S v da) :
    CallG Hvaf.prog 90 #[v] S fun r S' => S = S' ∧ r = .tuple #[.int .u64 ((if val da < 2 ^ 64 then val da else 0 : Nat) : Int), .bool (decide (val da < 2 ^ 64))] := by
  obtain ⟨a, cap, rfl, hlc, hc, hb⟩ := h.form
  have hl := hb.2.1
  refine CallG.start (C := mkC Hvaf.prog) cok (args := [.slice a da.length cap]) Hvaf.func90 rfl Hvaf.ntmps90 (by simp) (by kernel_rfl) ?_
  repeat (first | refine SeqS.goRS cok ?_)
  refine (trim_spec hb).mono ?_
  rintro r _ _ ⟨rfl, k, hk, rfl⟩
  have c1 := hb.cut hk.le
  have f1 := hk.le
  have n1 := hk.norm
  rw [← hk.val]
  have g1 : k = (da.take k).length := by simp; omega
  generalize da.take k = p at *
  subst g1
  clear hb h hk
  repeat (first | refine SeqS.go cok ?_)
  refine CondS.dec rfl (fun h1 => ?_) (fun h1 => ?_)
  · repeat (first | refine SeqS.go cok ?_)
    refine Fin.same ⟨rfl, ?_⟩
    have h2 := norm_ge n1 (by omega)
    have h3 : 256 ^ 8 ≤ 256 ^ (p.length - 1) := Nat.pow_le_pow_right (by omega) (by omega)
    have h4 : ¬ val p < 2 ^ 64 := by omega
    rw [if_neg h4, show decide (val p < 2 ^ 64) = false by simp; omega]; rfl
  have hlt := val_lt p c1.1
  have h3 : 256 ^ p.length ≤ 256 ^ 8 := Nat.pow_le_pow_right (by omega) (by omega)
  have h4 : val p < 2 ^ 64 := by omega
  rw [if_pos h4, show decide (val p < 2 ^ 64) = true by simp; omega]
  repeat (first | refine SeqS.go cok ?_)
  refine W.loopE cok (by kernel_rfl) 0 (fun (i : Nat) e' S' => S = S' ∧ i ≤ p.length ∧ slots [(0, .slice a p.length p.length), (4, .int .u64 (val (p.drop i) : Nat)), (5, .int .i64 (i : Nat))] e') id p.length ?_
    (fun e' S' => S = S' ∧ slots [(4, .int .u64 (val p : Nat))] e') ?_ ?_
  · exact ⟨rfl, Nat.le_refl _, rfl, by rw [List.drop_length]; rfl, rfl, trivial⟩
  · rintro e' _ _ ⟨rfl, hs⟩
    refine SeqS.slots cok _ hs fun e => ?_
    repeat (first | refine SeqS.go cok ?_)
    exact Fin.same ⟨rfl, rfl⟩
  · rintro i e' _ _ ⟨rfl, hi, hs⟩
    refine W.slots _ hs fun e => ?_
    repeat (first | refine SeqS.go cok ?_)
    refine CondS.dec rfl (fun hc => ?_) (fun hc => ?_)
    · obtain ⟨x, o, rfl, hx, hbs⟩ := c1.some (by omega)
      have hd1 := getD_lt c1.1 (i - 1)
      have hv := val_lt (p.drop i) (fun d hd => c1.1 d (List.mem_of_mem_drop hd))
      have h5 : (p.drop i).length ≤ 7 := by simp; omega
      have h6 : 256 ^ (p.drop i).length ≤ 256 ^ 7 := Nat.pow_le_pow_right (by omega) h5
      repeat (first | refine SeqS.go cok ?_ | refine And.intro (by omega) ?_ | (refine NatS.keep ?_; first | with_reducible refine NatS.nat ?_) | (refine ValS.keep ?_; first | (with_reducible refine ValS.kI64 ?_; first | (with_reducible refine ValS.subI64_L ?_ ?_ ?_ ; omega; omega)) | (with_reducible refine ValS.kU64 ?_; first | (with_reducible refine ValS.convU64 ?_ ?_ ; omega) | (with_reducible refine ValS.orU64 ?_ ?_ ?_ ; omega; omega) | (with_reducible refine ValS.shlU64_L ?_ ?_ ?_ ; omega; omega))) | (refine QuG.keep ?_; first | refine QuG.bs cok (by assumption) (by assumption) rfl rfl rfl rfl (by omega) ?_))
      rw [or_byte _ _ hd1]
      skip
      refine ⟨i - 1, ⟨rfl, by omega, rfl, ?_, rfl, trivial⟩, by show i - 1 < i; omega⟩
      refine vint ?_
      rw [val_drop p (i - 1) (by omega), show i - 1 + 1 = i by omega]; omega
    · have : i = 0 := by omega
      subst this
      skip
      exact ⟨rfl, rfl, trivial⟩

/-- nat.FromU64 -/
theorem FromU64_spec {S : St} {n : Nat} (hn : n < 2 ^ 64) :
    CallG Hvaf.prog 97 #[.int .u64 (n : Nat)] S fun r S' => S'.G = S.G ∧ NatI S'.I r n := by
  refine CallG.start (C := mkC Hvaf.prog) cok (args := [.int .u64 (n : Nat)]) Hvaf.func97 rfl Hvaf.ntmps97 (by simp) (by kernel_rfl) ?_
  repeat (first | refine SeqS.go cok ?_)
  intro b
  repeat (first | refine SeqS.go cok ?_)
  refine W.loopE cok (by kernel_rfl) 0 (fun (i : Nat) e' S' => ∃ c ds, S' = ⟨S.I, ⟨b, 8, 272, c⟩ :: S.G⟩ ∧ Ow c ds ∧ ds.length = 8 ∧ (∀ d ∈ ds, d < 256) ∧ i ≤ 8 ∧ val (ds.take i) + 256 ^ i * (n / 256 ^ i) = n ∧ slots [(0, .int .u64 ((n / 256 ^ i : Nat) : Int)), (3, ptr b 0), (5, .int .i64 (i : Nat))] e') (fun i => 8 - i) 0 ?_
    (fun e' S' => ∃ c ds, S' = ⟨S.I, ⟨b, 8, 272, c⟩ :: S.G⟩ ∧ Ow c ds ∧ ds.length = 8 ∧ (∀ d ∈ ds, d < 256) ∧ val ds = n ∧ slots [(3, ptr b 0)] e') ?_ ?_
  · exact ⟨_, List.replicate 8 0, rfl, Ow.zero _ fun i _ => rfl, by simp, by simp, by omega, by simp [val], by rw [Nat.pow_zero, Nat.div_one]; rfl, rfl, rfl, trivial⟩
  · rintro e' _ _ ⟨c, ds, rfl, how, hol, hod, hval, hs⟩
    refine SeqS.slots cok _ hs fun e => ?_
    repeat (first | refine And.intro (Eq.refl true) ?_ | (refine ValS.keep ?_; first | with_reducible refine ValS.sl0 ?_))
    have hby : Byt ⟨S.I, ⟨b, 8, 272, c⟩ :: S.G⟩ (sl b 0 8 8) ds := by
      have := Byt.own (S := ⟨S.I, ⟨b, 8, 272, c⟩ :: S.G⟩) (x := ⟨b, 8, 272, c⟩) (cap := 8) (.inr List.mem_cons_self) how hod (by omega) (by show _ ≤ 8; omega) (by omega) (by omega)
      rw [hol] at this; exact this
    refine (Norm_spec hby (by rw [hval]; exact NB_lt (by omega))).mono ?_
    rintro r ⟨I', G'⟩ _ ⟨hG, hr⟩
    have hG : G' = _ := hG
    subst hG
    rw [hval] at hr
    repeat (first | refine SeqS.go cok ?_)
    exact Fin.drop S.G [_] ⟨rfl, hr⟩
  · rintro i e' _ _ ⟨c, ds, rfl, how, hol, hod, hi, hval, hs⟩
    refine W.slots _ hs fun e => ?_
    repeat (first | refine SeqS.go cok ?_)
    refine CondS.dec rfl (fun hc => ?_) (fun hc => ?_)
    · have hle : n / 256 ^ i ≤ n := Nat.div_le_self _ _
      repeat (first | refine SeqS.go cok ?_ | refine And.intro (by dsimp only; omega) ?_ | (refine NatS.keep ?_; first | with_reducible refine NatS.nat ?_) | (refine ValS.keep ?_; first | (with_reducible refine ValS.kU8 ?_; first | (with_reducible refine ValS.convWU8 ?_ ))))
      refine OpG.ow cok 0 rfl (ds := ds) how rfl rfl rfl rfl rfl rfl (d := n / 256 ^ i % 256) rfl (by omega) (by show _ ≤ 8; omega) fun c2 hown => ?_
      repeat (first | refine SeqS.go cok ?_ | refine And.intro (by omega) ?_ | (refine ValS.keep ?_; first | (with_reducible refine ValS.kI64 ?_; first | (with_reducible refine ValS.addI64_L ?_ ?_ ; omega)) | (with_reducible refine ValS.kU64 ?_; first | (with_reducible refine ValS.shrU64_L ?_ ?_ ; omega))))
      refine ⟨i + 1, ⟨c2, _, rfl, hown, by simp [hol], mem_set_lt hod (by omega), by omega, ?_, ?_, rfl, rfl, trivial⟩, by show 8 - (i + 1) < 8 - i; omega⟩
      · rw [val_set_succ _ _ _ (by omega), Nat.pow_succ, ← Nat.div_div_eq_div_mul]
        generalize n / 256 ^ i = m at *
        generalize 256 ^ i = P at *
        have := Nat.div_add_mod m 256
        generalize m / 256 = q at *
        generalize m % 256 = r at *
        grind
      · refine vint ?_
        have : n / 256 ^ i / 2 ^ 8 = n / 256 ^ (i + 1) := by rw [Nat.div_div_eq_div_mul]; rfl
        rw [← this]
    · have : i = 8 := by omega
      subst this
      skip
      refine ⟨c, ds, rfl, how, hol, hod, ?_, rfl, trivial⟩
      rw [val_take_all _ _ (by omega)] at hval
      omega
end Go.Proofs.YgvafwGreat
