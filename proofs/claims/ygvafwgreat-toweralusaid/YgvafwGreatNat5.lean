import Derived.Test.YgvafwGreatNat4
set_option maxRecDepth 100000
set_option linter.unusedVariables false
set_option linter.unusedSimpArgs false
namespace Go.Proofs.YgvafwGreat
open Go.HL Go.Proofs

theorem take_nil {S : St} {u : Value} :
    CallG Hvaf.prog 226 #[.slice none 0 0, u] S fun r S' => S = S' ∧ r = .int .u16 0 := by
  refine CallG.start (C := mkC Hvaf.prog) cok (args := [.slice none 0 0, u]) Hvaf.func226 rfl Hvaf.ntmps226 (by simp) (by kernel_rfl) ?_
  repeat (first | refine SeqS.go cok ?_)
  refine W.loopE cok (by kernel_rfl) 0 (fun (i : Nat) e' S' => S = S' ∧ slots [(5, .int .u16 0), (10, .int .i64 0), (11, .int .i64 0)] e') id 0 ⟨rfl, rfl, rfl, rfl, trivial⟩
    (fun e' S' => S = S' ∧ slots [(5, .int .u16 0)] e') ?_ ?_
  · rintro e' _ _ ⟨rfl, hs⟩
    refine SeqS.slots cok _ hs fun e => ?_
    repeat (first | refine SeqS.go cok ?_)
    exact Fin.same ⟨rfl, rfl⟩
  · rintro i e' _ _ ⟨rfl, hs⟩
    refine W.slots _ hs fun e => ?_
    repeat (first | refine SeqS.go cok ?_ | refine CondS.f rfl ?_)
    exact ⟨rfl, rfl, trivial⟩

theorem cmpI_neg (a b : Nat) : cmpI a b < 0 ↔ a < b := by unfold cmpI; split <;> (try split) <;> omega

theorem ow_take {c : Nat → Value} {ds : List Nat} {k : Nat} (h : Ow c (ds.take k)) : Ow c (ds.take k) := h

/-- nat.Sub -/
theorem Sub_byt {S : St} {v u : Value} {da db : List Nat} (h : Byt S v da) (h' : Byt S u db) (hda : da.length ≤ 400) (hv : val da < NB) :
    CallG Hvaf.prog 135 #[v, u] S fun r S' => S'.G = S.G ∧ ∃ w, r = .tuple #[w, .bool (decide (val db ≤ val da))] ∧ NatI S'.I w (val da - val db) := by
  obtain ⟨a, cap, rfl, hlc, hc, hb⟩ := h.form
  obtain ⟨a', cap', rfl, hlc', hc', hb'⟩ := h'.form
  refine CallG.start (C := mkC Hvaf.prog) cok (args := [.slice a da.length cap, .slice a' db.length cap']) Hvaf.func135 rfl Hvaf.ntmps135 (by simp) (by kernel_rfl) ?_
  skip
  refine SeqS.go cok ?_
  refine (Cmp_byt hb hb').mono ?_
  rintro r _ _ ⟨rfl, rfl⟩
  repeat (first | refine SeqS.go cok ?_)
  refine CondS.dec rfl (fun h1 => ?_) (fun h1 => ?_)
  · repeat (first | refine SeqS.go cok ?_)
    have h1 := (cmpI_neg _ _).1 h1
    refine Fin.same ⟨rfl, .slice none 0 0, ?_, ?_⟩
    · rw [show decide (val db ≤ val da) = false by simp; omega]; rfl
    · rw [show val da - val db = 0 by omega]; exact NatI.zero _
  have h1 : val db ≤ val da := by
    have := (not_congr (cmpI_neg (val da) (val db))).1 h1; omega
  repeat (first | refine SeqS.go cok ?_)
  obtain ⟨I, G⟩ := S
  refine (Norm_own hb).mono ?_
  rintro r ⟨I', G'⟩ _ ⟨hI, k, hk, hcase⟩
  have hI : I = I' := hI
  subst hI
  rcases hcase with ⟨rfl, rfl, hG⟩ | ⟨hk0, b, c, hG, how, rfl⟩
  · have hG : G' = G := hG
    subst hG
    have hz : val da = 0 := by have := hk.val; simp [val] at this; omega
    repeat (first | refine SeqS.go cok ?_)
    refine (trim_spec hb').mono ?_
    rintro r _ _ ⟨rfl, k', hk', rfl⟩
    skip
    refine take_nil.mono ?_
    rintro r _ _ ⟨rfl, rfl⟩
    repeat (first | refine SeqS.go cok ?_)
    refine (clip_spec (Byt.nil _)).mono ?_
    rintro r _ _ ⟨rfl, k2, hk2, rfl⟩
    have : k2 = 0 := by have := hk2.le; simpa using this
    subst this
    repeat (first | refine SeqS.go cok ?_)
    refine Fin.same ⟨rfl, .slice none 0 0, ?_, ?_⟩
    · rw [show decide (val db ≤ val da) = true by simp; omega]; rfl
    · rw [show val da - val db = 0 by omega]; exact NatI.zero _
  · have hG : G' = _ := hG
    subst hG
    repeat (first | refine SeqS.go cok ?_)
    refine (trim_spec (Byt.tail hb')).mono ?_
    rintro r _ _ ⟨rfl, k', hk', rfl⟩
    have hbt := hb'.cut hk'.le
    have hlen : (da.take k).length = k := by have := hk.le; simp; omega
    have hle := hk.le
    have hle' := hk'.le
    have hkk : (db.take k').length ≤ k := by
      refine Nat.le_of_not_lt fun hlt => ?_
      have := val_len_lt (da.take k) (db.take k') (fun d hd => hb.1 d (List.mem_of_mem_take hd)) (by omega) hk'.norm
      rw [hk.val, hk'.val] at this; omega
    have hlen' : (db.take k').length = k' := by simp; omega
    skip
    refine (take_spec how (fun d hd => hb.1 d (List.mem_of_mem_take hd)) hlen (by omega) hbt hkk).mono ?_
    rintro r _ _ ⟨c', out, br, rfl, how', hol, hod, hbr, hsum, rfl⟩
    rw [hk.val, hk'.val] at hsum
    have hout : val out = val da - val db := by
      have := val_lt out hod
      rw [hol] at this
      have hbr0 : br = 0 := by
        rcases Nat.eq_zero_or_pos br with h | h
        · exact h
        · have : br = 1 := by omega
          subst this; omega
      subst hbr0; omega
    repeat (first | refine SeqS.go cok ?_)
    refine (clip_nat (S := ⟨I, G⟩) how' hod hol (by omega) (by rw [hout]; omega)).mono ?_
    rintro r _ _ ⟨rfl, hr⟩
    repeat (first | refine SeqS.go cok ?_)
    refine Fin.frz [_] _ ?_
    refine ⟨rfl, r, ?_, by rw [← hout]; exact hr _ (.inr List.mem_cons_self)⟩
    rw [show decide (val db ≤ val da) = true by simp; omega]; rfl

theorem getD_rep (n j : Nat) : (List.replicate n 0).getD j 0 = 0 := by
  simp only [List.getD_eq_getElem?_getD, List.getElem?_replicate]; split <;> rfl
theorem val_rep (n k : Nat) (q : List Nat) : val ((List.replicate n 0).take k) = val (([] : List Nat).take 0) * val q := by
  rw [val_zeros]
  · simp [val]
  · intro d hd; exact List.eq_of_mem_replicate (List.mem_of_mem_take hd)
theorem step_mul (v c P x y o : Nat) (w : Nat) (h : v + c * P = w) : v + P * ((c + (x * y + o)) % 256) + (c + (x * y + o)) / 256 * (P * 256) = w + P * (x * y) + P * o := by
  have := Nat.div_add_mod (c + (x * y + o)) 256
  generalize (c + (x * y + o)) / 256 = q at *
  generalize (c + (x * y + o)) % 256 = r at *
  generalize x * y = z at *
  grind

/-- nat.Mul -/
theorem Mul_byt {S : St} {v u : Value} {da db : List Nat} (h : Byt S v da) (h' : Byt S u db) (hda : da.length ≤ 200) (hdb : db.length ≤ 200) (hv : val da * val db < NB) :
    CallG Hvaf.prog 60 #[v, u] S fun r S' => S'.G = S.G ∧ NatI S'.I r (val da * val db) := by
  obtain ⟨a, cap, rfl, hlc, hc, hb⟩ := h.form
  obtain ⟨a', cap', rfl, hlc', hc', hb'⟩ := h'.form
  refine CallG.start (C := mkC Hvaf.prog) cok (args := [.slice a da.length cap, .slice a' db.length cap']) Hvaf.func60 rfl Hvaf.ntmps60 (by simp) (by kernel_rfl) ?_
  repeat (first | refine SeqS.goRS cok ?_)
  refine (trim_spec hb).mono ?_
  rintro r _ _ ⟨rfl, k, hk, rfl⟩
  repeat (first | refine SeqS.goRS cok ?_)
  refine (trim_spec hb').mono ?_
  rintro r _ _ ⟨rfl, k', hk', rfl⟩
  have c1 := hb.cut hk.le
  have c2 := hb'.cut hk'.le
  have f1 := hk.le
  have f2 := hk'.le
  rw [← hk.val, ← hk'.val] at hv ⊢
  have g1 : k = (da.take k).length := by simp; omega
  have g2 : k' = (db.take k').length := by simp; omega
  generalize da.take k = p at *
  generalize db.take k' = q at *
  subst g1; subst g2
  clear hk hk' hb hb' h h'
  repeat (first | refine SeqS.goRS cok ?_ | refine And.intro (by dsimp only; omega) ?_ | (refine NatS.keep ?_; first | with_reducible refine NatS.nat ?_) | (refine ValS.keep ?_; first | (with_reducible refine ValS.kI64 ?_; first | (with_reducible refine ValS.addI64 ?_ ?_ ; omega))))
  intro b
  repeat (first | refine SeqS.go cok ?_)
  refine W.loopE cok (by kernel_rfl) 0 (fun (i : Nat) e' S' => ∃ c out, S' = ⟨S.I, ⟨b, p.length + q.length, 5, c⟩ :: S.G⟩ ∧ Ow c out ∧ out.length = p.length + q.length ∧ (∀ d ∈ out, d < 256) ∧ i ≤ p.length ∧ (∀ j, i + q.length ≤ j → out.getD j 0 = 0) ∧ val (out.take (i + q.length)) = val (p.take i) * val q ∧
      slots [(0, .slice a p.length p.length), (1, .slice a' q.length q.length), (5, sl b 0 (p.length + q.length) (p.length + q.length)), (21, .slice a p.length p.length), (22, .int .i64 (p.length : Nat)), (23, .int .i64 (i : Nat))] e') (fun i => p.length - i) 0 ?_
    (fun e' S' => ∃ c out, S' = ⟨S.I, ⟨b, p.length + q.length, 5, c⟩ :: S.G⟩ ∧ Ow c out ∧ out.length = p.length + q.length ∧ (∀ d ∈ out, d < 256) ∧ val out = val p * val q ∧
      slots [(5, sl b 0 (p.length + q.length) (p.length + q.length))] e') ?_ ?_
  · exact ⟨_, List.replicate (p.length + q.length) 0, rfl, Ow.zero _ fun i _ => rfl, by simp, by simp, by omega, fun j _ => getD_rep _ _, by simpa using val_rep (p.length + q.length) (0 + q.length) q, rfl, rfl, rfl, rfl, rfl, rfl, trivial⟩
  · rintro e' _ _ ⟨c, out, rfl, how, hol, hod, hval, hs⟩
    refine SeqS.slots cok _ hs fun e => ?_
    skip
    refine (clip_nat (S := S) how hod hol (by omega) (by rw [hval]; exact hv)).mono ?_
    rintro r _ _ ⟨rfl, hr⟩
    repeat (first | refine SeqS.go cok ?_)
    refine Fin.frz [_] _ ?_
    exact ⟨rfl, by rw [← hval]; exact hr _ (.inr List.mem_cons_self)⟩
  · rintro i e' _ _ ⟨c, out, rfl, how, hol, hod, hi, hz, hval, hs⟩
    refine W.slots _ hs fun e => ?_
    repeat (first | refine SeqS.go cok ?_)
    refine CondS.dec rfl (fun hc => ?_) (fun hc => ?_)
    · obtain ⟨x, o, rfl, hx, hbs⟩ := c1.some (by omega)
      have hx := Rd.tail (y := ⟨b, p.length + q.length, 5, c⟩) hx
      have hd1 := getD_lt c1.1 i
      repeat (first | refine SeqS.go cok ?_ | refine And.intro (by omega) ?_ | (refine NatS.keep ?_; first | with_reducible refine NatS.nat ?_) | (refine QuG.keep ?_; first | refine QuG.bs cok (by assumption) (by assumption) rfl rfl rfl rfl (by omega) ?_))
      refine W.loopE cok (by kernel_rfl) 2 (fun (j : Nat) e' S' => ∃ c' out' cy, S' = ⟨S.I, ⟨b, p.length + q.length, 5, c'⟩ :: S.G⟩ ∧ Ow c' out' ∧ out'.length = p.length + q.length ∧ (∀ d ∈ out', d < 256) ∧ j ≤ q.length ∧ cy < 256 ∧ (∀ m, i + j ≤ m → out'.getD m 0 = out.getD m 0) ∧ val (out'.take (i + j)) + cy * 256 ^ (i + j) = val (out.take (i + j)) + 256 ^ i * p.getD i 0 * val (q.take j) ∧
          slots [(0, .slice (some ⟨x.b, o, none⟩) p.length p.length), (1, .slice a' q.length q.length), (5, sl b 0 (p.length + q.length) (p.length + q.length)), (6, .int .i64 (i : Nat)), (7, .int .u8 (p.getD i 0 : Nat)), (8, .int .u32 (cy : Nat)), (21, .slice (some ⟨x.b, o, none⟩) p.length p.length), (22, .int .i64 (p.length : Nat)), (23, .int .i64 (i : Nat)), (28, .slice a' q.length q.length), (29, .int .i64 (q.length : Nat)), (30, .int .i64 (j : Nat))] e') (fun j => q.length - j) 0 ?_
        (fun e' S' => ∃ c' out' cy, S' = ⟨S.I, ⟨b, p.length + q.length, 5, c'⟩ :: S.G⟩ ∧ Ow c' out' ∧ out'.length = p.length + q.length ∧ (∀ d ∈ out', d < 256) ∧ cy < 256 ∧ (∀ m, i + q.length ≤ m → out'.getD m 0 = out.getD m 0) ∧ val (out'.take (i + q.length)) + cy * 256 ^ (i + q.length) = val (out.take (i + q.length)) + 256 ^ i * p.getD i 0 * val q ∧
          slots [(0, .slice (some ⟨x.b, o, none⟩) p.length p.length), (1, .slice a' q.length q.length), (5, sl b 0 (p.length + q.length) (p.length + q.length)), (6, .int .i64 (i : Nat)), (7, .int .u8 (p.getD i 0 : Nat)), (8, .int .u32 (cy : Nat)), (21, .slice (some ⟨x.b, o, none⟩) p.length p.length), (22, .int .i64 (p.length : Nat)), (23, .int .i64 (i : Nat))] e') ?_ ?_
      · exact ⟨c, out, 0, rfl, how, hol, hod, by omega, by omega, fun m _ => rfl, by simp [val], rfl, rfl, rfl, rfl, rfl, rfl, rfl, rfl, rfl, rfl, rfl, rfl, trivial⟩
      · rintro e' _ _ ⟨c', out', cy, rfl, how', hol', hod', hcy, hz', hval', hs⟩
        refine SeqS.slots cok _ hs fun e => ?_
        repeat (first | refine And.intro (by omega) ?_ | (refine NatS.keep ?_; first | with_reducible refine NatS.nat ?_) | (refine ValS.keep ?_; first | (with_reducible refine ValS.kI64 ?_; first | (with_reducible refine ValS.addI64 ?_ ?_ ; omega)) | (with_reducible refine ValS.kU8 ?_; first | (with_reducible refine ValS.convU8 ?_ ?_ ; omega))))
        refine OpG.ow cok 0 rfl how' rfl rfl rfl rfl rfl rfl rfl (by omega) (by show _ ≤ p.length + q.length; omega) fun c2 hown => ?_
        repeat (first | refine SeqS.go cok ?_ | (refine ValS.keep ?_; first | (with_reducible refine ValS.kI64 ?_; first | (with_reducible refine ValS.addI64_L ?_ ?_ ; omega))))
        refine ⟨i + 1, ⟨c2, _, rfl, hown, by simp [hol'], mem_set_lt hod' hcy, by omega, fun j hj => ?_, ?_, rfl, rfl, rfl, rfl, rfl, rfl, trivial⟩, ?_⟩
        · rw [getD_set _ _ _ _ (by omega), if_neg (by omega), hz' j (by omega), hz j (by omega)]
        · rw [show i + 1 + q.length = i + q.length + 1 by omega, val_set_succ _ _ _ (by omega), val_take_succ, Nat.mul_comm, hval', hval]
          grind
        · show p.length - (i + 1) < p.length - i; omega
      · rintro j e' _ _ ⟨c', out', cy, rfl, how', hol', hod', hj, hcy, hz', hval', hs⟩
        refine W.slots _ hs fun e => ?_
        repeat (first | refine SeqS.go cok ?_)
        refine CondS.dec rfl (fun hc2 => ?_) (fun hc2 => ?_)
        · obtain ⟨y, o2, rfl, hy, hbs2⟩ := c2.some (by omega)
          have hy := Rd.tail (y := ⟨b, p.length + q.length, 5, c'⟩) hy
          have hd2 := getD_lt c2.1 j
          have hd3 := getD_lt hod (i + j)
          have hxy : p.getD i 0 * q.getD j 0 ≤ 255 * 255 := Nat.mul_le_mul (by omega) (by omega)
          repeat (first | refine SeqS.go cok ?_ | refine And.intro (by omega) ?_ | (refine NatS.keep ?_; first | with_reducible refine NatS.nat ?_) | (refine ValS.keep ?_; first | (with_reducible refine ValS.kI64 ?_; first | (with_reducible refine ValS.addI64 ?_ ?_ ; omega)) | (with_reducible refine ValS.kU32 ?_; first | (with_reducible refine ValS.convU32 ?_ ?_ ; omega) | (with_reducible refine ValS.mulU32 ?_ ?_ ; omega))) | (refine QuG.keep ?_; first | refine QuG.bs cok (by assumption) (by assumption) rfl rfl rfl rfl (by omega) ?_))
          refine QuG.ow cok 0 rfl how' rfl rfl rfl rfl rfl rfl (by omega) (by show _ ≤ p.length + q.length; omega) ?_
          rw [hz' (i + j) (Nat.le_refl _)]
          repeat (first | refine SeqS.go cok ?_ | refine And.intro (by omega) ?_ | (refine NatS.keep ?_; first | with_reducible refine NatS.nat ?_) | (refine ValS.keep ?_; first | (with_reducible refine ValS.kI64 ?_; first | (with_reducible refine ValS.addI64 ?_ ?_ ; omega)) | (with_reducible refine ValS.kU8 ?_; first | (with_reducible refine ValS.convWU8 ?_ )) | (with_reducible refine ValS.kU32 ?_; first | (with_reducible refine ValS.convU32 ?_ ?_ ; omega) | (with_reducible refine ValS.addU32 ?_ ?_ ; omega))))
          refine OpG.ow cok 0 rfl how' rfl rfl rfl rfl rfl rfl rfl (by omega) (by show _ ≤ p.length + q.length; omega) fun c2 hown => ?_
          repeat (first | refine SeqS.go cok ?_ | refine And.intro (by omega) ?_ | (refine ValS.keep ?_; first | (with_reducible refine ValS.kI64 ?_; first | (with_reducible refine ValS.addI64_L ?_ ?_ ; omega)) | (with_reducible refine ValS.kU32 ?_; first | (with_reducible refine ValS.shrU32_L ?_ ?_ ; omega))))
          refine ⟨j + 1, ⟨c2, _, _, rfl, hown, by simp [hol'], mem_set_lt hod' (by omega), by omega, ?_, fun m hm => ?_, ?_, rfl, rfl, rfl, rfl, rfl, rfl, rfl, rfl, rfl, rfl, rfl, rfl, trivial⟩, ?_⟩
          · show _ / 2 ^ 8 < 256; omega
          · rw [getD_set _ _ _ _ (by omega), if_neg (by omega), hz' m (by omega)]
          · rw [show i + (j + 1) = i + j + 1 by omega, val_set_succ _ _ _ (by omega), val_take_succ, val_take_succ, Nat.pow_succ]
            have := step_mul _ _ _ (p.getD i 0) (q.getD j 0) (out.getD (i + j) 0) _ hval'
            refine this.trans ?_
            rw [Nat.pow_add]; grind
          · show q.length - (j + 1) < q.length - j; omega
        · have : j = q.length := by omega
          subst this
          skip
          refine ⟨c', out', cy, rfl, how', hol', hod', hcy, hz', ?_, rfl, rfl, rfl, rfl, rfl, rfl, rfl, rfl, rfl, trivial⟩
          rw [hval', val_take_all q _ (Nat.le_refl _)]
    · have : i = p.length := by omega
      subst this
      skip
      refine ⟨c, out, rfl, how, hol, hod, ?_, rfl, trivial⟩
      rw [val_take_all _ _ (by omega), val_take_all _ _ (by omega)] at hval
      exact hval
end Go.Proofs.YgvafwGreat
