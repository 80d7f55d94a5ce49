import Derived.Test.YgvafwGreatNat10
set_option maxRecDepth 100000
set_option linter.unusedVariables false
set_option linter.unusedSimpArgs false
namespace Go.Proofs.YgvafwGreat
open Go.HL Go.Proofs

theorem bit_nat (d k : Nat) : (d / 2 ^ k) &&& 1 = (d.testBit k).toNat := by
  rw [Nat.testBit_eq_decide_div_mod_eq, Nat.and_one_is_mod]
  have : d / 2 ^ k % 2 = 0 ∨ d / 2 ^ k % 2 = 1 := by omega
  rcases this with h | h <;> simp [h]
theorem val_set (l : List Nat) (k d : Nat) (h : k < l.length) : val (l.set k d) + 256 ^ k * l.getD k 0 = val l + 256 ^ k * d := by
  induction l generalizing k with
  | nil => simp at h
  | cons x l ih =>
    cases k with
    | zero => simp [val]; omega
    | succ k =>
      have := ih k (by simpa using h)
      simp only [List.set_cons_succ, val, List.getD_cons_succ, Nat.pow_succ]
      generalize val (l.set k d) = A at *
      generalize l.getD k 0 = B at *
      generalize val l = C at *
      generalize 256 ^ k = P at *
      grind
theorem toNat_le (b : Bool) : b.toNat ≤ 1 := by cases b <;> decide
theorem cmpI_ge (a b : Nat) : cmpI a b ≥ 0 ↔ b ≤ a := by unfold cmpI; split <;> (try split) <;> omega

/-- nat.DivMod -/
theorem DivMod_byt {S : St} {v u : Value} {da db : List Nat} (h : Byt S v da) (h' : Byt S u db) (hda : da.length ≤ 200) (hdb : db.length ≤ 200) (hv : val da < NB) (hv2 : val db < NB) :
    CallG Hvaf.prog 165 #[v, u] S fun r S' => S'.G = S.G ∧ ∃ q m, r = .tuple #[q, m, .bool (decide (val db ≠ 0))] ∧ NatI S'.I q (val da / val db) ∧ NatI S'.I m (if val db = 0 then 0 else val da % val db) := by
  obtain ⟨a, cap, rfl, hlc, hc, hb⟩ := h.form
  obtain ⟨a', cap', rfl, hlc', hc', hb'⟩ := h'.form
  refine CallG.start (C := mkC Hvaf.prog) cok (args := [.slice a da.length cap, .slice a' db.length cap']) Hvaf.func165 rfl Hvaf.ntmps165 (by simp) (by kernel_rfl) ?_
  repeat (first | refine SeqS.goRS cok ?_)
  refine (trim_spec hb).mono ?_
  rintro r _ _ ⟨rfl, k, hk, rfl⟩
  repeat (first | refine SeqS.goRS cok ?_)
  refine (trim_spec hb').mono ?_
  rintro r _ _ ⟨rfl, k', hk', rfl⟩
  have c1 := hb.cut hk.le
  have c2 := hb'.cut hk'.le
  have f1 := hk.le
  have f2 := hk'.le
  have n2 := hk'.norm
  rw [← hk.val, ← hk'.val] at *
  have g1 : k = (da.take k).length := by simp; omega
  have g2 : k' = (db.take k').length := by simp; omega
  generalize da.take k = p at *
  generalize db.take k' = q at *
  subst g1; subst g2
  clear hk hk' hb hb' h h'
  repeat (first | refine SeqS.go cok ?_)
  refine CondS.eqz rfl (fun h1 => ?_) (fun h1 => ?_)
  · repeat (first | refine SeqS.go cok ?_)
    have : q = [] := List.length_eq_zero_iff.1 (by omega)
    subst this
    refine Fin.same ⟨rfl, .slice none 0 0, .slice none 0 0, rfl, ?_, ?_⟩
    · simp only [val, Nat.div_zero]; exact NatI.zero _
    · simp only [val, if_true]; exact NatI.zero _
  have hB : 0 < val q := by
    have := norm_ge n2 (by omega)
    have h2 := Nat.pow_pos (n := q.length - 1) (show 0 < 256 by omega)
    omega
  rw [if_neg (by omega), show decide (val q ≠ 0) = true by simp; omega]
  repeat (first | refine SeqS.go cok ?_ | refine And.intro (by dsimp only; omega) ?_ | (refine NatS.keep ?_; first | with_reducible refine NatS.nat ?_))
  intro qb
  repeat (first | refine SeqS.go cok ?_ | refine And.intro (by dsimp only; omega) ?_ | (refine NatS.keep ?_; first | with_reducible refine NatS.nat ?_) | (refine ValS.keep ?_; first | (with_reducible refine ValS.kI64 ?_; first | (with_reducible refine ValS.addI64_L ?_ ?_ ; omega))))
  intro rb
  repeat (first | refine SeqS.go cok ?_ | (refine ValS.keep ?_; first | (with_reducible refine ValS.kI64 ?_; first | (with_reducible refine ValS.mulI64_M ?_ ?_ ; omega))))
  have hA : val p < 2 ^ (8 * p.length) := by
    have := val_lt p c1.1
    rwa [show (256 : Nat) = 2 ^ 8 from rfl, ← Nat.pow_mul] at this
  have hBl := val_lt q c2.1
  have hpw : 256 ^ (q.length + 1) = 256 ^ q.length * 256 := Nat.pow_succ ..
  refine W.loopE cok (by kernel_rfl) 0 (fun (i : Nat) e' S' => ∃ cq Q cr R, S' = ⟨S.I, ⟨rb, q.length + 1, 5, cr⟩ :: ⟨qb, p.length, 5, cq⟩ :: S.G⟩ ∧ Ow cq Q ∧ Q.length = p.length ∧ (∀ d ∈ Q, d < 256) ∧ Ow cr R ∧ R.length = q.length + 1 ∧ (∀ d ∈ R, d < 256) ∧ i ≤ 8 * p.length ∧ val R = val p / 2 ^ i % val q ∧ val Q = val p / 2 ^ i / val q * 2 ^ i ∧
      slots [(0, .slice a p.length p.length), (1, .slice a' q.length q.length), (7, sl qb 0 p.length p.length), (8, sl rb 0 (q.length + 1) (q.length + 1)), (9, .int .i64 (i : Nat))] e') id (8 * p.length) ?_
    (fun e' S' => ∃ cq Q cr R, S' = ⟨S.I, ⟨rb, q.length + 1, 5, cr⟩ :: ⟨qb, p.length, 5, cq⟩ :: S.G⟩ ∧ Ow cq Q ∧ Q.length = p.length ∧ (∀ d ∈ Q, d < 256) ∧ Ow cr R ∧ R.length = q.length + 1 ∧ (∀ d ∈ R, d < 256) ∧ val R = val p % val q ∧ val Q = val p / val q ∧
      slots [(7, sl qb 0 p.length p.length), (8, sl rb 0 (q.length + 1) (q.length + 1))] e') ?_ ?_
  · refine ⟨_, List.replicate p.length 0, _, List.replicate (q.length + 1) 0, rfl, Ow.zero _ fun i _ => rfl, by simp, by simp, Ow.zero _ fun i _ => rfl, by simp, by simp, by omega, ?_, ?_, rfl, rfl, rfl, rfl, rfl, trivial⟩
    · rw [val_zeros _ (by simp), Nat.div_eq_of_lt hA, Nat.zero_mod]
    · rw [val_zeros _ (by simp), Nat.div_eq_of_lt hA, Nat.zero_div, Nat.zero_mul]
  · rintro e' _ _ ⟨cq, Q, cr, R, rfl, oq, lq, dq, or, lr, dr, vr, vq, hs⟩
    refine SeqS.slots cok _ hs fun e => ?_
    skip
    refine (clip_own (x := ⟨qb, p.length, 5, cq⟩) (.inr (by simp)) oq dq lq (Nat.le_refl _) (by omega) (by rw [vq]; exact Nat.lt_of_le_of_lt (Nat.div_le_self _ _) hv)).mono ?_
    rintro r1 _ _ ⟨rfl, hr1⟩
    skip
    refine (clip_own (x := ⟨rb, q.length + 1, 5, cr⟩) (.inr (by simp)) or dr lr (Nat.le_refl _) (by omega) (by rw [vr]; exact Nat.lt_of_le_of_lt (Nat.mod_le _ _) hv)).mono ?_
    rintro r2 _ _ ⟨rfl, hr2⟩
    repeat (first | refine SeqS.go cok ?_)
    refine Fin.frz [_, _] _ ?_
    refine ⟨rfl, r1, r2, rfl, ?_, ?_⟩
    · rw [← vq]; exact hr1 _ (.inr (by simp))
    · rw [← vr]; exact hr2 _ (.inr (by simp))
  · rintro i e' _ _ ⟨cq, Q, cr, R, rfl, oq, lq, dq, or, lr, dr, hi, vr, vq, hs⟩
    refine W.slots _ hs fun e => ?_
    repeat (first | refine SeqS.go cok ?_)
    refine CondS.dec rfl (fun hc => ?_) (fun hc => ?_)
    · obtain ⟨x, o, rfl, hx, hbs⟩ := c1.some (by omega)
      have hx := Rd.tail (y := ⟨rb, q.length + 1, 5, cr⟩) (Rd.tail (y := ⟨qb, p.length, 5, cq⟩) hx)
      have hd1 := getD_lt c1.1 ((i - 1) / 8)
      have hd2 : p.getD ((i - 1) / 8) 0 / 2 ^ ((i - 1) % 8) < 256 := Nat.lt_of_le_of_lt (Nat.div_le_self _ _) hd1
      repeat (first | refine SeqS.go cok ?_ | refine And.intro (by omega) ?_ | (refine NatS.keep ?_; first | with_reducible refine NatS.nat ?_) | (refine ValS.keep ?_; first | (with_reducible refine ValS.kI64 ?_; first | (with_reducible refine ValS.subI64_L ?_ ?_ ?_ ; omega; omega) | (with_reducible refine ValS.quoI64_L ?_ ?_ ; omega) | with_reducible refine ValS.remN_L ?_) | (with_reducible refine ValS.kU64 ?_; first | (with_reducible refine ValS.convU64 ?_ ?_ ; omega)) | (with_reducible refine ValS.kU8 ?_; first | (with_reducible refine ValS.andU8_L ?_ ?_ ?_ ; omega; omega) | (with_reducible refine ValS.shrU8 ?_ ?_ ; omega))) | (refine QuG.keep ?_; first | refine QuG.bs cok (by assumption) (by assumption) rfl rfl rfl rfl (by omega) ?_))
      have hbit : p.getD ((i - 1) / 8) 0 / 2 ^ ((i - 1) % 8) &&& 1 = ((val p).testBit (i - 1)).toNat := by rw [bit_nat, val_testBit p c1.1]
      have hble := toNat_le ((val p).testBit (i - 1))
      have hst := div_step (val p) (val q) i hB (by omega)
      simp only [← vr] at hst
      rw [hbit]
      generalize ((val p).testBit (i - 1)).toNat = bt at *
      have hRB : val R < val q := by rw [vr]; exact Nat.mod_lt _ hB
      refine W.loopE cok (by kernel_rfl) 2 (fun (k : Nat) e' S' => ∃ cr' R' cy, S' = ⟨S.I, ⟨rb, q.length + 1, 5, cr'⟩ :: ⟨qb, p.length, 5, cq⟩ :: S.G⟩ ∧ Ow cr' R' ∧ R'.length = q.length + 1 ∧ (∀ d ∈ R', d < 256) ∧ cy ≤ 1 ∧ k ≤ q.length + 1 ∧ (∀ m, k ≤ m → R'.getD m 0 = R.getD m 0) ∧ val (R'.take k) + cy * 256 ^ k = 2 * val (R.take k) + bt ∧
          slots [(0, .slice (some ⟨x.b, o, none⟩) p.length p.length), (1, .slice a' q.length q.length), (7, sl qb 0 p.length p.length), (8, sl rb 0 (q.length + 1) (q.length + 1)), (9, .int .i64 (i : Nat)), (10, .int .i64 (((i - 1) / 8 : Nat) : Int)), (11, .int .u64 (((i - 1) % 8 : Nat) : Int)), (12, .int .u8 (cy : Nat)), (50, sl rb 0 (q.length + 1) (q.length + 1)), (51, .int .i64 ((q.length + 1 : Nat) : Int)), (52, .int .i64 (k : Nat))] e') (fun k => q.length + 1 - k) 0 ?_
        (fun e' S' => ∃ cr' R', S' = ⟨S.I, ⟨rb, q.length + 1, 5, cr'⟩ :: ⟨qb, p.length, 5, cq⟩ :: S.G⟩ ∧ Ow cr' R' ∧ R'.length = q.length + 1 ∧ (∀ d ∈ R', d < 256) ∧ val R' = 2 * val R + bt ∧
          slots [(0, .slice (some ⟨x.b, o, none⟩) p.length p.length), (1, .slice a' q.length q.length), (7, sl qb 0 p.length p.length), (8, sl rb 0 (q.length + 1) (q.length + 1)), (9, .int .i64 (i : Nat)), (10, .int .i64 (((i - 1) / 8 : Nat) : Int)), (11, .int .u64 (((i - 1) % 8 : Nat) : Int))] e') ?_ ?_
      · exact ⟨cr, R, bt, rfl, or, lr, dr, hble, by omega, fun m _ => rfl, by simp [val], rfl, rfl, rfl, rfl, rfl, rfl, rfl, rfl, rfl, rfl, rfl, trivial⟩
      · rintro e' _ _ ⟨cr', R', rfl, or', lr', dr', vr', hs⟩
        refine SeqS.slots cok _ hs fun e => ?_
        have hR' : Byt ⟨S.I, ⟨rb, q.length + 1, 5, cr'⟩ :: ⟨qb, p.length, 5, cq⟩ :: S.G⟩ (sl rb 0 (q.length + 1) (q.length + 1)) R' := by
          have := Byt.own (S := ⟨S.I, ⟨rb, q.length + 1, 5, cr'⟩ :: ⟨qb, p.length, 5, cq⟩ :: S.G⟩) (x := ⟨rb, q.length + 1, 5, cr'⟩) (cap := q.length + 1) (.inr List.mem_cons_self) or' dr' (by omega) (by rw [lr']; exact Nat.le_refl _) (by omega) (by omega)
          rw [lr'] at this; exact this
        skip
        refine (Cmp_byt hR' (Byt.tail (Byt.tail c2))).mono ?_
        rintro r _ _ ⟨rfl, rfl⟩
        repeat (first | refine SeqS.go cok ?_)
        refine CondS.dec rfl (fun h5 => ?_) (fun h5 => ?_)
        · have h5 : val q ≤ val R' := (cmpI_ge _ _).1 h5
          rw [vr'] at h5
          rw [if_pos h5, if_pos h5] at hst
          skip
          refine (take_spec (G := ⟨qb, p.length, 5, cq⟩ :: S.G) or' dr' lr' (by omega) (Byt.tail c2) (by omega)).mono ?_
          rintro r _ _ ⟨cr2, R2, br, rfl, or2, lr2, dr2, hbr, hs2, rfl⟩
          have hd4 := getD_lt dq ((i - 1) / 8)
          have hp : 1 * (2 : Nat) ^ ((i - 1) % 8) < 256 := by
            have : (2 : Nat) ^ ((i - 1) % 8) < 2 ^ 8 := Nat.pow_lt_pow_right (by omega) (by omega)
            omega
          have hoff : (Q.getD ((i - 1) / 8) 0).testBit ((i - 1) % 8) = false := by
            rw [← val_testBit Q dq, vq, ← Nat.shiftLeft_eq, Nat.testBit_shiftLeft]
            simp; omega
          have hor := or_pow_all _ hd4 _ (show (i - 1) % 8 < 8 by omega) hoff
          have hlt4 : Q.getD ((i - 1) / 8) 0 + 2 ^ ((i - 1) % 8) < 256 := by rw [← hor]; exact Nat.or_lt_two_pow (n := 8) hd4 hp
          repeat (first | refine SeqS.go cok ?_ | refine And.intro (by omega) ?_ | (refine NatS.keep ?_; first | with_reducible refine NatS.nat ?_))
          refine QuG.ow cok 1 rfl oq rfl rfl rfl rfl rfl rfl (by omega) (by show _ ≤ p.length; omega) ?_
          repeat (first | refine And.intro (by omega) ?_ | (refine NatS.keep ?_; first | with_reducible refine NatS.nat ?_) | (refine ValS.keep ?_; first | (with_reducible refine ValS.kU8 ?_; first | (with_reducible refine ValS.orU8 ?_ ?_ ?_ ; omega; omega) | (with_reducible refine ValS.shlU8_M ?_ ?_ ?_ ; omega; omega))))
          rw [hor]
          refine OpG.ow cok 1 rfl oq rfl rfl rfl rfl rfl rfl rfl (by omega) (by show _ ≤ p.length; omega) fun c3 hown => ?_
          repeat (first | refine SeqS.go cok ?_ | (refine ValS.keep ?_; first | (with_reducible refine ValS.kI64 ?_; first | (with_reducible refine ValS.subI64_L ?_ ?_ ?_ ; omega; omega))))
          refine ⟨i - 1, ⟨c3, _, cr2, R2, rfl, hown, by simp [lq], mem_set_lt dq hlt4, or2, lr2, dr2, by omega, ?_, ?_, rfl, rfl, rfl, rfl, rfl, trivial⟩, by show i - 1 < i; omega⟩
          · rw [hst.1]
            have := val_lt R2 dr2
            rw [lr2] at this
            rcases Nat.eq_zero_or_pos br with h0 | h0
            · subst h0; omega
            · have : br = 1 := by omega
              subst this; omega
          · rw [hst.2, ← vq]
            have h6 := val_set Q ((i - 1) / 8) (Q.getD ((i - 1) / 8) 0 + 2 ^ ((i - 1) % 8)) (by omega)
            have h7 : (256 : Nat) ^ ((i - 1) / 8) * 2 ^ ((i - 1) % 8) = 2 ^ (i - 1) := by
              rw [show (256 : Nat) = 2 ^ 8 from rfl, ← Nat.pow_mul, ← Nat.pow_add]
              congr 1; omega
            rw [Nat.mul_add, h7] at h6
            omega
        · have h5 : ¬ val q ≤ val R' := fun h => h5 ((cmpI_ge _ _).2 h)
          rw [vr'] at h5
          rw [if_neg h5, if_neg h5] at hst
          repeat (first | refine SeqS.go cok ?_ | (refine ValS.keep ?_; first | (with_reducible refine ValS.kI64 ?_; first | (with_reducible refine ValS.subI64_L ?_ ?_ ?_ ; omega; omega))))
          refine ⟨i - 1, ⟨cq, Q, cr', R', rfl, oq, lq, dq, or', lr', dr', by omega, ?_, ?_, rfl, rfl, rfl, rfl, rfl, trivial⟩, by show i - 1 < i; omega⟩
          · rw [hst.1, vr']
          · rw [hst.2, ← vq]; rfl
      · rintro k e' _ _ ⟨cr', R', cy, rfl, or', lr', dr', hcy, hk, hrest, hsum, hs⟩
        refine W.slots _ hs fun e => ?_
        repeat (first | refine SeqS.go cok ?_)
        refine CondS.dec rfl (fun hc2 => ?_) (fun hc2 => ?_)
        · have hd3 := getD_lt dr k
          repeat (first | refine SeqS.go cok ?_ | refine And.intro (by omega) ?_ | (refine NatS.keep ?_; first | with_reducible refine NatS.nat ?_))
          refine QuG.ow cok 0 rfl or' rfl rfl rfl rfl rfl rfl (by omega) (by show _ ≤ q.length + 1; omega) ?_
          rw [hrest k (Nat.le_refl _)]
          repeat (first | refine SeqS.go cok ?_ | refine And.intro (by omega) ?_ | (refine NatS.keep ?_; first | with_reducible refine NatS.nat ?_) | (refine ValS.keep ?_; first | (with_reducible refine ValS.kU8 ?_; first | (with_reducible refine ValS.orU8 ?_ ?_ ?_ ; omega; omega) | (with_reducible refine ValS.shlWU8_L ?_ ?_ ; omega))))
          rw [shl_or_all _ hd3 cy (by omega)]
          skip
          refine OpG.ow cok 0 rfl or' rfl rfl rfl rfl rfl rfl rfl (by omega) (by show _ ≤ q.length + 1; omega) fun c2 hown => ?_
          repeat (first | refine SeqS.go cok ?_ | refine And.intro (by omega) ?_ | (refine ValS.keep ?_; first | (with_reducible refine ValS.kI64 ?_; first | (with_reducible refine ValS.addI64_L ?_ ?_ ; omega)) | (with_reducible refine ValS.kU8 ?_; first | (with_reducible refine ValS.shrU8_L ?_ ?_ ; omega))))
          refine ⟨k + 1, ⟨c2, _, _, rfl, hown, by simp [lr'], mem_set_lt dr' (by omega), ?_, by omega, fun m hm => ?_, ?_, rfl, rfl, rfl, rfl, rfl, rfl, rfl, rfl, rfl, rfl, rfl, trivial⟩, by show q.length + 1 - (k + 1) < q.length + 1 - k; omega⟩
          · show _ / 2 ^ 7 ≤ 1; omega
          · rw [getD_set _ _ _ _ (by omega), if_neg (by omega), hrest m (by omega)]
          · rw [val_set_succ _ _ _ (by omega), val_take_succ, Nat.pow_succ]
            have := step_dbl _ _ _ _ _ hd3 hsum
            refine this.trans ?_
            omega
        · have : k = q.length + 1 := by omega
          subst this
          skip
          refine ⟨cr', R', rfl, or', lr', dr', ?_, rfl, rfl, rfl, rfl, rfl, rfl, rfl, trivial⟩
          rw [val_take_all _ _ (by omega), val_take_all _ _ (by omega)] at hsum
          rcases Nat.eq_zero_or_pos cy with h0 | h0
          · subst h0; omega
          · have : cy = 1 := by omega
            subst this; omega
    · have : i = 0 := by omega
      subst this
      skip
      refine ⟨cq, Q, cr, R, rfl, oq, lq, dq, or, lr, dr, ?_, ?_, rfl, rfl, trivial⟩
      · simpa using vr
      · simpa using vq
end Go.Proofs.YgvafwGreat
