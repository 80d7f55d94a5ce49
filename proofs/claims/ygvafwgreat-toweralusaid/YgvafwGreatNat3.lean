import Derived.Test.YgvafwGreatNat2
set_option maxRecDepth 100000
set_option linter.unusedVariables false
set_option linter.unusedSimpArgs false
namespace Go.Proofs.YgvafwGreat
open Go.HL Go.Proofs

theorem val_inj_cmp (p q : List Nat) (i : Nat) (hp : ∀ d ∈ p, d < 256) (hq : ∀ d ∈ q, d < 256) (hi : i < p.length) (hl : p.length = q.length) (hh : p.drop (i + 1) = q.drop (i + 1)) (hlt : p.getD i 0 < q.getD i 0) : val p < val q := by
  have e1 : p = p.take i ++ (p.getD i 0 :: p.drop (i + 1)) := by
    rw [List.getD_eq_getElem?_getD, List.getElem?_eq_getElem hi]; simp
  have e2 : q = q.take i ++ (q.getD i 0 :: q.drop (i + 1)) := by
    rw [List.getD_eq_getElem?_getD, List.getElem?_eq_getElem (by omega)]; simp
  have l1 : (p.take i).length = i := by simp; omega
  have l2 : (q.take i).length = i := by simp; omega
  have b1 := val_lt (p.take i) (fun d hd => hp d (List.mem_of_mem_take hd))
  rw [l1] at b1
  have v1 : val p = val (p.take i) + 256 ^ i * (p.getD i 0 + 256 * val (p.drop (i + 1))) := by
    conv => lhs; rw [e1]
    rw [val_append, l1]; rfl
  have v2 : val q = val (q.take i) + 256 ^ i * (q.getD i 0 + 256 * val (q.drop (i + 1))) := by
    conv => lhs; rw [e2]
    rw [val_append, l2]; rfl
  rw [v1, v2, hh]
  have h3 : 256 ^ i * (p.getD i 0 + 256 * val (q.drop (i + 1)) + 1) ≤ 256 ^ i * (q.getD i 0 + 256 * val (q.drop (i + 1))) := Nat.mul_le_mul_left _ (by omega)
  rw [Nat.mul_add, Nat.mul_one] at h3
  omega
theorem val_len_lt (p q : List Nat) (hp : ∀ d ∈ p, d < 256) (hl : p.length < q.length) (hq : Norm q) : val p < val q := by
  rcases hq with rfl | hq
  · simp at hl
  · have h1 := getD_le_val q (q.length - 1)
    have h2 := val_lt p hp
    have h3 : 256 ^ p.length ≤ 256 ^ (q.length - 1) := Nat.pow_le_pow_right (by omega) (by omega)
    have h4 : 256 ^ (q.length - 1) * 1 ≤ 256 ^ (q.length - 1) * q.getD (q.length - 1) 0 := Nat.mul_le_mul_left _ (Nat.pos_of_ne_zero hq)
    omega

def cmpI (a b : Nat) : Int := if a < b then -1 else if b < a then 1 else 0

/-- nat.Cmp -/
theorem Cmp_byt {S : St} {v u : Value} {da db : List Nat} (h : Byt S v da) (h' : Byt S u db) :
    CallG Hvaf.prog 131 #[v, u] S fun r S' => S = S' ∧ r = .int .i8 (cmpI (val da) (val db)) := by
  obtain ⟨a, cap, rfl, hlc, hc, hb⟩ := h.form
  obtain ⟨a', cap', rfl, hlc', hc', hb'⟩ := h'.form
  have hl := hb.2.1
  have hl' := hb'.2.1
  refine CallG.start (C := mkC Hvaf.prog) cok (args := [.slice a da.length cap, .slice a' db.length cap']) Hvaf.func131 rfl Hvaf.ntmps131 (by simp) (by kernel_rfl) ?_
  repeat (first | refine SeqS.goRS cok ?_)
  refine (trim_spec hb).mono ?_
  rintro r _ _ ⟨rfl, k, hk, rfl⟩
  repeat (first | refine SeqS.goRS cok ?_)
  refine (trim_spec hb').mono ?_
  rintro r _ _ ⟨rfl, k', hk', rfl⟩
  have c1 := hb.cut hk.le
  have c2 := hb'.cut hk'.le
  have f1 := hk.le
  have f2 := hk'.le
  have n1 := hk.norm
  have n2 := hk'.norm
  rw [← hk.val, ← hk'.val]
  have g1 : k = (da.take k).length := by simp; omega
  have g2 : k' = (db.take k').length := by simp; omega
  generalize da.take k = p at *
  generalize db.take k' = q at *
  subst g1; subst g2
  clear hb hb' h h' hk hk'
  repeat (first | refine SeqS.go cok ?_)
  refine CondS.dec rfl (fun h1 => ?_) (fun h1 => ?_)
  · repeat (first | refine SeqS.go cok ?_)
    refine Fin.same ⟨rfl, ?_⟩
    have := val_len_lt p q c1.1 (by omega) n2
    simp only [cmpI, if_pos this]; rfl
  repeat (first | refine SeqS.go cok ?_)
  refine CondS.dec rfl (fun h2 => ?_) (fun h2 => ?_)
  · repeat (first | refine SeqS.go cok ?_)
    refine Fin.same ⟨rfl, ?_⟩
    have := val_len_lt q p c2.1 (by omega) n1
    simp only [cmpI, if_pos this, if_neg (show ¬ val p < val q by omega)]; rfl
  have hlen : p.length = q.length := by omega
  repeat (first | refine SeqS.go cok ?_)
  refine W.loopE cok (by kernel_rfl) 0 (fun (i : Nat) e' S' => S = S' ∧ i ≤ p.length ∧ p.drop i = q.drop i ∧ slots [(0, .slice a p.length p.length), (1, .slice a' q.length q.length), (5, .int .i64 (i : Nat))] e') id p.length ?_
    (fun e' S' => S = S' ∧ p = q) ?_ ?_
  · exact ⟨rfl, Nat.le_refl _, by rw [List.drop_length, hlen, List.drop_length], rfl, rfl, rfl, trivial⟩
  · rintro e' _ _ ⟨rfl, rfl⟩
    repeat (first | refine SeqS.go cok ?_)
    refine Fin.same ⟨rfl, ?_⟩
    simp [cmpI]; rfl
  · rintro i e' _ _ ⟨rfl, hi, hd, hs⟩
    refine W.slots _ hs fun e => ?_
    repeat (first | refine SeqS.go cok ?_)
    refine CondS.dec rfl (fun hc => ?_) (fun hc => ?_)
    · obtain ⟨x, o, rfl, hx, hbs⟩ := c1.some (by omega)
      obtain ⟨y, o2, rfl, hy, hbs2⟩ := c2.some (by omega)
      repeat (first | refine SeqS.go cok ?_)
      refine W.draw cok [0, 0, 2, 7, 15, 0, 0, 64, 224, 480, 1023] [0, 1, 2, 3, 4, 5, 6, 7, 8, 9, 10] [4, 9] (by kernel_rfl) (by kernel_rfl) ?_
      repeat (first | refine SeqS.go cok ?_ | refine And.intro (by omega) ?_ | (refine NatS.keep ?_; first | with_reducible refine NatS.nat ?_) | (refine ValS.keep ?_; first | (with_reducible refine ValS.kI64 ?_; first | (with_reducible refine ValS.subI64_L ?_ ?_ ?_ ; omega; omega))) | (refine QuG.keep ?_; first | refine QuG.bs cok (by assumption) (by assumption) rfl rfl rfl rfl (by omega) ?_))
      have hd' : p.drop (i - 1 + 1) = q.drop (i - 1 + 1) := by rw [show i - 1 + 1 = i by omega]; exact hd
      refine CondS.dec rfl (fun h3 => ?_) (fun h3 => ?_)
      · repeat (first | refine SeqS.go cok ?_)
        refine Fin.same ⟨rfl, ?_⟩
        have := val_inj_cmp p q (i - 1) c1.1 c2.1 (by omega) hlen hd' (by omega)
        simp only [cmpI, if_pos this]; rfl
      repeat (first | refine SeqS.go cok ?_)
      refine W.draw cok [0, 0, 2, 7, 15, 0, 0, 64, 224, 480, 1023] [0, 1, 2, 3, 4, 5, 6, 7, 8, 9, 10] [4, 9] (by kernel_rfl) (by kernel_rfl) ?_
      repeat (first | refine SeqS.go cok ?_ | refine And.intro (by omega) ?_ | (refine NatS.keep ?_; first | with_reducible refine NatS.nat ?_) | (refine ValS.keep ?_; first | (with_reducible refine ValS.kI64 ?_; first | (with_reducible refine ValS.subI64_L ?_ ?_ ?_ ; omega; omega))) | (refine QuG.keep ?_; first | refine QuG.bs cok (by assumption) (by assumption) rfl rfl rfl rfl (by omega) ?_))
      refine CondS.dec rfl (fun h4 => ?_) (fun h4 => ?_)
      · repeat (first | refine SeqS.go cok ?_)
        refine Fin.same ⟨rfl, ?_⟩
        have := val_inj_cmp q p (i - 1) c2.1 c1.1 (by omega) hlen.symm hd'.symm (by omega)
        simp only [cmpI, if_pos this, if_neg (show ¬ val p < val q by omega)]; rfl
      repeat (first | refine SeqS.go cok ?_ | (refine ValS.keep ?_; first | (with_reducible refine ValS.kI64 ?_; first | (with_reducible refine ValS.subI64_L ?_ ?_ ?_ ; omega; omega))))
      refine ⟨i - 1, ⟨rfl, by omega, ?_, rfl, rfl, rfl, trivial⟩, by show i - 1 < i; omega⟩
      have e1 : p.drop (i - 1) = p.getD (i - 1) 0 :: p.drop (i - 1 + 1) := by
        rw [List.getD_eq_getElem?_getD, List.getElem?_eq_getElem (by omega)]; simp
      have e2 : q.drop (i - 1) = q.getD (i - 1) 0 :: q.drop (i - 1 + 1) := by
        rw [List.getD_eq_getElem?_getD, List.getElem?_eq_getElem (by omega)]; simp
      rw [e1, e2, hd', show p.getD (i - 1) 0 = q.getD (i - 1) 0 by omega]
    · have : i = 0 := by omega
      subst this
      skip
      exact ⟨rfl, by simpa using hd⟩
end Go.Proofs.YgvafwGreat
