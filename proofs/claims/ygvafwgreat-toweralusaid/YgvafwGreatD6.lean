import Derived.Test.YgvafwGreatD5
set_option maxRecDepth 100000
set_option maxHeartbeats 4000000
set_option linter.unusedVariables false
set_option linter.unusedSimpArgs false
-- v2
-- v3
namespace Go.Proofs.YgvafwGreat
open Go.HL Go.Proofs

theorem kn_le {N3 D2 X Vl Ul u v q : Nat} (hu : u = Ul + X * N3) (hv : v = Vl + X * D2) (hUl : Ul < X) (hq : q * v ≤ u) : q * D2 ≤ N3 := by
  have h1 : X * (q * D2) ≤ q * v := by rw [hv, Nat.mul_add, Nat.mul_left_comm]; omega
  have h2 : X * (q * D2) < X * (N3 + 1) := by rw [Nat.mul_add, Nat.mul_one]; omega
  have := Nat.lt_of_mul_lt_mul_left h2
  omega
theorem kn_ge {N3 D2 X Vl Ul u v Q : Nat} (hu : u = Ul + X * N3) (hv : v = Vl + X * D2) (hVl : Vl < X) (hQ : Q * D2 ≤ N3) (hQM : Q ≤ 18446744073709551616) (hD : 18446744073709551616 ≤ D2) : Q * v ≤ u + v := by
  have h1 : Q * v ≤ Q * (X * D2 + X) := Nat.mul_le_mul_left _ (by omega)
  have h2 : Q * (X * D2 + X) = X * (Q * D2) + X * Q := by rw [Nat.mul_add, Nat.mul_left_comm, Nat.mul_comm Q X]
  have h3 : X * (Q * D2) ≤ X * N3 := Nat.mul_le_mul_left _ hQ
  have h4 : X * Q ≤ X * D2 := Nat.mul_le_mul_left _ (by omega)
  omega
theorem kn_main {u v Q qt : Nat} (hv : 0 < v) (hqt : qt = u / v) (h1 : qt ≤ Q) (h2 : Q * v ≤ u + v) : Q = qt ∨ Q = qt + 1 := by
  have h3 : Q ≤ (u + v) / v := (Nat.le_div_iff_mul_le hv).2 h2
  rw [Nat.add_div_right _ hv] at h3
  omega
theorem kn_top {N3 D2 X Vl Ul u v h1 t1 a b d : Nat} (hu : u = Ul + X * N3) (hv : v = Vl + X * D2) (hVl : Vl < X) (huv : u < 18446744073709551616 * v) (hN : N3 = (h1 * 18446744073709551616 + a) * 18446744073709551616 + b) (hD : D2 = t1 * 18446744073709551616 + d) (hd : d < 18446744073709551616) : h1 ≤ t1 := by
  have e1 : X * N3 < X * (18446744073709551616 * (D2 + 1)) := by
    have : 18446744073709551616 * v < 18446744073709551616 * (X * (D2 + 1)) := Nat.mul_lt_mul_of_pos_left (by rw [Nat.mul_add, Nat.mul_one]; omega) (by decide)
    rw [Nat.mul_left_comm]; omega
  have e2 := Nat.lt_of_mul_lt_mul_left e1
  omega
theorem kn_rem0 {u v Q L U1 b : Nat} (hv : 0 < v) (hQ : Q = u / v) (e : U1 + Q * v = u + L * b) (hb : b ≤ 1) (hU : U1 < L) : b = 0 ∧ U1 = u % v := by
  have d := Nat.div_add_mod u v
  rw [← hQ, Nat.mul_comm] at d
  have : b = 0 ∨ b = 1 := by omega
  rcases this with rfl | rfl <;> omega
theorem kn_rem1 {u v Q L U1 b : Nat} (hv : 0 < v) (hQ : Q = u / v + 1) (e : U1 + Q * v = u + L * b) (hb : b ≤ 1) (hU : U1 < L) : b = 1 := by
  have d := Nat.div_add_mod u v
  have m := Nat.mod_lt u hv
  rw [hQ, Nat.add_mul, Nat.one_mul, Nat.mul_comm] at e
  have : b = 0 ∨ b = 1 := by omega
  rcases this with rfl | rfl <;> omega
theorem kn_rem2 {u v Q L U1 U2 c : Nat} (hv : 0 < v) (hvL : v < L) (hQ : Q = u / v + 1) (e : U1 + Q * v = u + L * 1) (e2 : U2 + L * c = U1 + v) (hU : U1 < L) (hU2 : U2 < L) : U2 = u % v := by
  have d := Nat.div_add_mod u v
  have m := Nat.mod_lt u hv
  rw [hQ, Nat.add_mul, Nat.one_mul, Nat.mul_comm] at e
  have : L * c = L * 0 ∨ L * c = L * 1 ∨ 2 * L ≤ L * c := by
    match c with
    | 0 => exact .inl rfl
    | 1 => exact .inr (.inl rfl)
    | c + 2 => right; right; rw [Nat.mul_comm 2 L]; exact Nat.mul_le_mul_left _ (by omega)
  omega

theorem getD_lim {U : List Nat} (h : Lim U) (i : Nat) : U.getD i 0 < 18446744073709551616 := by
  rw [List.getD_eq_getElem?_getD]
  cases hi : U[i]? with
  | none => simp
  | some x => exact h x (List.mem_of_getElem? hi)
theorem lv_split (U : List Nat) (k : Nat) (h : k ≤ U.length) : lv U = lv (U.take k) + 18446744073709551616 ^ k * lv (U.drop k) := by
  have := lv_append (U.take k) (U.drop k)
  rw [List.take_append_drop, List.length_take, Nat.min_eq_left h] at this
  exact this
theorem lv_top3 {U : List Nat} {k : Nat} (h : U.length = k + 3) : lv U = lv (U.take k) + 18446744073709551616 ^ k * ((U.getD (k + 2) 0 * 18446744073709551616 + U.getD (k + 1) 0) * 18446744073709551616 + U.getD k 0) := by
  rw [lv_split U k (by omega)]
  have e : U.drop k = [U.getD k 0, U.getD (k + 1) 0, U.getD (k + 2) 0] := by
    refine ext_getD _ _ (by simp; omega) fun i hi => ?_
    rw [getD_drop]
    simp only [List.length_drop] at hi
    have : i = 0 ∨ i = 1 ∨ i = 2 := by omega
    rcases this with rfl | rfl | rfl <;> rfl
  rw [e]; simp only [lv]; congr 2; omega
theorem lv_top2 {V : List Nat} {k : Nat} (h : V.length = k + 2) : lv V = lv (V.take k) + 18446744073709551616 ^ k * (V.getD (k + 1) 0 * 18446744073709551616 + V.getD k 0) := by
  rw [lv_split V k (by omega)]
  have e : V.drop k = [V.getD k 0, V.getD (k + 1) 0] := by
    refine ext_getD _ _ (by simp; omega) fun i hi => ?_
    rw [getD_drop]
    simp only [List.length_drop] at hi
    have : i = 0 ∨ i = 1 := by omega
    rcases this with rfl | rfl <;> rfl
  rw [e]; simp only [lv]; congr 2; omega
theorem lim_take {U : List Nat} (h : Lim U) (k : Nat) : Lim (U.take k) := fun d hd => h d (List.mem_of_mem_take hd)
theorem lv_take_lt {U : List Nat} (h : Lim U) {k : Nat} (hk : k ≤ U.length) : lv (U.take k) < 18446744073709551616 ^ k := by
  have := lv_lt (lim_take h k)
  rwa [List.length_take, Nat.min_eq_left hk] at this

structure KD (U V : List Nat) (n : Nat) : Prop where
  lim : Lim U
  limv : Lim V
  len : U.length = n + 1
  lenv : V.length = n
  two : 2 ≤ n
  top : 9223372036854775808 ≤ V.getD (n - 1) 0
  lt : lv U < 18446744073709551616 * lv V
theorem KD.pos {U V : List Nat} {n : Nat} (h : KD U V n) : 0 < lv V := by
  have := h.lt
  rcases Nat.eq_zero_or_pos (lv V) with h0 | h0
  · rw [h0] at this; omega
  · exact h0
theorem KD.hi {U V : List Nat} {n : Nat} (h : KD U V n) : U.getD n 0 ≤ V.getD (n - 1) 0 := by
  obtain ⟨k, rfl⟩ : ∃ k, n = k + 2 := ⟨n - 2, by have := h.two; omega⟩
  exact kn_top (Ul := lv (U.take k)) (X := 18446744073709551616 ^ k) (Vl := lv (V.take k)) (t1 := V.getD (k + 1) 0) (lv_top3 (by rw [h.len])) (lv_top2 h.lenv) (lv_take_lt h.limv (by rw [h.lenv]; omega)) h.lt rfl rfl (getD_lim h.limv k)
theorem KD.dig {U V : List Nat} {n Q : Nat} (h : KD U V n) (hQ : Q = trQ (U.getD n 0) (U.getD (n - 1) 0) (U.getD (n - 2) 0) (V.getD (n - 1) 0) (V.getD (n - 2) 0)) : Q = lv U / lv V ∨ Q = lv U / lv V + 1 := by
  obtain ⟨k, rfl⟩ : ∃ k, n = k + 2 := ⟨n - 2, by have := h.two; omega⟩
  have hu := lv_top3 (U := U) (k := k) (by rw [h.len])
  have hv := lv_top2 (V := V) (k := k) h.lenv
  have hUl := lv_take_lt h.lim (k := k) (by rw [h.len]; omega)
  have hVl := lv_take_lt h.limv (k := k) (by rw [h.lenv]; omega)
  have ht := h.top
  rw [show k + 2 - 1 = k + 1 from rfl] at ht
  have hD : 0 < V.getD (k + 1) 0 * 18446744073709551616 + V.getD k 0 := by omega
  refine kn_main h.pos rfl ?_ ?_
  · rw [hQ]
    refine Nat.le_min.2 ⟨?_, ?_⟩
    · have := (Nat.div_lt_iff_lt_mul h.pos).2 h.lt
      omega
    · exact (Nat.le_div_iff_mul_le hD).2 (kn_le hu hv hUl (Nat.div_mul_le_self _ _))
  · refine kn_ge hu hv hVl ?_ ?_ (by omega)
    · rw [hQ]
      exact (Nat.le_div_iff_mul_le hD).1 (Nat.min_le_right _ _)
    · rw [hQ]; exact Nat.le_trans (Nat.min_le_left _ _) (by omega)

theorem tr3 {q q' f : Nat} {b : Bool} {v : Value} (h : v = .tuple #[.int .u64 (q : Nat), .int .u8 (f : Nat), .bool b]) (e : q = q') : v = .tuple #[.int .u64 (q' : Nat), .int .u8 (f : Nat), .bool b] := by rw [h, e]
/-- u256.round -/
theorem round_spec {I : Ent → Prop} {G : List Ent} {bu su ou pu bv sv ov pv n : Nat} {Tu Tv : TypeId} {cu cv : Nat → Value} {U V : List Nat} (hk : KD U V n) (hm : n < 2 ^ 30) (h1 : ou + U.length ≤ su) (h2 : ov + V.length ≤ sv) :
    CallG Hvaf.prog 429 #[sl bu ou U.length pu, sl bv ov V.length pv] ⟨I, ⟨bu, su, Tu, updN cu ou (ivs .u64 U)⟩ :: ⟨bv, sv, Tv, updN cv ov (ivs .u64 V)⟩ :: G⟩ fun r S' =>
      ∃ U' f b, S' = ⟨I, ⟨bu, su, Tu, updN cu ou (ivs .u64 U')⟩ :: ⟨bv, sv, Tv, updN cv ov (ivs .u64 V)⟩ :: G⟩ ∧ U'.length = U.length ∧ Lim U' ∧ lv U' = lv U % lv V ∧ f < 256 ∧ r = .tuple #[.int .u64 (lv U / lv V : Nat), .int .u8 (f : Nat), .bool b] := by
  have e1 := hk.len
  have e2 := hk.lenv
  have e3 := hk.two
  have hp := hk.pos
  have hd := hk.dig rfl
  have htop := hk.top
  subst e2
  have hQl : (trQ (U.getD V.length 0) (U.getD (V.length - 1) 0) (U.getD (V.length - 2) 0) (V.getD (V.length - 1) 0) (V.getD (V.length - 2) 0)) < 18446744073709551616 := Nat.lt_of_le_of_lt (Nat.min_le_left _ _) (by decide)
  have hLU := lv_lt hk.lim
  have hLV := lv_lt hk.limv
  refine CallG.start (C := mkC Hvaf.prog) cok (args := [sl bu ou U.length pu, sl bv ov V.length pv]) Hvaf.func429 rfl Hvaf.ntmps429 (by simp) (by kernel_rfl) ?_
  repeat (first | refine SeqS.go cok ?_ | refine And.intro (by omega) ?_ | (refine NatS.keep ?_; first | with_reducible refine NatS.nat ?_) | (refine ValS.keep ?_; first | (with_reducible refine ValS.kI64 ?_; first | (with_reducible refine ValS.subI64_L ?_ ?_ ?_ ; omega; omega))) | (refine QuG.keep ?_; first | refine QuG.ar cok 0 rfl rfl rfl rfl rfl rfl (by first | omega | (simp; done) | (simp; omega)) (by first | omega | (simp; done) | (simp; omega)) ?_ | refine QuG.ar cok 1 rfl rfl rfl rfl rfl rfl (by first | omega | (simp; done) | (simp; omega)) (by first | omega | (simp; done) | (simp; omega)) ?_) | refine W.drawI 2 cok [0, 0, 3, 7, 0, 0, 32, 112, 240, 0, 0, 1024, 3584, 7680, 0, 0, 32768, 114688, 245760, 0, 0, 1048576, 3670016, 7864320, 16777215, 33554431, 67108863, 67108863, 134217727, 536870911] [0, 1, 2, 3, 4, 5, 6, 7, 8, 9, 10, 11, 12, 13, 14, 15, 16, 17, 18, 19, 20, 21, 22, 23, 24, 25, 26, 27, 28, 29] [3, 8, 13, 18, 23] (by kernel_rfl) (by kernel_rfl) ?_)
  refine (trial_spec hk.hi (getD_lim hk.lim _) (getD_lim hk.lim _) (getD_lim hk.limv _) (by omega) (getD_lim hk.limv _)).mono ?_
  rintro r _ - ⟨rfl, f, hf, rfl⟩
  repeat (first | refine SeqS.go cok ?_ | (refine still_in ?_; first | refine still_drop (by decide) ?_))
  refine (takeTimes_spec hk.lim hk.limv hQl e1 (by omega) h1 h2).mono ?_
  rintro r _ - ⟨U1, b, rfl, l1, m1, hb, E, rfl⟩
  have hU1 := lv_lt m1
  rw [l1] at hU1
  rcases hd with hd | hd
  · have kk := kn_rem0 hp hd E hb hU1
    have kb := kk.1
    subst kb
    repeat (first | refine SeqS.go cok ?_ | refine CondS.f rfl ?_)
    exact Fin.same ⟨U1, f, false, rfl, l1, m1, kk.2, hf, tr3 rfl hd⟩
  · have kb := kn_rem1 hp hd E hb hU1
    have h1q : 1 ≤ trQ (U.getD V.length 0) (U.getD (V.length - 1) 0) (U.getD (V.length - 2) 0) (V.getD (V.length - 1) 0) (V.getD (V.length - 2) 0) := by rw [hd]; exact Nat.le_add_left 1 _
    subst kb
    have hvL : lv V < 18446744073709551616 ^ U.length := by
      rw [e1]; exact Nat.lt_of_lt_of_le hLV (Nat.pow_le_pow_right (by decide) (by omega))
    repeat (first | refine SeqS.go cok ?_ | refine CondS.t rfl ?_)
    have hpb := putBack_spec (I := I) (G := G) (bu := bu) (pu := pu) (bv := bv) (pv := pv) (Tu := Tu) (Tv := Tv) (cu := cu) (cv := cv) (U := U1) m1 hk.limv (by rw [l1]; exact e1) (by rw [l1]; omega) (by rw [l1]; exact h1) h2
    rw [l1] at hpb
    refine hpb.mono ?_
    rintro r _ - ⟨U2, c, rfl, l2, m2, E2⟩
    have hU2 := lv_lt m2
    rw [l2] at hU2
    have kr := kn_rem2 hp hvL hd E E2 hU1 hU2
    repeat (first | refine SeqS.go cok ?_ | (refine ValS.keep ?_; first | (with_reducible refine ValS.kU64 ?_; first | (with_reducible refine ValS.subU64_L ?_ ?_ ?_ ; omega; omega))))
    exact Fin.same ⟨U2, f, true, rfl, l2, m2, kr, hf, tr3 rfl (by rw [hd]; exact Nat.add_sub_cancel _ _)⟩
end Go.Proofs.YgvafwGreat
