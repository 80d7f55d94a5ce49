import Derived.Test.YgvafwGreatD1
set_option maxRecDepth 100000
set_option maxHeartbeats 4000000
set_option linter.unusedVariables false
set_option linter.unusedSimpArgs false
-- v2
-- v3
namespace Go.Proofs.YgvafwGreat
open Go.HL Go.Proofs

theorem pow_len_succ (P : List Nat) (x : Nat) : 18446744073709551616 ^ (P ++ [x]).length = 18446744073709551616 ^ P.length * 18446744073709551616 := by rw [List.length_append]; exact Nat.pow_succ _ _
theorem lv_snoc (P : List Nat) (x : Nat) : lv (P ++ [x]) = lv P + 18446744073709551616 ^ P.length * x := by
  rw [lv_append]; simp [lv]
theorem shUp_val {s : Nat} (hs : s < 64) : ∀ (ds : List Nat) (c : Nat), c < 2 ^ s → Lim ds → ∃ out, out < 2 ^ s ∧ lv (shUp s c ds) + 18446744073709551616 ^ ds.length * out = lv ds * 2 ^ s + c ∧ Lim (shUp s c ds)
  | [], c, hc, _ => ⟨c, hc, by simp [shUp, lv], fun d hd => by simp [shUp] at hd⟩
  | l :: ds, c, hc, hd => by
    have hl := hd l (by simp)
    obtain ⟨out, h1, h2, h3⟩ := shUp_val hs ds (l / 2 ^ (64 - s)) (shl_hi (by omega) hl) (fun d h => hd d (by simp [h]))
    refine ⟨out, h1, ?_, ?_⟩
    · simp only [shUp, lv, List.length_cons, Nat.pow_succ]
      rw [shl_or l (by omega) hc, Nat.add_mul]
      have e := shl_rel l (t := s) (by omega)
      generalize l * 2 ^ s % 18446744073709551616 = lo at *
      generalize l / 2 ^ (64 - s) = hi at *
      generalize l * 2 ^ s = p at *
      have h2' : 18446744073709551616 * lv (shUp s hi ds) + 18446744073709551616 ^ ds.length * 18446744073709551616 * out = 18446744073709551616 * (lv ds * 2 ^ s) + 18446744073709551616 * hi := by
        rw [← Nat.mul_add, ← h2, Nat.mul_add]; congr 1; rw [Nat.mul_comm (18446744073709551616 ^ ds.length) 18446744073709551616, Nat.mul_assoc]
      rw [Nat.mul_assoc 18446744073709551616 (lv ds)]
      omega
    · intro d hdd
      simp only [shUp, List.mem_cons] at hdd
      rcases hdd with rfl | hdd
      · rw [shl_or l (by omega) hc]
        have := shl_lo l (t := s) (by omega)
        omega
      · exact h3 d hdd

theorem sd_step {s l Q : Nat} (hs : s ≤ 64) (hl : l < 18446744073709551616) : (l / 2 ^ s ||| (Q % 2 ^ s) * 2 ^ (64 - s)) + 18446744073709551616 * (Q / 2 ^ s) = (l + 18446744073709551616 * Q) / 2 ^ s := by
  have e : 2 ^ s * 2 ^ (64 - s) = 18446744073709551616 := by rw [Nat.mul_comm, pow64 hs]
  have hp := Nat.two_pow_pos s
  rw [or_shift _ (sr_lo hs hl)]
  have h1 : l + 18446744073709551616 * Q = l + 2 ^ s * (2 ^ (64 - s) * Q) := by rw [← Nat.mul_assoc, e]
  rw [h1, Nat.add_mul_div_left _ _ hp]
  have h2 := Nat.div_add_mod Q (2 ^ s)
  have h3 : 2 ^ (64 - s) * Q = 18446744073709551616 * (Q / 2 ^ s) + (Q % 2 ^ s) * 2 ^ (64 - s) := by
    have : 2 ^ (64 - s) * (2 ^ s * (Q / 2 ^ s) + Q % 2 ^ s) = 18446744073709551616 * (Q / 2 ^ s) + (Q % 2 ^ s) * 2 ^ (64 - s) := by
      rw [Nat.mul_add, ← Nat.mul_assoc, Nat.mul_comm (2 ^ (64 - s)) (2 ^ s), e, Nat.mul_comm (2 ^ (64 - s))]
    rw [h2] at this; exact this
  rw [h3]; omega
theorem sd_in {s l Q : Nat} (hs : s ≤ 64) : l * 2 ^ (64 - s) % 18446744073709551616 = ((l + 18446744073709551616 * Q) % 2 ^ s) * 2 ^ (64 - s) := by
  have e : 2 ^ s * 2 ^ (64 - s) = 18446744073709551616 := by rw [Nat.mul_comm, pow64 hs]
  rw [sr_hi l hs]
  congr 1
  rw [← e, Nat.mul_assoc, Nat.add_mul_mod_self_left]
theorem sd_lt {s Q : Nat} (hs : s ≤ 64) : (Q % 2 ^ s) * 2 ^ (64 - s) < 18446744073709551616 := by
  have e : 2 ^ s * 2 ^ (64 - s) = 18446744073709551616 := by rw [Nat.mul_comm, pow64 hs]
  have := Nat.mul_lt_mul_of_pos_right (Nat.mod_lt Q (Nat.two_pow_pos s)) (Nat.two_pow_pos (64 - s))
  rw [e] at this; exact this
theorem getD_rev (P : List Nat) (l : Nat) (R : List Nat) : ((l :: P).reverse ++ R).getD P.length 0 = l := by
  simp [List.getD_eq_getElem?_getD]
theorem set_rev (P : List Nat) (l x : Nat) (R : List Nat) : ((l :: P).reverse ++ R).set P.length x = P.reverse ++ x :: R := by
  simp

/-- u256.ShiftDown -/
theorem ShiftDown_spec {I : Ent → Prop} {G : List Ent} {b sz o cap s : Nat} {T : TypeId} {c : Nat → Value} {ds : List Nat} (hs : s < 64) (hd : Lim ds) (hl : ds.length < 2 ^ 40) (hc : ds.length ≤ cap) (ho : o + ds.length ≤ sz) :
    CallG Hvaf.prog 414 #[sl b o ds.length cap, .int .u8 (s : Nat)] ⟨I, ⟨b, sz, T, updN c o (ivs .u64 ds)⟩ :: G⟩ fun r S' => ∃ R, S' = ⟨I, ⟨b, sz, T, updN c o (ivs .u64 R)⟩ :: G⟩ ∧ R.length = ds.length ∧ Lim R ∧ lv R = lv ds / 2 ^ s := by
  refine CallG.start (C := mkC Hvaf.prog) cok (args := [sl b o ds.length cap, .int .u8 (s : Nat)]) Hvaf.func414 rfl Hvaf.ntmps414 (by simp) (by kernel_rfl) ?_
  repeat (first | refine SeqS.go cok ?_ | (refine CondS.keep ?_; first | refine CondS.d0 rfl (by omega) ?_))
  refine W.loopE cok (by kernel_rfl) 0 (fun (p : List Nat × List Nat × List Nat) e' S' => S' = ⟨I, ⟨b, sz, T, updN c o (ivs .u64 (p.1.reverse ++ p.2.1))⟩ :: G⟩ ∧ ds = p.1.reverse ++ p.2.2 ∧ p.2.1.length = p.2.2.length ∧ Lim p.2.1 ∧ lv p.2.1 = lv p.2.2 / 2 ^ s ∧
      slots [(0, sl b o ds.length cap), (1, .int .u8 (s : Nat)), (4, .int .u64 ((lv p.2.2 % 2 ^ s) * 2 ^ (64 - s) : Nat)), (5, .int .i64 (p.1.length : Nat))] e') (fun p => p.1.length) (ds.reverse, [], [])
      ⟨by simp, by simp, rfl, fun d hd => by simp at hd, by simp [lv], rfl, rfl, ?_, ?_, trivial⟩
      (fun e' S' => ∃ R, S' = ⟨I, ⟨b, sz, T, updN c o (ivs .u64 R)⟩ :: G⟩ ∧ R.length = ds.length ∧ Lim R ∧ lv R = lv ds / 2 ^ s) ?_ ?_
  · exact Eq.trans (b := .int .u64 ((0 : Nat) : Int)) rfl (by simp [lv])
  · exact vI rfl (by simp)
  · rintro e' S2 - h
    exact Fin.same h
  · rintro ⟨P, R, Q⟩ e' S2 - ⟨hS, h1, h2, h3, h4, hsl⟩
    dsimp only at hS h1 h2 h3 h4 hsl
    subst hS
    refine W.slots _ hsl fun e => ?_
    have hq := sd_lt (Q := lv Q) (s := s) (by omega)
    cases P with
    | nil =>
      simp only [List.reverse_nil, List.nil_append] at h1
      repeat (first | refine SeqS.go cok ?_ | refine CondS.f rfl ?_)
      exact ⟨R, rfl, by rw [h1, h2], h3, by rw [h1, h4]⟩
    | cons l P =>
      have hll : l < 18446744073709551616 := hd l (by rw [h1]; simp)
      have hn : ds.length = P.length + 1 + Q.length := by rw [h1]; simp; omega
      have hg : ((l :: P).reverse ++ R).getD P.length 0 = l := getD_rev P l R
      have hgl : ((l :: P).reverse ++ R).getD P.length 0 < 18446744073709551616 := by rw [hg]; exact hll
      have hgd := Nat.div_le_self (((l :: P).reverse ++ R).getD P.length 0) (2 ^ s)
      have hlen : ((l :: P).reverse ++ R).length = P.length + 1 + R.length := by simp; omega
      have hpl : (l :: P).length = P.length + 1 := rfl
      repeat (first | (refine ValS.keep ?_; with_reducible refine ValS.subK P.length ?_ ?_ ?_; omega; omega) | refine SeqS.go cok ?_ | refine And.intro (by omega) ?_ | (refine NatS.keep ?_; first | with_reducible refine NatS.nat ?_) | (refine ValS.keep ?_; first | (with_reducible refine ValS.kU64 ?_; first | (with_reducible refine ValS.orFU64 ?_ ?_ (fun _ => ?_); omega; omega) | (with_reducible refine ValS.shrU64 ?_ ?_ ; omega) | (with_reducible refine ValS.shlWU64 ?_ ?_ ; omega)) | (with_reducible refine ValS.kU8 ?_; first | (with_reducible refine ValS.subU8_M ?_ ?_ ?_ ; omega; omega))) | (refine QuG.keep ?_; first | refine QuG.ar cok 0 rfl rfl rfl rfl rfl rfl (by first | omega | (simp; done) | (simp; omega)) (by first | omega | (simp; done) | (simp; omega)) ?_) | (refine OpG.keep ?_; first | refine OpG.ar cok 0 rfl rfl rfl rfl rfl rfl (by first | omega | (simp; done) | (simp; omega)) (by first | omega | (simp; done) | (simp; omega)) rfl ?_) | (refine CondS.keep ?_; first | refine CondS.d1 rfl (by omega) ?_))
      refine ⟨(P, (l / 2 ^ s ||| lv Q % 2 ^ s * 2 ^ (64 - s)) :: R, l :: Q), ⟨?_, by rw [h1]; simp, by simp [h2], ?_, ?_, rfl, rfl, ?_, ?_, trivial⟩, by show P.length < (l :: P).length; simp⟩
      · exact (by rw [hg, set_rev] : (⟨I, ⟨b, sz, T, updN c o (ivs .u64 (((l :: P).reverse ++ R).set P.length (((l :: P).reverse ++ R).getD P.length 0 / 2 ^ s ||| lv Q % 2 ^ s * 2 ^ (64 - s))))⟩ :: G⟩ : St) = ⟨I, ⟨b, sz, T, updN c o (ivs .u64 (P.reverse ++ (l / 2 ^ s ||| lv Q % 2 ^ s * 2 ^ (64 - s)) :: R))⟩ :: G⟩)
      · intro d hdd
        simp only [List.mem_cons] at hdd
        rcases hdd with rfl | hdd
        · have := sd_step (Q := lv Q) (s := s) (by omega) hll
          exact Nat.or_lt_two_pow (n := 64) (Nat.lt_of_le_of_lt (Nat.div_le_self _ _) hll) hq
        · exact h3 d hdd
      · simp only [lv]; rw [h4, sd_step (by omega) hll]
      · exact vI rfl (by rw [hg, sd_in (Q := lv Q) (by omega)]; rfl)
      · exact vI rfl rfl
end Go.Proofs.YgvafwGreat
