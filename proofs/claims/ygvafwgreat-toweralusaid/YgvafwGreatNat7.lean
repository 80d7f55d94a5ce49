import Derived.Test.YgvafwGreatNat6
set_option maxRecDepth 100000
set_option linter.unusedVariables false
set_option linter.unusedSimpArgs false
namespace Go.Proofs.YgvafwGreat
open Go.HL Go.Proofs

theorem getD_reverse (l : List Nat) (i : Nat) (h : i < l.length) : l.reverse.getD i 0 = l.getD (l.length - 1 - i) 0 := by
  simp only [List.getD_eq_getElem?_getD]
  rw [List.getElem?_reverse h]
theorem getD_drop (l : List Nat) (k i : Nat) : (l.drop k).getD i 0 = l.getD (k + i) 0 := by
  simp only [List.getD_eq_getElem?_getD, List.getElem?_drop]
theorem ext_getD (a b : List Nat) (h : a.length = b.length) (h2 : ∀ i, i < a.length → a.getD i 0 = b.getD i 0) : a = b := by
  apply List.ext_getElem h
  intro i h1 h3
  have := h2 i h1
  simpa [List.getD_eq_getElem?_getD, h1, h3] using this
theorem val_be (ds : List Nat) (k : Nat) (hk : k ≤ ds.length) (hz : ∀ i, i < k → ds.getD i 0 = 0) : val ds.reverse = val (ds.drop k).reverse := by
  conv => lhs; rw [← List.take_append_drop k ds, List.reverse_append]
  rw [val_append, val_zeros (ds.take k).reverse]
  · simp
  · intro d hd
    have hd := List.mem_reverse.1 hd
    obtain ⟨i, hi⟩ := List.mem_iff_getElem?.1 hd
    have hlt := (List.getElem?_eq_some_iff.1 hi).1
    simp at hlt
    have := hz i (by omega)
    rw [List.getElem?_take_of_lt (by omega)] at hi
    rw [List.getD_eq_getElem?_getD, hi] at this
    simpa using this

/-- nat.FromBE -/
theorem FromBE_byt {S : St} {v : Value} {ds : List Nat} (h : Byt S v ds) (hv : val ds.reverse < NB) :
    CallG Hvaf.prog 43 #[v] S fun r S' => S'.G = S.G ∧ NatI S'.I r (val ds.reverse) := by
  obtain ⟨a, cap, rfl, hlc, hc, hb⟩ := h.form
  have hl := hb.2.1
  refine CallG.start (C := mkC Hvaf.prog) cok (args := [.slice a ds.length cap]) Hvaf.func43 rfl Hvaf.ntmps43 (by simp) (by kernel_rfl) ?_
  repeat (first | refine SeqS.go cok ?_)
  refine W.loopE cok (by kernel_rfl) 0 (fun (k : Nat) e' S' => S = S' ∧ k ≤ ds.length ∧ (∀ i, i < k → ds.getD i 0 = 0) ∧ slots [(0, .slice a ds.length cap), (3, .int .i64 (k : Nat))] e') (fun k => ds.length - k) 0 ⟨rfl, by omega, fun i hi => by omega, rfl, rfl, trivial⟩
    (fun e' S' => S = S' ∧ ∃ k, k ≤ ds.length ∧ (∀ i, i < k → ds.getD i 0 = 0) ∧ (k = ds.length ∨ ds.getD k 0 ≠ 0) ∧ slots [(0, .slice a ds.length cap), (3, .int .i64 (k : Nat))] e') ?_ ?_
  rotate_left
  · rintro k e' _ _ ⟨rfl, hk, hz, hs⟩
    refine W.slots _ hs fun e => ?_
    skip
    refine GuardS.split rfl (fun hc => ?_) (fun hc => ?_)
    · have hc : k < ds.length := by simpa using hc
      obtain ⟨x, o, rfl, hx, hbs⟩ := hb.some (by omega)
      repeat (first | refine SeqS.go cok ?_ | refine GuardS.yes rfl ?_ | refine And.intro (by omega) ?_ | (refine NatS.keep ?_; first | with_reducible refine NatS.nat ?_) | (refine QuG.keep ?_; first | refine QuG.bs cok (by assumption) (by assumption) rfl rfl rfl rfl (by omega) ?_))
      refine CondS.eqz rfl (fun hc2 => ?_) (fun hc2 => ?_)
      · repeat (first | refine SeqS.go cok ?_ | (refine ValS.keep ?_; first | (with_reducible refine ValS.kI64 ?_; first | (with_reducible refine ValS.addI64_L ?_ ?_ ; omega))))
        refine ⟨k + 1, ⟨rfl, by omega, fun i hi => ?_, rfl, rfl, trivial⟩, by show ds.length - (k + 1) < ds.length - k; omega⟩
        by_cases h : i = k
        · subst h; omega
        · exact hz i (by omega)
      · exact ⟨rfl, k, hk, hz, .inr (by omega), rfl, rfl, trivial⟩
    · have hc : k = ds.length := by simp at hc; omega
      repeat (first | refine SeqS.go cok ?_ | refine GuardS.no rfl ?_ | refine CondS.f rfl ?_)
      exact ⟨rfl, k, hk, hz, .inl hc, rfl, rfl, trivial⟩
  · rintro e' _ _ ⟨rfl, k, hk, hz, hor, hs⟩
    refine SeqS.slots cok _ hs fun e => ?_
    rw [val_be ds k hk hz] at hv ⊢
    repeat (first | refine SeqS.go cok ?_)
    refine CondS.eqz rfl (fun h1 => ?_) (fun h1 => ?_)
    · repeat (first | refine SeqS.go cok ?_)
      refine Fin.same ⟨rfl, ?_⟩
      have : k = ds.length := by omega
      subst this
      simp only [List.drop_length, List.reverse_nil, val]
      exact NatI.zero _
    have hlt : k < ds.length := by omega
    have hnz : ds.getD k 0 ≠ 0 := hor.resolve_left (by omega)
    obtain ⟨x, o, rfl, hx, hbs⟩ := hb.some (by omega)
    repeat (first | refine SeqS.go cok ?_ | refine And.intro (by dsimp only; omega) ?_ | (refine NatS.keep ?_; first | with_reducible refine NatS.nat ?_) | (refine ValS.keep ?_; first | (with_reducible refine ValS.kI64 ?_; first | (with_reducible refine ValS.subI64 ?_ ?_ ?_ ; omega; omega))))
    intro b
    repeat (first | refine SeqS.go cok ?_)
    refine W.loopE cok (by kernel_rfl) 2 (fun (i : Nat) e' S' => ∃ c out, S' = ⟨S.I, ⟨b, ds.length - k, 5, c⟩ :: S.G⟩ ∧ Ow c out ∧ out.length = ds.length - k ∧ (∀ d ∈ out, d < 256) ∧ i ≤ ds.length - k ∧ (∀ j, j < i → out.getD j 0 = ds.getD (ds.length - 1 - j) 0) ∧
        slots [(0, .slice (some ⟨x.b, o, none⟩) ds.length cap), (4, sl b 0 (ds.length - k) (ds.length - k)), (29, .int .i64 ((ds.length - k : Nat) : Int)), (30, .int .i64 (i : Nat))] e') (fun i => ds.length - k - i) 0 ?_
      (fun e' S' => ∃ c out, S' = ⟨S.I, ⟨b, ds.length - k, 5, c⟩ :: S.G⟩ ∧ Ow c out ∧ out = (ds.drop k).reverse ∧ slots [(4, sl b 0 (ds.length - k) (ds.length - k))] e') ?_ ?_
    · exact ⟨_, List.replicate (ds.length - k) 0, rfl, Ow.zero _ fun i _ => rfl, by simp, by simp, by omega, fun j hj => by omega, rfl, rfl, rfl, rfl, trivial⟩
    · rintro e' _ _ ⟨c, out, rfl, how, hout, hs⟩
      refine SeqS.slots cok _ hs fun e => ?_
      repeat (first | refine SeqS.go cok ?_)
      have hlen : out.length = ds.length - k := by rw [hout]; simp
      have hod : ∀ d ∈ out, d < 256 := by
        intro d hd; rw [hout] at hd
        exact hb.1 d (List.mem_of_mem_drop (List.mem_reverse.1 hd))
      have hnorm : Norm out := by
        right
        rw [hlen, hout, getD_reverse _ _ (by simp; omega), List.length_drop, getD_drop, show k + (ds.length - k - 1 - (ds.length - k - 1)) = k by omega]
        exact hnz
      rw [← hout] at hv ⊢
      refine Fin.frz [_] _ ⟨rfl, out, ?_, hnorm, rfl, hnorm.len hv⟩
      have := Byt.own (S := ⟨fun x => S.I x ∨ x ∈ [(⟨b, ds.length - k, 5, c⟩ : Ent)], []⟩) (x := ⟨b, ds.length - k, 5, c⟩) (cap := ds.length - k) (.inl (.inr List.mem_cons_self)) how hod (by omega) (by rw [hlen]; exact Nat.le_refl _) (by omega) (by omega)
      rw [hlen] at this
      exact this
    · rintro i e' _ _ ⟨c, out, rfl, how, hol, hod, hi, hj, hs⟩
      refine W.slots _ hs fun e => ?_
      repeat (first | refine SeqS.go cok ?_)
      refine CondS.dec rfl (fun hc => ?_) (fun hc => ?_)
      · have hx := Rd.tail (y := ⟨b, ds.length - k, 5, c⟩) hx
        have hd1 := getD_lt hb.1 (ds.length - 1 - i)
        repeat (first | refine SeqS.go cok ?_ | refine And.intro (by omega) ?_ | (refine NatS.keep ?_; first | with_reducible refine NatS.nat ?_) | (refine ValS.keep ?_; first | (with_reducible refine ValS.kI64 ?_; first | (with_reducible refine ValS.subI64_L ?_ ?_ ?_ ; omega; omega) | (with_reducible refine ValS.subI64 ?_ ?_ ?_ ; omega; omega))) | (refine QuG.keep ?_; first | refine QuG.bs cok (by assumption) (by assumption) rfl rfl rfl rfl (by omega) ?_))
        refine OpG.ow cok 0 rfl how rfl rfl rfl rfl rfl rfl rfl (by omega) (by show _ ≤ ds.length - k; omega) fun c2 hown => ?_
        repeat (first | refine SeqS.go cok ?_ | (refine ValS.keep ?_; first | (with_reducible refine ValS.kI64 ?_; first | (with_reducible refine ValS.addI64_L ?_ ?_ ; omega))))
        refine ⟨i + 1, ⟨c2, _, rfl, hown, by simp [hol], mem_set_lt hod hd1, by omega, fun j hj2 => ?_, rfl, rfl, rfl, rfl, trivial⟩, by show ds.length - k - (i + 1) < ds.length - k - i; omega⟩
        rw [getD_set _ _ _ _ (by omega)]
        split
        · rename_i h; subst h; rfl
        · exact hj j (by omega)
      · have : i = ds.length - k := by omega
        subst this
        skip
        refine ⟨c, out, rfl, how, ?_, rfl, trivial⟩
        refine ext_getD _ _ (by simp [hol]) fun j hj2 => ?_
        rw [getD_reverse _ _ (by simp; omega), List.length_drop, getD_drop, hj j (by omega)]
        congr 1; omega
end Go.Proofs.YgvafwGreat
