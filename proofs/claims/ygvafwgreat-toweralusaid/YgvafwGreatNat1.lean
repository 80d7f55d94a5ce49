import Derived.Test.YgvafwGreatTab
import Derived.Test.YgvafwGreatHLt
set_option maxRecDepth 100000
set_option linter.unusedVariables false
set_option linter.unusedSimpArgs false
namespace Go.Proofs.YgvafwGreat
open Go.HL Go.Proofs

/-- nat.trim -/
theorem trim_spec {S : St} {a : Option Addr} {cap n : Nat} {ds : List Nat} (h : Byt S (.slice a n cap) ds) :
    CallG Hvaf.prog 98 #[.slice a n cap] S fun r S' => S = S' ∧ ∃ k, Trim ds k ∧ r = .slice a k k := by
  have hb := h
  obtain ⟨hd, hl, a', cap', h3, hlc, hc, h6⟩ := h
  cases h3
  refine CallG.start (C := mkC Hvaf.prog) cok (args := [.slice a ds.length cap]) Hvaf.func98 rfl Hvaf.ntmps98 (by simp) (by kernel_rfl) ?_
  repeat (first | refine SeqS.go cok ?_)
  refine W.loopE cok (by kernel_rfl) 0 (fun (k : Nat) e S' => S = S' ∧ k ≤ ds.length ∧ (∀ i, k ≤ i → i < ds.length → ds.getD i 0 = 0) ∧ slots [(0, .slice a ds.length cap), (3, .int .i64 k)] e) id ds.length ⟨rfl, Nat.le_refl _, fun i h1 h2 => by omega, rfl, rfl, trivial⟩
    (fun e S' => S = S' ∧ ∃ k, Trim ds k ∧ slots [(0, .slice a ds.length cap), (3, .int .i64 k)] e) ?_ ?_
  · rintro e' _ _ ⟨rfl, k, ht, hs⟩
    have hle := ht.le
    refine SeqS.slots cok _ hs fun e => ?_
    repeat (first | refine And.intro (Eq.refl true) ?_ | refine And.intro (by omega) ?_ | (refine NatS.keep ?_; first | with_reducible refine NatS.nat ?_))
    rcases h6 with ⟨rfl, _, _⟩ | ⟨x, o, rfl, _, _⟩
    · repeat (first | refine SeqS.go cok ?_)
      refine Fin.same ?_
      exact ⟨rfl, k, ht, rfl⟩
    · repeat (first | refine SeqS.goRet cok ?_ | (refine ValS.keep ?_; first | with_reducible refine ValS.sl0 ?_))
      refine Fin.same ?_
      exact ⟨rfl, k, ht, rfl⟩
  · rintro k e' _ _ ⟨rfl, hk, hz, hs⟩
    refine W.slots _ hs fun e => ?_
    refine GuardS.split rfl (fun hc => ?_) (fun hc => ?_)
    · have hc : 0 < k := by simpa using hc
      obtain ⟨x, o, rfl, hx, hbs⟩ := hb.some (by omega)
      repeat (first | refine SeqS.goC1 cok ?_ | refine GuardS.yes rfl ?_ | refine And.intro (by omega) ?_ | (refine NatS.keep ?_; first | with_reducible refine NatS.nat ?_) | (refine ValS.keep ?_; first | (with_reducible refine ValS.kI64 ?_; first | (with_reducible refine ValS.subI64_L ?_ ?_ ?_ ; omega; omega))) | (refine QuG.keep ?_; first | refine QuG.bs cok (by assumption) (by assumption) rfl rfl rfl rfl (by omega) ?_))
      skip
      refine CondS.eqz rfl (fun hc2 => ?_) (fun hc2 => ?_)
      · repeat (first | refine SeqS.goB1 cok ?_ | (refine ValS.keep ?_; first | (with_reducible refine ValS.kI64 ?_; first | (with_reducible refine ValS.subI64_L ?_ ?_ ?_ ; omega; omega))))
        refine ⟨k - 1, ⟨rfl, by omega, fun i h1 h2 => ?_, rfl, rfl, trivial⟩, ?_⟩
        · by_cases h : i = k - 1
          · subst h; omega
          · exact hz i (by omega) h2
        · show k - 1 < k; omega
      · exact ⟨rfl, k, ⟨hk, hz, .inr (by omega)⟩, rfl, rfl, trivial⟩
    · have hc : k = 0 := by simpa using hc
      subst hc
      repeat (first | refine SeqS.go cok ?_ | refine GuardS.no rfl ?_ | refine CondS.f rfl ?_)
      exact ⟨rfl, 0, ⟨hk, hz, .inl rfl⟩, rfl, rfl, trivial⟩

/-- nat.Norm -/
theorem Norm_own {S : St} {v : Value} {ds : List Nat} (h : Byt S v ds) :
    CallG Hvaf.prog 133 #[v] S fun r S' => S.I = S'.I ∧ ∃ k, Trim ds k ∧ ((k = 0 ∧ r = .slice none 0 0 ∧ S'.G = S.G) ∨ (k ≠ 0 ∧ ∃ b c, S'.G = ⟨b, k, 5, c⟩ :: S.G ∧ Ow c (ds.take k) ∧ r = sl b 0 k k)) := by
  obtain ⟨a, cap, rfl, hlc, hc, hb⟩ := h.form
  have hl := hb.2.1
  refine CallG.start (C := mkC Hvaf.prog) cok (args := [.slice a ds.length cap]) Hvaf.func133 rfl Hvaf.ntmps133 (by simp) (by kernel_rfl) ?_
  repeat (first | refine SeqS.go cok ?_)
  refine (trim_spec hb).mono ?_
  rintro r _ _ ⟨rfl, k, hk, rfl⟩
  have hle := hk.le
  repeat (first | refine SeqS.go cok ?_)
  refine CondS.split rfl (fun hc => ?_) (fun hc => ?_)
  · have hc : k = 0 := by simpa using hc
    subst hc
    repeat (first | refine SeqS.go cok ?_)
    refine Fin.same ?_
    exact ⟨rfl, 0, hk, .inl ⟨rfl, rfl, rfl⟩⟩
  · have hc : k ≠ 0 := by simpa using hc
    obtain ⟨x, o, rfl, hx, hbs⟩ := hb.some (by omega)
    repeat (first | refine SeqS.goRS cok ?_ | refine And.intro (by dsimp only; omega) ?_ | (refine NatS.keep ?_; first | with_reducible refine NatS.nat ?_))
    intro b
    repeat (first | refine SeqS.goRS cok ?_)
    refine OpG.copy cok 0 rfl (y := x) (hx.mono (.refl _) (by intro y hy; simp [hy])) rfl rfl rfl rfl rfl rfl rfl ?_ ?_ ?_ ?_
    · show 0 + Nat.min k k ≤ k; simp
    · show o + Nat.min k k ≤ x.sz; have := hbs.1; simp; omega
    · intro p hp
      have hp : p < Nat.min k k := hp
      simp at hp
      rw [hbs.2 p (by omega)]; rfl
    repeat (first | refine SeqS.go cok ?_)
    refine Fin.same ?_
    refine ⟨rfl, k, hk, .inr ⟨hc, b, _, rfl, ⟨fun i hi => ?_⟩, rfl⟩⟩
    have hlen : (ds.take k).length = k := by simp; omega
    show updN _ 0 (cellsFrom x.c o (Nat.min k k)) i = _
    rw [updN_cellsFrom]
    simp only [Nat.zero_add, Nat.sub_zero, Nat.zero_le, true_and]
    have hm : Nat.min k k = k := by simp
    rw [hm, if_pos (by omega), hbs.2 i (by omega)]
    simp [List.getD_eq_getElem?_getD, List.getElem?_take, show i < k by omega]

theorem Norm_spec {S : St} {v : Value} {ds : List Nat} (h : Byt S v ds) (hv : val ds < NB) :
    CallG Hvaf.prog 133 #[v] S fun r S' => S'.G = S.G ∧ NatI S'.I r (val ds) := by
  refine (Norm_own h).conv ?_
  obtain ⟨I, G⟩ := S
  rintro r ⟨I', G'⟩ _ ⟨hI, k, hk, ⟨rfl, rfl, rfl⟩ | ⟨hk0, b, c, rfl, how, rfl⟩⟩
  · refine Fin.same ⟨rfl, ?_⟩
    have := hk.val
    simp [val] at this
    rw [← this]; exact NatI.zero _
  · refine Fin.frz [_] _ ⟨rfl, ds.take k, ?_, hk.norm, hk.val, hk.norm.len (by rw [hk.val]; exact hv)⟩
    have hle := hk.le
    have hl := h.2.1
    have hlen : (ds.take k).length = k := by simp; omega
    have := Byt.own (S := ⟨fun x => I' x ∨ x ∈ [(⟨b, k, 5, c⟩ : Ent)], []⟩) (x := ⟨b, k, 5, c⟩) (cap := k) (.inl (.inr List.mem_cons_self)) how (fun d hm => h.1 d (List.mem_of_mem_take hm)) (by omega) (by rw [hlen]; exact Nat.le_refl k) (by omega) (by omega)
    rw [hlen] at this
    exact this

/-- nat.clip -/
theorem clip_spec {S : St} {a : Option Addr} {cap n : Nat} {ds : List Nat} (h : Byt S (.slice a n cap) ds) :
    CallG Hvaf.prog 99 #[.slice a n cap] S fun r S' => S = S' ∧ ∃ k, Trim ds k ∧ r = if k = 0 then .slice none 0 0 else .slice a k k := by
  have hb := h
  obtain ⟨hd, hl, a', cap', h3, hlc, hc, h6⟩ := h
  cases h3
  refine CallG.start (C := mkC Hvaf.prog) cok (args := [.slice a ds.length cap]) Hvaf.func99 rfl Hvaf.ntmps99 (by simp) (by kernel_rfl) ?_
  repeat (first | refine SeqS.go cok ?_)
  refine (trim_spec hb).mono ?_
  rintro r _ _ ⟨rfl, k, hk, rfl⟩
  have hle := hk.le
  repeat (first | refine SeqS.go cok ?_)
  refine CondS.split rfl (fun hc => ?_) (fun hc => ?_)
  · have hc : k = 0 := by simpa using hc
    repeat (first | refine SeqS.go cok ?_)
    refine Fin.same ?_
    exact ⟨rfl, k, hk, by rw [if_pos hc]; rfl⟩
  · have hc : k ≠ 0 := by simpa using hc
    obtain ⟨x, o, rfl, hx, hbs⟩ := hb.some (by omega)
    repeat (first | refine SeqS.goRT cok ?_ | refine SeqS.goRet cok ?_ | refine And.intro (Eq.refl true) ?_ | refine And.intro (by omega) ?_ | (refine NatS.keep ?_; first | with_reducible refine NatS.nat ?_) | (refine ValS.keep ?_; first | with_reducible refine ValS.sl0 ?_))
    refine Fin.same ?_
    refine ⟨rfl, k, hk, ?_⟩
    rw [if_neg hc]; rfl
end Go.Proofs.YgvafwGreat
