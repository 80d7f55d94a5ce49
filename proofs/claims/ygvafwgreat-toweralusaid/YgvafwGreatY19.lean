import Derived.Test.YgvafwGreatHQb
import Derived.Test.YgvafwGreatY15
set_option maxRecDepth 100000
set_option maxHeartbeats 4000000
set_option linter.unusedVariables false
set_option linter.unusedSimpArgs false
-- v2
-- v4
-- v5
namespace Go.Proofs.YgvafwGreat
open Go.HL Go.Proofs

/-- yp.place -/
theorem yPlace {I : Ent → Prop} {G : List Ent} {v : Value} {n L : Nat} (hN : NatI I v n) (hL : L < 2 ^ 62) :
    CallG Hvaf.prog 146 #[v, .int .i64 (L : Nat)] ⟨I, G⟩ fun r S' => ⟨I, G⟩ = S' ∧ r = .tuple #[.int .i64 ((if n < L then n else 0 : Nat) : Int), .bool (decide (n < L))] := by
  have h64 := nU64 (G := G) hN
  by_cases h : n < L
  · rw [if_pos h, decide_eq_true h]
    rw [if_pos (by omega), decide_eq_true (show n < 2 ^ 64 by omega)] at h64
    refine CallG.start (C := mkC Hvaf.prog) cok (args := [v, .int .i64 (L : Nat)]) Hvaf.func146 rfl Hvaf.ntmps146 (by simp) (by kernel_rfl) ?_
    repeat (first | refine SeqS.go cok ?_)
    refine (h64).mono ?_
    rintro r _ - ⟨rfl, rfl⟩
    repeat (first | refine SeqS.go cok ?_ | refine GuardS.yes rfl ?_ | (refine ValS.keep ?_; first | (with_reducible refine ValS.kI64 ?_; first | (with_reducible refine ValS.convI64 ?_ ?_ ; omega)) | (with_reducible refine ValS.kU64 ?_; first | (with_reducible refine ValS.convU64 ?_ ?_ ; omega))) | (refine CondS.keep ?_; first | refine CondS.d0 rfl (by omega) ?_))
    exact Fin.same ⟨rfl, rfl⟩
  · rw [if_neg h, decide_eq_false h]
    by_cases h2 : n < 2 ^ 64
    · rw [if_pos h2, decide_eq_true h2] at h64
      refine CallG.start (C := mkC Hvaf.prog) cok (args := [v, .int .i64 (L : Nat)]) Hvaf.func146 rfl Hvaf.ntmps146 (by simp) (by kernel_rfl) ?_
      repeat (first | refine SeqS.go cok ?_)
      refine (h64).mono ?_
      rintro r _ - ⟨rfl, rfl⟩
      repeat (first | refine SeqS.go cok ?_ | refine GuardS.yes rfl ?_ | (refine ValS.keep ?_; first | (with_reducible refine ValS.kU64 ?_; first | (with_reducible refine ValS.convU64 ?_ ?_ ; omega))) | (refine CondS.keep ?_; first | refine CondS.d1 rfl (by omega) ?_))
      exact Fin.same ⟨rfl, rfl⟩
    · rw [if_neg h2, decide_eq_false h2] at h64
      refine CallG.start (C := mkC Hvaf.prog) cok (args := [v, .int .i64 (L : Nat)]) Hvaf.func146 rfl Hvaf.ntmps146 (by simp) (by kernel_rfl) ?_
      repeat (first | refine SeqS.go cok ?_)
      refine (h64).mono ?_
      rintro r _ - ⟨rfl, rfl⟩
      repeat (first | refine SeqS.go cok ?_ | refine GuardS.no rfl ?_ | refine CondS.t rfl ?_)
      exact Fin.same ⟨rfl, rfl⟩
theorem Byt.mk0 {J : Ent → Prop} {x : Ent} {m : Nat} {L : List Nat} (hx : J x) (hl : L.length = m) (hm : m < 2 ^ 47) (h8 : ∀ d ∈ L, d < 256) (hs : m ≤ x.sz) (hc : ∀ i, i < m → x.c i = .int .u8 (L.getD i 0 : Nat)) : Byt ⟨J, []⟩ (sl x.b 0 m m) L := by
  subst hl
  exact ⟨h8, hm, _, _, rfl, Nat.le_refl _, by omega, .inr ⟨x, 0, rfl, .inl hx, by omega, fun i hi => by rw [Nat.zero_add]; exact hc i hi⟩⟩
/-- yp.bytesOf -/
theorem yBytesOf {I : Ent → Prop} {G : List Ent} {v : Value} {ds : List Nat} (hb : Byt ⟨I, G⟩ v ds) :
    CallG Hvaf.prog 36 #[v] ⟨I, G⟩ fun r S' => S'.G = G ∧ Byt ⟨S'.I, []⟩ r ds := by
  rcases hb.cases with ⟨rfl, rfl⟩ | ⟨x, o, cap, rfl, h1, h2, hx, hbs⟩
  · refine CallG.start (C := mkC Hvaf.prog) cok (args := [.slice none 0 0]) Hvaf.func36 rfl Hvaf.ntmps36 (by simp) (by kernel_rfl) ?_
    repeat (first | refine SeqS.go cok ?_ | refine CondS.t rfl ?_)
    exact Fin.same ⟨rfl, Byt.nil _⟩
  · have hlen := hb.2.1
    refine CallG.start (C := mkC Hvaf.prog) cok (args := [.slice (some ⟨x.b, o, none⟩) ds.length cap]) Hvaf.func36 rfl Hvaf.ntmps36 (by simp) (by kernel_rfl) ?_
    repeat (first | refine SeqS.go cok ?_ | refine CondS.f rfl ?_ | refine And.intro (by dsimp only; omega) ?_ | (refine NatS.keep ?_; first | with_reducible refine NatS.nat ?_))
    intro b
    repeat (first | refine SeqS.go cok ?_)
    refine OpG.keep ?_
    refine OpG.copy cok 0 rfl (y := x) (hx.mono (.refl _) (fun y hy => List.mem_cons_of_mem _ hy)) rfl rfl rfl rfl rfl rfl rfl ?_ ?_ ?_ ?_
    · show 0 + mulS (Nat.min ds.length ds.length) 1 ≤ ds.length; rw [mulS_eq]; simp
    · show o + mulS (Nat.min ds.length ds.length) 1 ≤ x.sz; have := hbs.1; rw [mulS_eq]; simp; omega
    · intro p hp
      have hp : p < mulS (Nat.min ds.length ds.length) 1 := hp
      rw [mulS_eq] at hp; simp at hp
      rw [hbs.2 p (by omega)]; rfl
    repeat (first | refine SeqS.go cok ?_)
    refine Fin.frz [_] G ⟨rfl, ?_⟩
    refine Byt.mk0 (x := ⟨b, ds.length, _, _⟩) (.inr List.mem_cons_self) rfl hlen hb.1 (Nat.le_refl _) fun i hi => ?_
    show updN _ 0 (cellsFrom x.c o (mulS (Nat.min ds.length ds.length) 1)) i = _
    simp only [mulS_eq, Nat.mul_one]
    rw [updN_cellsFrom]
    simp only [Nat.zero_add, Nat.sub_zero, Nat.zero_le, true_and]
    rw [show Nat.min ds.length ds.length = ds.length by simp]
    have hi2 : i < ds.length := hi
    simp only [hi2, if_true]
    exact hbs.2 i hi
/-- yp.natOf -/
theorem yNatOf {I : Ent → Prop} {G : List Ent} {v : Value} {n : Nat} (hN : NatI I v n) :
    CallG Hvaf.prog 227 #[v] ⟨I, G⟩ fun r S' => S'.G = G ∧ NatI S'.I r n := by
  obtain ⟨ds, h1, h2, h3, h4⟩ := hN.byt G
  refine CallG.start (C := mkC Hvaf.prog) cok (args := [v]) Hvaf.func227 rfl Hvaf.ntmps227 (by simp) (by kernel_rfl) ?_
  repeat (first | refine SeqS.go cok ?_)
  refine (yBytesOf h1).mono ?_
  rintro r ⟨J, G'⟩ hs ⟨rfl, hr⟩
  repeat (first | refine SeqS.go cok ?_)
  exact Fin.same ⟨rfl, ds, hr, h2, h3, h4⟩
/-- m bytes from o on, zeros behind the end. -/
def cutL (ds : List Nat) (o m : Nat) : List Nat := (List.range m).map fun i => ds.getD (o + i) 0
theorem cutL_len (ds : List Nat) (o m : Nat) : (cutL ds o m).length = m := by simp [cutL]
theorem cutL_get (ds : List Nat) (o : Nat) {m i : Nat} (h : i < m) : (cutL ds o m).getD i 0 = ds.getD (o + i) 0 := by
  simp only [cutL, List.getD_eq_getElem?_getD, List.getElem?_map, List.getElem?_range h]; rfl
theorem cutL_lt {ds : List Nat} (h : ∀ d ∈ ds, d < 256) (o m : Nat) : ∀ d ∈ cutL ds o m, d < 256 := by
  intro d hd
  obtain ⟨i, _, rfl⟩ := List.mem_map.1 hd
  exact getD_lt h _
/-- yp.cut -/
theorem yCut {I : Ent → Prop} {G : List Ent} {v u w : Value} {ds : List Nat} {o m : Nat} (hb : Byt ⟨I, G⟩ v ds) (hN : NatI I u o) (hN2 : NatI I w m) (hm : m < 2 ^ 40) (hd : ds.length < 2 ^ 40) :
    CallG Hvaf.prog 156 #[v, u, w] ⟨I, G⟩ fun r S' => S'.G = G ∧ Byt ⟨S'.I, []⟩ r (cutL ds o m) := by
  have hsm := ySmall (G := G) hN2
  rw [if_pos (by omega)] at hsm
  have h8 := cutL_lt hb.1 o m
  have hpl := fun (G : List Ent) => yPlace (G := G) (L := ds.length) hN (by omega)
  obtain ⟨va, vcap, rfl, k1, k2, k3⟩ := hb.form
  by_cases ho : o < ds.length
  · simp only [if_pos ho, decide_eq_true ho] at hpl
    rcases hb.cases with ⟨h, h'⟩ | ⟨x, q, cap, hv, h1, h2, hx, hbs⟩
    · rw [h'] at ho; simp at ho
    · cases hv
      refine CallG.start (C := mkC Hvaf.prog) cok (args := [.slice (some ⟨x.b, q, none⟩) ds.length vcap, u, w]) Hvaf.func156 rfl Hvaf.ntmps156 (by simp) (by kernel_rfl) ?_
      repeat (first | refine SeqS.go cok ?_)
      refine (hsm).mono ?_
      rintro r _ - ⟨rfl, rfl⟩
      repeat (first | refine And.intro (by dsimp only; omega) ?_ | (refine NatS.keep ?_; first | with_reducible refine NatS.nat ?_))
      intro b
      repeat (first | refine SeqS.go cok ?_)
      refine (hpl _).mono ?_
      rintro r _ - ⟨rfl, rfl⟩
      repeat (first | refine SeqS.go cok ?_ | refine CondS.t rfl ?_ | refine And.intro (Eq.refl true) ?_ | refine And.intro (by omega) ?_ | (refine NatS.keep ?_; first | with_reducible refine NatS.nat ?_) | (refine ValS.keep ?_; first | (with_reducible refine ValS.slN ?_ ?_; omega)))
      refine OpG.keep ?_
      refine OpG.copy cok 0 rfl (y := x) (hx.mono (.refl _) (fun y hy => List.mem_cons_of_mem _ hy)) rfl rfl rfl rfl rfl rfl rfl ?_ ?_ ?_ ?_
      · show 0 + mulS (Nat.min (ds.length - o) m) 1 ≤ m
        rw [mulS_eq, Nat.mul_one, Nat.zero_add]; exact Nat.min_le_right _ _
      · show addS q (mulS o 1) + mulS (Nat.min (ds.length - o) m) 1 ≤ x.sz
        have := hbs.1
        have h3 := Nat.min_le_left (ds.length - o) m
        rw [addS_eq, mulS_eq, mulS_eq]
        show q + o * 1 + (min (ds.length - o) m) * 1 ≤ x.sz
        omega
      · intro p hp
        have hp : p < mulS (Nat.min (ds.length - o) m) 1 := hp
        rw [mulS_eq, Nat.mul_one] at hp
        have hp2 : p < min (ds.length - o) m := hp
        show one (x.c (addS q (mulS o 1) + p)) = true
        rw [addS_eq, mulS_eq, show q + o * 1 + p = q + (o + p) by omega, hbs.2 (o + p) (by omega)]; rfl
      repeat (first | refine SeqS.go cok ?_)
      refine Fin.frz [_] G ⟨rfl, ?_⟩
      refine Byt.mk0 (x := ⟨b, m, _, _⟩) (.inr List.mem_cons_self) (cutL_len ds o m) (by omega) h8 (Nat.le_refl _) fun i hi => ?_
      show updN _ 0 (cellsFrom x.c _ _) i = _
      simp only [mulS_eq, addS_eq, Nat.mul_one]
      rw [updN_cellsFrom, cutL_get ds o hi]
      simp only [Nat.zero_add, Nat.sub_zero, Nat.zero_le, true_and]
      by_cases hlt : i < ds.length - o
      · rw [if_pos (show i < min (ds.length - o) m by omega), show q + o + i = q + (o + i) by omega, hbs.2 (o + i) (by omega)]
      · rw [if_neg (show ¬ i < min (ds.length - o) m by omega), getD_big (by omega)]; rfl
  · simp only [if_neg ho, decide_eq_false ho] at hpl
    refine CallG.start (C := mkC Hvaf.prog) cok (args := [.slice va ds.length vcap, u, w]) Hvaf.func156 rfl Hvaf.ntmps156 (by simp) (by kernel_rfl) ?_
    repeat (first | refine SeqS.go cok ?_)
    refine (hsm).mono ?_
    rintro r _ - ⟨rfl, rfl⟩
    repeat (first | refine And.intro (by dsimp only; omega) ?_ | (refine NatS.keep ?_; first | with_reducible refine NatS.nat ?_))
    intro b
    repeat (first | refine SeqS.go cok ?_)
    refine (hpl _).mono ?_
    rintro r _ - ⟨rfl, rfl⟩
    repeat (first | refine SeqS.go cok ?_ | refine CondS.f rfl ?_)
    refine Fin.frz [_] G ⟨rfl, ?_⟩
    refine Byt.mk0 (x := ⟨b, m, _, _⟩) (.inr List.mem_cons_self) (cutL_len ds o m) (by omega) h8 (Nat.le_refl _) fun i hi => ?_
    rw [cutL_get ds o hi, getD_big (by omega)]; rfl
end Go.Proofs.YgvafwGreat
