import Derived.Test.YgvaewGreatL4
import Derived.Test.YgvaewGreatOp2
import Derived.Test.YgvaewGreatY50
set_option maxRecDepth 100000
set_option maxHeartbeats 4000000
set_option linter.unusedVariables false
set_option linter.unusedSimpArgs false
-- v2
-- v4
-- v5
-- v6
-- v7
-- plus: (refine QuG.keep ?_; refine QuG.ow cok 0 rfl how2 rfl rfl rfl rfl rfl rfl (by omega) (by show _ ≤ ds.length; omega) ?_)
-- plus: (refine OpG.keep ?_; refine OpG.ow cok 0 rfl how2 rfl rfl rfl rfl rfl rfl rfl (by omega) (by show _ ≤ ds.length; omega) ?_)
namespace Go.Proofs.YgvaewGreat
open Go.HL Go.Proofs

/-- law.copyBytes, the copy one's own -/
theorem lCopyO {I : Ent → Prop} {G : List Ent} {v : Value} {ds : List Nat} (hb : Byt ⟨I, G⟩ v ds) :
    CallG Hvae.prog 17 #[v] ⟨I, G⟩ fun r S' => (ds = [] ∧ r = .slice none 0 0 ∧ S' = ⟨I, G⟩) ∨ ∃ b c, r = sl b 0 ds.length ds.length ∧ S' = ⟨I, ⟨b, ds.length, 5, c⟩ :: G⟩ ∧ Ow c ds := by
  rcases hb.cases with ⟨rfl, rfl⟩ | ⟨x, o, cap, rfl, h1, h2, hx, hbs⟩
  · refine CallG.start (C := mkC Hvae.prog) cok (args := [.slice none 0 0]) Hvae.func17 rfl Hvae.ntmps17 (by simp) (by kernel_rfl) ?_
    repeat (first | refine SeqS.go cok ?_ | refine CondS.t rfl ?_)
    exact Fin.same (.inl ⟨rfl, rfl, rfl⟩)
  · have hlen := hb.2.1
    refine CallG.start (C := mkC Hvae.prog) cok (args := [.slice (some ⟨x.b, o, none⟩) ds.length cap]) Hvae.func17 rfl Hvae.ntmps17 (by simp) (by kernel_rfl) ?_
    repeat (first | refine SeqS.go cok ?_ | refine CondS.f rfl ?_ | refine And.intro (by dsimp only; omega) ?_ | (refine NatS.keep ?_; first | with_reducible refine NatS.nat ?_))
    intro b
    repeat (first | refine SeqS.go cok ?_)
    refine OpG.keep ?_
    refine OpG.copy cok 0 rfl (y := x) (hx.mono (.refl _) (fun y hy => List.mem_cons_of_mem _ hy)) rfl rfl rfl rfl rfl rfl rfl ?_ ?_ ?_ ?_
    · show 0 + mulS (Nat.min ds.length ds.length) 1 ≤ ds.length; rw [mulS_eq]; simp
    · show o + mulS (Nat.min ds.length ds.length) 1 ≤ x.sz; have := hbs.1; rw [mulS_eq]; simp; omega
    · intro p hp
      have hp : p < mulS (Nat.min ds.length ds.length) 1 := hp
      rw [mulS_eq] at hp; simp at hp
      rw [hbs.2 p (by omega)]; rfl
    repeat (first | refine SeqS.go cok ?_)
    refine Fin.same (.inr ⟨b, _, rfl, rfl, ⟨fun i hi => ?_⟩⟩)
    show updN _ 0 (cellsFrom x.c o (mulS (Nat.min ds.length ds.length) 1)) i = _
    simp only [mulS_eq, Nat.mul_one]
    rw [updN_cellsFrom]
    simp only [Nat.zero_add, Nat.sub_zero, Nat.zero_le, true_and]
    rw [show Nat.min ds.length ds.length = ds.length by simp]
    have hi2 : i < ds.length := hi
    simp only [hi2, if_true]
    exact hbs.2 i hi
/-- A byte that neither calls nor creates. -/
def unmN (o : Nat) : Nat := if o = 240 ∨ o = 245 ∨ famN o = 16 then 254 else o
def unmP (ds : List Nat) (k : Nat) : List Nat := (ds.map unmN).take k ++ ds.drop k
theorem unmP_len (ds : List Nat) (k : Nat) (h : k ≤ ds.length) : (unmP ds k).length = ds.length := by simp [unmP]; omega
theorem unmP_get {ds : List Nat} {k : Nat} (h : k < ds.length) : (unmP ds k).getD k 0 = ds.getD k 0 := by
  unfold unmP
  rw [List.getD_eq_getElem?_getD, List.getElem?_append_right (by simp; omega)]
  simp [Nat.min_eq_left (Nat.le_of_lt h), List.getD_eq_getElem?_getD]
theorem unmP_set {ds : List Nat} {k : Nat} (h : k < ds.length) : (unmP ds k).set k (unmN (ds.getD k 0)) = unmP ds (k + 1) := by
  apply List.ext_getElem?
  intro i
  rw [List.getElem?_set]
  unfold unmP
  rcases Nat.lt_trichotomy i k with hi | rfl | hi
  · rw [if_neg (by omega), List.getElem?_append_left (by simp; omega), List.getElem?_append_left (by simp; omega), List.getElem?_take, List.getElem?_take, if_pos (by omega), if_pos (by omega)]
  · rw [if_pos rfl, if_pos (by simp; omega), List.getElem?_append_left (by simp; omega), List.getElem?_take, if_pos (by omega)]
    simp [List.getElem?_eq_getElem h, List.getD_eq_getElem?_getD]
  · rw [if_neg (by omega), List.getElem?_append_right (by simp; omega), List.getElem?_append_right (by simp; omega)]
    simp only [List.length_take, List.length_map, List.getElem?_drop]
    congr 1; omega
theorem unmP_same {ds : List Nat} {k : Nat} (h : k < ds.length) (hu : unmN (ds.getD k 0) = ds.getD k 0) : unmP ds (k + 1) = unmP ds k := by
  rw [← unmP_set h, hu]
  conv => lhs; rw [← unmP_get h]
  have hl := unmP_len ds k (Nat.le_of_lt h)
  apply List.ext_getElem?
  intro i
  rw [List.getElem?_set]
  split
  · rename_i hi; subst hi
    rw [if_pos (by omega), List.getD_eq_getElem?_getD, List.getElem?_eq_getElem (by omega)]; rfl
  · rfl
theorem unmP_all (ds : List Nat) : unmP ds ds.length = ds.map unmN := by
  unfold unmP
  rw [List.drop_length, List.append_nil, List.take_of_length_le (by simp)]
theorem unmN_lt {o : Nat} (h : o < 256) : unmN o < 256 := by unfold unmN; split <;> omega
/-- law.unmade at one code -/
theorem lUnmade {I : Ent → Prop} {G : List Ent} {v cv : Value} {ds : List Nat} {vss : List (List Value)} (hR : RowI I 1 v vss) (hv1 : vss.length = 1) (hv0 : vss.getD 0 [] = [cv]) (hb : Byt ⟨I, []⟩ cv ds) :
    CallG Hvae.prog 6 #[v, .bool true] ⟨I, G⟩ fun r S' => S'.G = G ∧ ∃ cv', RowI S'.I 1 r [[cv']] ∧ Byt ⟨S'.I, []⟩ cv' (ds.map unmN) := by
  obtain ⟨a1, cap, rfl⟩ := hR.form
  obtain ⟨x, o, rfl, hx, hE⟩ := hR.some (by omega)
  obtain ⟨ca, cn, rfl, -⟩ := hb.form
  have hrd : ∀ G, Rd ⟨I, G⟩ x := fun _ => .inl hx
  have h8 := hb.1
  have hl47 := hb.2.1
  refine CallG.start (C := mkC Hvae.prog) cok (args := [HL.sl x.b o vss.length cap, .bool true]) Hvae.func6 rfl Hvae.ntmps6 (by simp) (by kernel_rfl) ?_
  repeat (first | refine SeqS.go cok ?_)
  refine W.rounds cok (by kernel_rfl) 2 ?_
  repeat (first | (refine QuG.keep ?_; first | refine QuG.el1E cok (by assumption) (by first | assumption | exact ‹∀ G, Rd ⟨_, G⟩ _› _) (by assumption) rfl rfl rfl rfl (by omega) ?_) | refine SeqS.go cok ?_ | refine CondS.f rfl ?_ | refine And.intro (by omega) ?_ | (refine NatS.keep ?_; first | with_reducible refine NatS.lit ?_) | (refine CondS.keep ?_; first | refine CondS.d1 rfl (by omega) ?_))
  refine (lCopyO (Byt.ext hb)).mono ?_
  rintro r _ - (⟨e1, rfl, rfl⟩ | ⟨b, c, rfl, rfl, how⟩)
  · repeat (first | refine SeqS.go cok ?_)
    refine W.rounds cok (by kernel_rfl) 1 ?_
    repeat (first | refine SeqS.go cok ?_ | refine CondS.f rfl ?_ | refine And.intro (fillOk_of (Eq.refl true)) ?_ | refine And.intro (by dsimp only; omega) ?_)
    intro tb
    refine OpG.keep ?_
    refine OpG.appFz cok (L := G) (tz := 1) (vss := []) (n := 0) (el := [.slice none 0 0]) rfl rfl rfl rfl rfl rfl rfl rfl rfl (RowI.nil _ _) (Nat.le_refl _) (by decide) ?_ rfl (by decide) ?_ ?_
    · refine ⟨fun p hp => ?_⟩
      have hp0 : p = 0 := by simpa using hp
      subst hp0
      rfl
    · exact Nat.le_of_ble_eq_true rfl
    intro sv J4 hs4 hsv1 hrow
    repeat (first | refine SeqS.go cok ?_ | (refine ValS.keep ?_; first | (with_reducible refine ValS.kI64 ?_; first | (with_reducible refine ValS.addI64_LL ?_ ?_ ; omega))) | (refine CondS.keep ?_; first | refine CondS.d0 rfl (by omega) ?_))
    subst e1
    exact Fin.same ⟨rfl, _, hrow, Byt.nil _⟩
  · repeat (first | refine SeqS.go cok ?_)
    refine W.loopE cok (by kernel_rfl) 2 (fun (k : Nat) e' S' => ∃ c, S' = ⟨I, ⟨b, ds.length, 5, c⟩ :: G⟩ ∧ Ow c (unmP ds k) ∧ k ≤ ds.length ∧ slots [(1, .bool true), (5, .slice none 0 0), (8, HL.sl b 0 ds.length ds.length), (12, .int .i64 (vss.length : Nat)), (13, .int .i64 (0 : Nat)), (22, HL.sl b 0 ds.length ds.length), (23, .int .i64 (ds.length : Nat)), (24, .int .i64 (k : Nat))] e') (fun k => ds.length - k) 0
      ⟨c, rfl, how, Nat.zero_le _, rfl, rfl, rfl, rfl, rfl, rfl, rfl, rfl, trivial⟩ (fun e' S' => ∃ c, S' = ⟨I, ⟨b, ds.length, 5, c⟩ :: G⟩ ∧ Ow c (ds.map unmN) ∧ slots [(5, .slice none 0 0), (8, HL.sl b 0 ds.length ds.length), (12, .int .i64 (vss.length : Nat)), (13, .int .i64 (0 : Nat))] e') ?_ ?_
    · rintro e' S2 - ⟨c2, rfl, how2, hsl⟩
      refine SeqS.slots cok _ hsl fun e => ?_
      repeat (first | refine And.intro (fillOk_of (Eq.refl true)) ?_ | refine And.intro (by dsimp only; omega) ?_)
      intro tb
      refine OpG.keep ?_
      refine OpG.appFz cok (L := ⟨b, ds.length, 5, c2⟩ :: G) (tz := 1) (vss := []) (n := 0) (el := [HL.sl b 0 ds.length ds.length]) rfl rfl rfl rfl rfl rfl rfl rfl rfl (RowI.nil _ _) (Nat.le_refl _) (by decide) ?_ rfl (by decide) ?_ ?_
      · refine ⟨fun p hp => ?_⟩
        have hp0 : p = 0 := by simpa using hp
        subst hp0
        rfl
      · exact Nat.le_of_ble_eq_true rfl
      intro sv J4 hs4 hsv1 hrow
      repeat (first | refine SeqS.go cok ?_ | (refine ValS.keep ?_; first | (with_reducible refine ValS.kI64 ?_; first | (with_reducible refine ValS.addI64_L ?_ ?_ ; omega))) | (refine CondS.keep ?_; first | refine CondS.d0 rfl (by omega) ?_))
      refine Fin.frz [_] G ⟨rfl, _, hrow.up sub_frz, ?_⟩
      have hml : (ds.map unmN).length = ds.length := by simp
      exact Byt.mk0 (x := ⟨b, ds.length, _, c2⟩) (.inr List.mem_cons_self) hml (by omega) (fun d hd => by
        obtain ⟨y, hy, rfl⟩ := List.mem_map.1 hd
        exact unmN_lt (h8 y hy)) (Nat.le_refl _) (fun i hi => how2.get i (by omega))
    · rintro k e' S2 - ⟨c2, rfl, how2, hk, hsl⟩
      refine W.slots _ hsl fun e => ?_
      have hpl := unmP_len ds k hk
      by_cases hlt : k < ds.length
      · obtain ⟨d, hd⟩ : ∃ d, ds.getD k 0 = d := ⟨_, rfl⟩
        have hget : (unmP ds k).getD k 0 = d := by rw [unmP_get hlt]; exact hd
        have hd8 : d < 256 := by rw [← hd, List.getD_eq_getElem?_getD, List.getElem?_eq_getElem hlt]; exact h8 _ (List.getElem_mem hlt)
        have hfg : famN ((unmP ds k).getD k 0) = famN d := by rw [hget]
        by_cases h1 : d = 240
        · have hu : unmN d = 254 := by unfold unmN; rw [if_pos (.inl h1)]
          repeat (first | (refine QuG.keep ?_; refine QuG.ow cok 0 rfl how2 rfl rfl rfl rfl rfl rfl (by omega) (by show _ ≤ ds.length; omega) ?_) | (refine OpG.keep ?_; refine OpG.ow cok 0 rfl how2 rfl rfl rfl rfl rfl rfl rfl (by omega) (by show _ ≤ ds.length; omega) ?_) | refine SeqS.go cok ?_ | refine GuardS.no rfl ?_ | refine GuardS.U rfl ?_ | refine CondS.t rfl ?_ | refine And.intro (by omega) ?_ | (refine NatS.keep ?_; first | with_reducible refine NatS.nat ?_) | (refine GuardS.keep ?_; first | refine GuardS.F1 rfl (by omega) ?_) | (refine CondS.keep ?_; first | refine CondS.d1 rfl (by omega) ?_))
          rintro c3 how3
          repeat (first | refine SeqS.go cok ?_ | (refine ValS.keep ?_; first | (with_reducible refine ValS.kI64 ?_; first | (with_reducible refine ValS.addI64_L ?_ ?_ ; omega))))
          refine ⟨k + 1, ⟨c3, rfl, ?_, hlt, rfl, rfl, rfl, rfl, rfl, rfl, rfl, rfl, trivial⟩, by show ds.length - (k + 1) < ds.length - k; omega⟩
          rw [← unmP_set hlt, hd, hu]; exact how3
        by_cases h2 : d = 245
        · have hu : unmN d = 254 := by unfold unmN; rw [if_pos (.inr (.inl h2))]
          repeat (first | (refine QuG.keep ?_; refine QuG.ow cok 0 rfl how2 rfl rfl rfl rfl rfl rfl (by omega) (by show _ ≤ ds.length; omega) ?_) | (refine OpG.keep ?_; refine OpG.ow cok 0 rfl how2 rfl rfl rfl rfl rfl rfl rfl (by omega) (by show _ ≤ ds.length; omega) ?_) | refine SeqS.go cok ?_ | refine GuardS.yes rfl ?_ | refine GuardS.no rfl ?_ | refine GuardS.U rfl ?_ | refine CondS.t rfl ?_ | refine And.intro (by omega) ?_ | (refine NatS.keep ?_; first | with_reducible refine NatS.nat ?_) | (refine GuardS.keep ?_; first | refine GuardS.F1 rfl (by omega) ?_ | refine GuardS.F0 rfl (by omega) ?_) | (refine CondS.keep ?_; first | refine CondS.d1 rfl (by omega) ?_))
          rintro c3 how3
          repeat (first | refine SeqS.go cok ?_ | (refine ValS.keep ?_; first | (with_reducible refine ValS.kI64 ?_; first | (with_reducible refine ValS.addI64_L ?_ ?_ ; omega))))
          refine ⟨k + 1, ⟨c3, rfl, ?_, hlt, rfl, rfl, rfl, rfl, rfl, rfl, rfl, rfl, trivial⟩, by show ds.length - (k + 1) < ds.length - k; omega⟩
          rw [← unmP_set hlt, hd, hu]; exact how3
        by_cases h3 : famN d = 16
        · have hu : unmN d = 254 := by unfold unmN; rw [if_pos (.inr (.inr h3))]
          repeat (first | (refine QuG.keep ?_; refine QuG.ow cok 0 rfl how2 rfl rfl rfl rfl rfl rfl (by omega) (by show _ ≤ ds.length; omega) ?_) | refine SeqS.go cok ?_ | refine GuardS.yes rfl ?_ | refine And.intro (by omega) ?_ | (refine NatS.keep ?_; first | with_reducible refine NatS.nat ?_) | (refine GuardS.keep ?_; first | refine GuardS.F0 rfl (by omega) ?_) | (refine CondS.keep ?_; first | refine CondS.d1 rfl (by omega) ?_))
          refine (Family_spec (o := (unmP ds k).getD k 0) (by omega)).mono ?_
          rintro r _ - ⟨rfl, rfl⟩
          repeat (first | (refine OpG.keep ?_; refine OpG.ow cok 0 rfl how2 rfl rfl rfl rfl rfl rfl rfl (by omega) (by show _ ≤ ds.length; omega) ?_) | refine SeqS.go cok ?_ | refine GuardS.yes rfl ?_ | refine And.intro (by omega) ?_ | (refine NatS.keep ?_; first | with_reducible refine NatS.nat ?_) | (refine CondS.keep ?_; first | refine CondS.d1 rfl (by omega) ?_))
          rintro c3 how3
          repeat (first | refine SeqS.go cok ?_ | (refine ValS.keep ?_; first | (with_reducible refine ValS.kI64 ?_; first | (with_reducible refine ValS.addI64_L ?_ ?_ ; omega))))
          refine ⟨k + 1, ⟨c3, rfl, ?_, hlt, rfl, rfl, rfl, rfl, rfl, rfl, rfl, rfl, trivial⟩, by show ds.length - (k + 1) < ds.length - k; omega⟩
          rw [← unmP_set hlt, hd, hu]; exact how3
        · have hu : unmN d = d := by unfold unmN; rw [if_neg (by omega)]
          repeat (first | (refine QuG.keep ?_; refine QuG.ow cok 0 rfl how2 rfl rfl rfl rfl rfl rfl (by omega) (by show _ ≤ ds.length; omega) ?_) | refine SeqS.go cok ?_ | refine GuardS.yes rfl ?_ | refine And.intro (by omega) ?_ | (refine NatS.keep ?_; first | with_reducible refine NatS.nat ?_) | (refine GuardS.keep ?_; first | refine GuardS.F0 rfl (by omega) ?_) | (refine CondS.keep ?_; first | refine CondS.d1 rfl (by omega) ?_))
          refine (Family_spec (o := (unmP ds k).getD k 0) (by omega)).mono ?_
          rintro r _ - ⟨rfl, rfl⟩
          repeat (first | refine SeqS.go cok ?_ | refine GuardS.yes rfl ?_ | (refine ValS.keep ?_; first | (with_reducible refine ValS.kI64 ?_; first | (with_reducible refine ValS.addI64_L ?_ ?_ ; omega))) | (refine CondS.keep ?_; first | refine CondS.d0 rfl (by omega) ?_))
          refine ⟨k + 1, ⟨c2, rfl, ?_, hlt, rfl, rfl, rfl, rfl, rfl, rfl, rfl, rfl, trivial⟩, by show ds.length - (k + 1) < ds.length - k; omega⟩
          rw [unmP_same hlt (by rw [hd]; exact hu)]; exact how2
      · obtain rfl : k = ds.length := by omega
        rw [unmP_all] at how2
        repeat (first | refine SeqS.go cok ?_ | (refine CondS.keep ?_; first | refine CondS.d0 rfl (by omega) ?_))
        exact ⟨c2, rfl, how2, rfl, rfl, rfl, rfl, trivial⟩
end Go.Proofs.YgvaewGreat
