import Derived.Test.YgvafwGreatY75
import Derived.Test.YgvafwGreatL4
import Derived.Test.YgvafwGreatL7
set_option exponentiation.threshold 1000
set_option maxRecDepth 100000
set_option maxHeartbeats 4000000
set_option linter.unusedVariables false
set_option linter.unusedSimpArgs false
-- v2
-- v4
-- v5
-- v6
-- v7
-- plus: (refine QuG.keep ?_; refine QuG.l1E cok 5 rfl rfl rfl rfl rfl (by first | exact Nat.le_of_ble_eq_true rfl | omega) (by assumption) ?_)
-- still: exact QuV.of (QuG.subL cok 0 rfl rfl rfl rfl rfl rfl (by assumption) (by assumption) (by first | exact Nat.le_of_ble_eq_true rfl | omega) rfl)
-- still: exact QuV.of (QuG.upC cok 0 rfl rfl rfl rfl rfl rfl (by first | exact Nat.le_of_ble_eq_true rfl | omega) (by first | exact Nat.le_of_ble_eq_true rfl | omega) (by assumption) rfl)
-- still: exact QuV.of (QuG.subL cok 1 rfl rfl rfl rfl rfl rfl (by assumption) (by assumption) (by first | exact Nat.le_of_ble_eq_true rfl | omega) rfl)
-- still: exact QuV.of (QuG.upC cok 1 rfl rfl rfl rfl rfl rfl (by first | exact Nat.le_of_ble_eq_true rfl | omega) (by first | exact Nat.le_of_ble_eq_true rfl | omega) (by assumption) rfl)
-- still: exact QuV.of (QuG.subL cok 2 rfl rfl rfl rfl rfl rfl (by assumption) (by assumption) (by first | exact Nat.le_of_ble_eq_true rfl | omega) rfl)
-- still: exact QuV.of (QuG.upC cok 2 rfl rfl rfl rfl rfl rfl (by first | exact Nat.le_of_ble_eq_true rfl | omega) (by first | exact Nat.le_of_ble_eq_true rfl | omega) (by assumption) rfl)
namespace Go.Proofs.YgvafwGreat
open Go.HL Go.Proofs

theorem callNS {P : Program} {f : FuncId} {args : Array Value} {I : Ent → Prop} {G : List Ent} {n : Nat} {K : Post} (h : CallG P f args ⟨I, G⟩ fun r S' => S'.G = G ∧ NatI S'.I r n)
    (k : ∀ a m c J, Sub I J → NatI J (.slice a m c) n → K (.slice a m c) ⟨J, G⟩) : CallG P f args ⟨I, G⟩ K := by
  refine callN h fun r J hs hN => ?_
  obtain ⟨ds, hb, _⟩ := hN.byt []
  obtain ⟨a, c, rfl, _⟩ := hb.form
  exact k a _ c J hs hN
theorem callBS {P : Program} {f : FuncId} {args : Array Value} {I : Ent → Prop} {G : List Ent} {l : List Nat} {K : Post} (h : CallG P f args ⟨I, G⟩ fun r S' => S'.G = G ∧ Byt ⟨S'.I, []⟩ r l)
    (k : ∀ a c J, Sub I J → Byt ⟨J, []⟩ (.slice a l.length c) l → K (.slice a l.length c) ⟨J, G⟩) : CallG P f args ⟨I, G⟩ K := by
  refine h.mono ?_
  rintro r ⟨J, _⟩ hs ⟨rfl, hb⟩
  obtain ⟨a, c, rfl, _⟩ := hb.form
  exact k a c J hs hb
theorem _root_.Go.HL.CallG.drop12 {P : Program} {f : FuncId} {args : Array Value} {I : Ent → Prop} {x y z : Ent} {G : List Ent} {K : Post} (h : CallG P f args ⟨I, x :: G⟩ K) : CallG P f args ⟨I, x :: y :: z :: G⟩ K := by
  refine CallG.rel (Rel.perm (x :: G) [y, z] ?_ h)
  rw [List.cons_append]
  exact .cons _ (List.perm_append_comm (l₁ := [y, z]) (l₂ := G))
theorem _root_.Go.HL.CallG.drop2 {P : Program} {f : FuncId} {args : Array Value} {I : Ent → Prop} {y z : Ent} {G : List Ent} {K : Post} (h : CallG P f args ⟨I, G⟩ K) : CallG P f args ⟨I, y :: z :: G⟩ K :=
  CallG.rel (Rel.perm G [y, z] (List.perm_append_comm (l₁ := [y, z]) (l₂ := G)) h)
theorem callRS {P : Program} {f : FuncId} {args : Array Value} {I : Ent → Prop} {G : List Ent} {k : Nat} {vss : List (List Value)} {K : Post} (h : CallG P f args ⟨I, G⟩ fun r S' => S'.G = G ∧ RowI S'.I k r vss)
    (kk : ∀ a c J, Sub I J → RowI J k (.slice a vss.length c) vss → K (.slice a vss.length c) ⟨J, G⟩) : CallG P f args ⟨I, G⟩ K := by
  refine h.mono ?_
  rintro r ⟨J, _⟩ hs ⟨rfl, hb⟩
  obtain ⟨a, c, rfl⟩ := hb.form
  exact kk a c J hs hb
theorem _root_.Go.HL.Fin.frz1 {K : Post} {v : Value} {I : Ent → Prop} {a y z : Ent} {G : List Ent} (h : K v ⟨fun x => I x ∨ x ∈ [a], G⟩) : Fin K v ⟨I, a :: y :: z :: G⟩ :=
  ⟨[y, z], [a], G, _, .cons _ (List.perm_append_comm (l₁ := [y, z]) (l₂ := G)), fun _ => .rfl, h⟩
theorem _root_.Go.HL.CallG.abs2 {P : Program} {f : FuncId} {args : Array Value} {I : Ent → Prop} {b0 s0 b1 s1 : Nat} {T0 T1 : TypeId} {c0 c1 : Nat → Value} {G : List Ent} {K : Post} (v0 v1 : List Value) (h0 : Row c0 0 v0) (h1 : Row c1 0 v1)
    (h : ∀ c0 c1, Row c0 0 v0 → Row c1 0 v1 → CallG P f args ⟨I, ⟨b0, s0, T0, c0⟩ :: ⟨b1, s1, T1, c1⟩ :: G⟩ K) : CallG P f args ⟨I, ⟨b0, s0, T0, c0⟩ :: ⟨b1, s1, T1, c1⟩ :: G⟩ K := h c0 c1 h0 h1
theorem clone_cells {c : Nat → Value} {v0 v1 v2 v3 v4 v5 v6 v7 w u6 u7 : Value} (hr : Row c 0 [v0, v1, v2, v3, v4, v5, v6, v7]) : cellsFrom (HL.upd (HL.upd (HL.upd c 1 w) 6 u6) 7 u7) 0 8 = [v0, w, v2, v3, v4, v5, u6, u7] := by
  have e0 := hr.get 0 (show 0 < 8 by decide)
  have e2 := hr.get 2 (show 2 < 8 by decide)
  have e3 := hr.get 3 (show 3 < 8 by decide)
  have e4 := hr.get 4 (show 4 < 8 by decide)
  have e5 := hr.get 5 (show 5 < 8 by decide)
  apply List.ext_getElem?
  intro i
  by_cases hi : i < 8
  · rw [cellsFrom_get _ _ _ _ hi, Nat.zero_add]
    have : i = 0 ∨ i = 1 ∨ i = 2 ∨ i = 3 ∨ i = 4 ∨ i = 5 ∨ i = 6 ∨ i = 7 := by omega
    rcases this with rfl | rfl | rfl | rfl | rfl | rfl | rfl | rfl
    · exact congrArg some e0
    · rfl
    · exact congrArg some e2
    · exact congrArg some e3
    · exact congrArg some e4
    · exact congrArg some e5
    · rfl
    · rfl
  · rw [List.getElem?_eq_none (by simp; omega), List.getElem?_eq_none (by simp; omega)]
theorem row2' {J : Ent → Prop} {b sz : Nat} {T : TypeId} {c : Nat → Value} {l1 l2 : List Value} (h1 : l1.length = 24) (h2 : l2.length = 24) (hr : Row c 0 (l1 ++ l2)) (hJ : J ⟨b, sz, T, c⟩) (hs : 48 ≤ sz) : RowI J 24 (HL.sl b 0 2 2) [l1, l2] := by
  have hl : ∀ l ∈ [l1, l2], l.length = 24 := by
    intro l hl
    simp only [List.mem_cons, List.not_mem_nil, or_false] at hl
    rcases hl with rfl | rfl
    · exact h1
    · exact h2
  refine ⟨hl, .inr ⟨⟨b, sz, T, c⟩, 0, 2, rfl, Nat.le_refl _, hJ, hl, ?_, ?_⟩⟩
  · show Row c 0 [l1, l2].flatten
    have he : [l1, l2].flatten = l1 ++ l2 := by simp
    rw [he]; exact hr
  · show 0 + 2 * 24 ≤ sz
    omega
theorem row2u {z : Nat → Value} {l1 l2 : List Value} (h1 : l1.length = 24) (h2 : l2.length = 24) : Row (HL.updN (HL.updN z 0 l1) 24 l2) 0 (l1 ++ l2) := by
  refine ⟨fun i hi => ?_⟩
  rw [List.length_append, h1, h2] at hi
  rw [Nat.zero_add]
  simp only [HL.updN, h1, h2, Nat.zero_add, Nat.zero_le, true_and, Nat.sub_zero]
  by_cases hi2 : i < 24
  · rw [if_neg (by omega), if_pos hi2, List.getD_eq_getElem?_getD, List.getD_eq_getElem?_getD, List.getElem?_append_left (by omega)]
  · rw [if_pos (by omega), List.getD_eq_getElem?_getD, List.getD_eq_getElem?_getD, List.getElem?_append_right (by omega), h1]
theorem yAddrsNil {S : St} : CallG Hvaf.prog 228 #[.slice none 0 0] S fun r S' => S = S' ∧ r = .slice none 0 0 := by
  refine CallG.start (C := mkC Hvaf.prog) cok (args := [.slice none 0 0]) Hvaf.func228 rfl Hvaf.ntmps228 (by simp) (by kernel_rfl) ?_
  repeat (first | refine SeqS.go cok ?_ | refine CondS.t rfl ?_)
  exact Fin.same ⟨rfl, rfl⟩
theorem yLogsNil {S : St} : CallG Hvaf.prog 81 #[.slice none 0 0] S fun r S' => S = S' ∧ r = .slice none 0 0 := by
  refine CallG.start (C := mkC Hvaf.prog) cok (args := [.slice none 0 0]) Hvaf.func81 rfl Hvaf.ntmps81 (by simp) (by kernel_rfl) ?_
  repeat (first | refine SeqS.go cok ?_ | refine CondS.t rfl ?_)
  exact Fin.same ⟨rfl, rfl⟩
/-- An account with no slots. -/
structure Ac0 (I : Ent → Prop) (l : List Value) (a : YA) : Prop where
  ok : AdOk a.addr
  sl : a.slots = []
  out : ∃ nv bv cv, l = bvs a.addr ++ [nv, bv, cv, .slice none 0 0] ∧ NatI I nv a.nonce ∧ NatI I bv a.bal ∧ Byt ⟨I, []⟩ cv a.code
theorem Ac0.up {I J : Ent → Prop} {l : List Value} {a : YA} (h : Ac0 I l a) (hs : Sub I J) : Ac0 J l a := by
  obtain ⟨nv, bv, cv, h1, h2, h3, h4⟩ := h.out; exact ⟨h.ok, h.sl, nv, bv, cv, h1, h2.up hs, h3.up hs, h4.mono hs (by simp)⟩
theorem Ac0.acct {I : Ent → Prop} {l : List Value} {a : YA} (h : Ac0 I l a) : AcctC I l a := by
  obtain ⟨nv, bv, cv, h1, h2, h3, h4⟩ := h.out
  exact ⟨h.ok, nv, bv, cv, _, h1, h2, h3, h4, by rw [h.sl]; exact ⟨[], RowI.nil _ _, rfl, by simp⟩⟩
/-- What the walk needs. -/
structure Ac0F (I : Ent → Prop) (l : List Value) (a : YA) (nv bv cv : Value) : Prop where
  len : l.length = 24
  one : ∀ u ∈ l, one u = true
  ad : (l.drop 0).take 20 = bvs a.addr
  c20 : l.getD 20 undef = nv
  c21 : l.getD 21 undef = bv
  c22 : l.getD 22 undef = cv
  c23 : l.getD 23 undef = .slice none 0 0
  n : NatI I nv a.nonce
  b : NatI I bv a.bal
  c : Byt ⟨I, []⟩ cv a.code
theorem Ac0.facts {I : Ent → Prop} {l : List Value} {a : YA} (h : Ac0 I l a) : ∃ nv bv cv, Ac0F I l a nv bv cv := by
  have hA := h.acct
  have hl := hA.len
  have ho := hA.one
  have had := hA.ad
  obtain ⟨nv, bv, cv, rfl, h2, h3, h4⟩ := h.out
  have h20 : (bvs a.addr).length = 20 := h.ok.bv
  refine ⟨nv, bv, cv, hl, ho, had, ?_, ?_, ?_, ?_, h2, h3, h4⟩
  all_goals (rw [List.getD_eq_getElem?_getD, List.getElem?_append_right (by omega), h20]; rfl)
theorem updN_1 (c : Nat → Value) (o : Nat) (v : Value) : HL.updN c o [v] = HL.upd c o v := by
  funext k
  simp only [HL.updN, HL.upd, List.length_singleton]
  by_cases h : k = o
  · subst h; rw [if_pos (by omega), if_pos rfl, Nat.sub_self]; rfl
  · rw [if_neg (by omega), if_neg h]
theorem build_ac4 {a : List Nat} (h : AdOk a) {z : Nat → Value} {a1 a2 a3 : Option Addr} {n1 n2 n3 c1 c2 c3 : Nat} (hz : z 23 = .slice none 0 0) : cellsFrom (fillC z [(0, 20, bytesV a), (20, 1, .slice a1 n1 c1), (21, 1, .slice a2 n2 c2), (22, 1, .slice a3 n3 c3)]) 0 24 = bvs a ++ [.slice a1 n1 c1, .slice a2 n2 c2, .slice a3 n3 c3, .slice none 0 0] := by
  have e : fillC z [(0, 20, bytesV a), (20, 1, .slice a1 n1 c1), (21, 1, .slice a2 n2 c2), (22, 1, .slice a3 n3 c3)] = HL.upd (HL.upd (HL.upd (HL.updN z 0 (bvs a)) 20 (.slice a1 n1 c1)) 21 (.slice a2 n2 c2)) 22 (.slice a3 n3 c3) := by
    show HL.updN (HL.updN (HL.updN (HL.updN z 0 (bvs a)) 20 [.slice a1 n1 c1]) 21 [.slice a2 n2 c2]) 22 [.slice a3 n3 c3] = _
    rw [updN_1, updN_1, updN_1]
  rw [e]
  apply List.ext_getElem?
  intro i
  by_cases hi : i < 24
  · rw [cellsFrom_get _ _ _ _ hi, Nat.zero_add]
    by_cases h20 : i < 20
    · rw [upd_ne (by omega), upd_ne (by omega), upd_ne (by omega)]
      simp only [HL.updN, Nat.zero_add, h.bv, Nat.zero_le, true_and, Nat.sub_zero]
      rw [if_pos h20, List.getElem?_append_left (by rw [h.bv]; exact h20), List.getD_eq_getElem?_getD, List.getElem?_eq_getElem (by rw [h.bv]; exact h20)]; rfl
    · rw [List.getElem?_append_right (by rw [h.bv]; omega), h.bv]
      have : i = 20 ∨ i = 21 ∨ i = 22 ∨ i = 23 := by omega
      rcases this with rfl | rfl | rfl | rfl
      · rfl
      · rfl
      · rfl
      · rw [upd_ne (by omega), upd_ne (by omega), upd_ne (by omega)]
        simp only [HL.updN, Nat.zero_add, h.bv, Nat.zero_le, true_and, Nat.sub_zero]
        rw [if_neg (by omega), hz]; rfl
  · rw [List.getElem?_eq_none (by simp; omega), List.getElem?_eq_none (by simp [h.bv]; omega)]
/-- yp.World.clone of a world with two accounts -/
theorem yClone2 {I : Ent → Prop} {G : List Ent} {sb ssz : Nat} {Ts : TypeId} {cs : Nat → Value} {l1 l2 : List Value} {a1 a2 : YA} {wa : List (List Nat)} {vss : List (List Value)} (hsz : 8 ≤ ssz) (hR : RowI I 24 (cs 0) vss) (hv2 : vss.length = 2) (e1 : vss.getD 0 [] = l1) (e2 : vss.getD 1 [] = l2) (h1 : Ac0 I l1 a1) (h2 : Ac0 I l2 a2) (hw : RowI I 20 (cs 1) (wa.map bvs)) (hwl : wa.length < 2 ^ 20)
    (c2 : cs 2 = .slice none 0 0) (c3 : cs 3 = .slice none 0 0) (c4 : cs 4 = .slice none 0 0) (c5 : cs 5 = .slice none 0 0) (c6 : cs 6 = .slice none 0 0) (c7 : cs 7 = .slice none 0 0) :
    CallG Hvaf.prog 141 #[ptr sb 0] ⟨I, ⟨sb, ssz, Ts, cs⟩ :: G⟩ fun r S' => S'.G = ⟨sb, ssz, Ts, cs⟩ :: G ∧ ∃ av wv m1 m2 nv, r = .agg #[av, wv, .slice none 0 0, nv, .slice none 0 0, .slice none 0 0, .slice none 0 0, .slice none 0 0] ∧ NatI S'.I nv 0 ∧ RowI S'.I 24 av [m1, m2] ∧ Ac0 S'.I m1 a1 ∧ Ac0 S'.I m2 a2 ∧ RowI S'.I 20 wv (wa.map bvs) := by
  obtain ⟨ad, cap, hc0⟩ := hR.form
  rw [hc0] at hR
  rw [hv2] at hc0
  obtain ⟨x, o, rfl, hx, hE⟩ := hR.some (by omega)
  obtain ⟨nv1, bv1, cv1, f1⟩ := h1.facts
  obtain ⟨nv2, bv2, cv2, f2⟩ := h2.facts
  have hrd : ∀ G, Rd ⟨I, G⟩ x := fun _ => .inl hx
  have hN0 := fun (G : List Ent) => yNatOf (G := G) (NatI.zero I)
  have q1 := f1.len
  have q2 := f1.one
  have q3 := f1.c20
  have q4 := f1.c21
  have q5 := f1.c22
  have q6 := f1.c23
  have q7 := f1.ad
  have q8 := h1.ok.bv
  have r8 := h2.ok.bv
  have r1 := f2.len
  have r2 := f2.one
  have r3 := f2.c20
  have r4 := f2.c21
  have r5 := f2.c22
  have r6 := f2.c23
  have r7 := f2.ad
  obtain ⟨wad, wcap, hc1⟩ := hw.form
  rw [hc1] at hw
  refine CallG.start (C := mkC Hvaf.prog) cok (args := [ptr sb 0]) Hvaf.func141 rfl Hvaf.ntmps141 (by simp) (by kernel_rfl) ?_
  intro b2
  repeat (first | (refine QuG.keep ?_; first | refine QuG.l1E cok 1 rfl rfl rfl rfl rfl (by first | exact Nat.le_of_ble_eq_true rfl | omega | (dsimp only; omega) | (simp only [addS_eq, mulS_eq]; omega)) (by assumption) ?_) | refine SeqS.go cok ?_ | refine W.drawI 1 cok [0, 1, 3, 7, 15, 0, 32, 96, 224, 511, 1023, 0, 4095] [0, 1, 2, 3, 5, 6, 7, 8, 4, 9, 10, 11, 12] [3, 8] (by kernel_rfl) (by kernel_rfl) ?_)
  refine callNS (hN0 _) fun na nm nc J1 hs1 hnv => ?_
  have hrd1 : ∀ G, Rd ⟨J1, G⟩ x := fun _ => .inl (hs1 _ hx)
  repeat (first | (refine still_in ?_; first | refine still_nil ?_ | refine still_drop (by decide) ?_ | (refine still_keep (by decide) rfl ?_ ?_; first | exact QuV.l1 cok 1 rfl rfl rfl rfl rfl (by first | exact Nat.le_of_ble_eq_true rfl | omega | (dsimp only; omega) | (simp only [addS_eq, mulS_eq]; omega)) (by assumption))))
  refine yLogsNil.mono ?_
  rintro r _ - ⟨rfl, rfl⟩
  repeat (first | refine And.intro (fillOk_of (Eq.refl true)) ?_ | refine And.intro (Eq.refl true) ?_ | (refine still_in ?_; first | refine still_drop (by decide) ?_))
  intro b3
  repeat (first | (refine QuG.keep ?_; first | refine QuG.l1E cok 2 rfl rfl rfl rfl rfl (by first | exact Nat.le_of_ble_eq_true rfl | omega | (dsimp only; omega) | (simp only [addS_eq, mulS_eq]; omega)) (by assumption) ?_) | refine SeqS.go cok ?_ | refine CondS.t rfl ?_ | refine And.intro (by dsimp only; omega) ?_ | (refine NatS.keep ?_; first | with_reducible refine NatS.nat ?_) | (refine still_in ?_; first | refine still_drop (by decide) ?_) | (refine OpG.keep ?_; first | refine OpG.sL cok 0 rfl rfl rfl rfl rfl rfl rfl (by first | exact Nat.le_of_ble_eq_true rfl | omega | (dsimp only; omega) | (simp only [addS_eq, mulS_eq]; omega)) ?_))
  intro ab
  repeat (first | (refine OpG.keep ?_; first | refine OpG.upF cok 1 rfl rfl rfl rfl rfl rfl (by first | exact Nat.le_of_ble_eq_true rfl | omega) (by first | exact Nat.le_of_ble_eq_true rfl | omega) rfl (by first | rfl | assumption) ?_) | (refine QuG.keep ?_; first | refine QuG.l1E cok 3 rfl rfl rfl rfl rfl (by first | exact Nat.le_of_ble_eq_true rfl | omega | (dsimp only; omega) | (simp only [addS_eq, mulS_eq]; omega)) (by assumption) ?_) | refine SeqS.go cok ?_)
  refine W.rounds cok (by kernel_rfl) 3 ?_
  repeat (first | (refine QuG.keep ?_; first | refine QuG.elE cok _ (by assumption) (by first | assumption | exact ‹∀ G, Rd ⟨_, G⟩ _› _) (by assumption) rfl rfl rfl rfl rfl (by omega) ?_) | refine SeqS.go cok ?_ | refine CondS.t rfl ?_ | refine And.intro (by omega) ?_ | (refine NatS.keep ?_; first | with_reducible refine NatS.lit ?_))
  intro b5
  repeat (first | (refine QuG.keep ?_; first | refine QuG.subL cok 0 rfl rfl rfl rfl rfl rfl (by assumption) (by assumption) (by first | exact Nat.le_of_ble_eq_true rfl | omega) ?_ | refine QuG.upC cok 0 rfl rfl rfl rfl rfl rfl (by first | exact Nat.le_of_ble_eq_true rfl | omega) (by first | exact Nat.le_of_ble_eq_true rfl | omega) (by assumption) ?_) | (refine OpG.keep ?_; first | refine OpG.upS cok 0 rfl rfl rfl rfl rfl (by assumption) (by first | assumption | exact one_bvs _) (by first | exact Nat.le_of_ble_eq_true rfl | omega) ?_) | refine SeqS.go cok ?_ | refine W.drawI 7 cok [0, 1, 0, 4, 12, 0, 32, 124, 0, 256, 1020, 2047, 0, 8191] [0, 1, 2, 3, 5, 6, 8, 9, 4, 7, 10, 11, 12, 13] [1, 3, 6, 9] (by kernel_rfl) (by kernel_rfl) ?_)
  refine callNS (yNatOf (f1.n.up hs1)) fun na1 nm1 nc1 J2 hs2 hnw1 => ?_
  repeat (first | (refine still_in ?_; first | refine still_nil ?_ | refine still_drop (by decide) ?_ | (refine still_keep (by decide) rfl ?_ ?_; first | exact QuV.of (QuG.subL cok 0 rfl rfl rfl rfl rfl rfl (by assumption) (by assumption) (by first | exact Nat.le_of_ble_eq_true rfl | omega) rfl) | exact QuV.of (QuG.upC cok 0 rfl rfl rfl rfl rfl rfl (by first | exact Nat.le_of_ble_eq_true rfl | omega) (by first | exact Nat.le_of_ble_eq_true rfl | omega) (by assumption) rfl))))
  refine callNS (yNatOf (f1.b.up (hs1.trans hs2))) fun ba1 bm1 bc1 J3 hs3 hbw1 => ?_
  repeat (first | (refine still_in ?_; first | refine still_nil ?_ | refine still_drop (by decide) ?_ | (refine still_keep (by decide) rfl ?_ ?_; first | exact QuV.of (QuG.subL cok 0 rfl rfl rfl rfl rfl rfl (by assumption) (by assumption) (by first | exact Nat.le_of_ble_eq_true rfl | omega) rfl) | exact QuV.of (QuG.upC cok 0 rfl rfl rfl rfl rfl rfl (by first | exact Nat.le_of_ble_eq_true rfl | omega) (by first | exact Nat.le_of_ble_eq_true rfl | omega) (by assumption) rfl))))
  refine callBS (yBytesOf (Byt.ext (f1.c.mono ((hs1.trans hs2).trans hs3) (by simp)))) fun ca1 cc1 J4 hs4 hcw1 => ?_
  have hA1 := build_ac4 h1.ok (z := z121) (a1 := na1) (n1 := nm1) (c1 := nc1) (a2 := ba1) (n2 := bm1) (c2 := bc1) (a3 := ca1) (n3 := a1.code.length) (c3 := cc1) rfl
  have hm1 : Ac0 J4 (bvs a1.addr ++ [.slice na1 nm1 nc1, .slice ba1 bm1 bc1, .slice ca1 a1.code.length cc1, .slice none 0 0]) a1 := ⟨h1.ok, h1.sl, _, _, _, rfl, (hnw1.up hs3).up hs4, hbw1.up hs4, hcw1⟩
  have m1l := hm1.acct.len
  have m1o := hm1.acct.one
  have hsI4 : HL.Sub I J4 := ((hs1.trans hs2).trans hs3).trans hs4
  have hrd4 : ∀ G, Rd ⟨J4, G⟩ x := fun _ => .inl (hsI4 _ hx)
  repeat (first | refine And.intro ⟨⟨by assumption, Nat.le_of_ble_eq_true rfl⟩, fillOk_of (Eq.refl true)⟩ ?_ | refine And.intro (Eq.refl true) ?_ | (refine still_in ?_; first | refine still_drop (by decide) ?_ | (refine still_keep (by decide) rfl ?_ ?_; first | exact QuV.of (QuG.subL cok 0 rfl rfl rfl rfl rfl rfl (by assumption) (by assumption) (by first | exact Nat.le_of_ble_eq_true rfl | omega) rfl))))
  intro b6
  skip
  refine OpG.keep ?_
  refine OpG.upS cok 0 (vs := bvs a1.addr ++ [.slice na1 nm1 nc1, .slice ba1 bm1 bc1, .slice ca1 a1.code.length cc1, .slice none 0 0]) rfl rfl rfl rfl ?_ m1l m1o (Nat.le_of_ble_eq_true rfl) ?_
  · exact congrArg (fun l => Value.agg l.toArray) hA1
  repeat (first | (refine QuG.keep ?_; first | refine QuG.upC cok 1 rfl rfl rfl rfl rfl rfl (by first | exact Nat.le_of_ble_eq_true rfl | omega) (by first | exact Nat.le_of_ble_eq_true rfl | omega) (by assumption) ?_) | refine SeqS.go cok ?_ | refine CondS.f rfl ?_ | (refine still_in ?_; first | refine still_drop (by decide) ?_))
  refine W.rounds cok (by kernel_rfl) 1 ?_
  repeat (first | (refine QuG.keep ?_; first | refine QuG.elE cok _ (by assumption) (by first | assumption | exact ‹∀ G, Rd ⟨_, G⟩ _› _) (by assumption) rfl rfl rfl rfl rfl (by omega) ?_ | refine QuG.upL cok 0 rfl rfl rfl rfl rfl rfl (by assumption) (by first | exact Nat.le_of_ble_eq_true rfl | omega) ?_) | (refine OpG.keep ?_; first | refine OpG.upS cok 2 rfl rfl rfl rfl rfl (by assumption) (by first | assumption | exact one_bvs _) (by first | exact Nat.le_of_ble_eq_true rfl | omega) ?_) | refine SeqS.go cok ?_ | refine CondS.t rfl ?_ | refine CondS.f rfl ?_ | refine And.intro (by omega) ?_ | (refine NatS.keep ?_; first | with_reducible refine NatS.lit ?_ | with_reducible refine NatS.nat ?_) | (refine ValS.keep ?_; first | (with_reducible refine ValS.kI64 ?_; first | (with_reducible refine ValS.addI64_LL ?_ ?_ ; omega))) | (refine QuG.keep ?_; first | refine QuG.l1 cok 3 rfl rfl rfl rfl rfl (by first | exact Nat.le_of_ble_eq_true rfl | omega | (dsimp only; omega) | (simp only [addS_eq, mulS_eq]; omega)) ?_))
  intro b5'
  repeat (first | (refine QuG.keep ?_; first | refine QuG.subL cok 0 rfl rfl rfl rfl rfl rfl (by assumption) (by assumption) (by first | exact Nat.le_of_ble_eq_true rfl | omega) ?_ | refine QuG.upC cok 0 rfl rfl rfl rfl rfl rfl (by first | exact Nat.le_of_ble_eq_true rfl | omega) (by first | exact Nat.le_of_ble_eq_true rfl | omega) (by assumption) ?_) | (refine OpG.keep ?_; first | refine OpG.upS cok 0 rfl rfl rfl rfl rfl (by assumption) (by first | assumption | exact one_bvs _) (by first | exact Nat.le_of_ble_eq_true rfl | omega) ?_) | refine SeqS.go cok ?_ | refine W.drawI 7 cok [0, 1, 0, 4, 12, 0, 32, 124, 0, 256, 1020, 2047, 0, 8191] [0, 1, 2, 3, 5, 6, 8, 9, 4, 7, 10, 11, 12, 13] [1, 3, 6, 9] (by kernel_rfl) (by kernel_rfl) ?_)
  refine CallG.drop12 ?_
  refine callNS (yNatOf (f2.n.up hsI4)) fun na2 nm2 nc2 J5 hs5 hnw2 => ?_
  repeat (first | (refine still_in ?_; first | refine still_nil ?_ | refine still_drop (by decide) ?_ | (refine still_keep (by decide) rfl ?_ ?_; first | exact QuV.of (QuG.subL cok 0 rfl rfl rfl rfl rfl rfl (by assumption) (by assumption) (by first | exact Nat.le_of_ble_eq_true rfl | omega) rfl) | exact QuV.of (QuG.upC cok 0 rfl rfl rfl rfl rfl rfl (by first | exact Nat.le_of_ble_eq_true rfl | omega) (by first | exact Nat.le_of_ble_eq_true rfl | omega) (by assumption) rfl))))
  refine callNS (yNatOf (f2.b.up (hsI4.trans hs5))) fun ba2 bm2 bc2 J6 hs6 hbw2 => ?_
  repeat (first | (refine still_in ?_; first | refine still_nil ?_ | refine still_drop (by decide) ?_ | (refine still_keep (by decide) rfl ?_ ?_; first | exact QuV.of (QuG.subL cok 0 rfl rfl rfl rfl rfl rfl (by assumption) (by assumption) (by first | exact Nat.le_of_ble_eq_true rfl | omega) rfl) | exact QuV.of (QuG.upC cok 0 rfl rfl rfl rfl rfl rfl (by first | exact Nat.le_of_ble_eq_true rfl | omega) (by first | exact Nat.le_of_ble_eq_true rfl | omega) (by assumption) rfl))))
  refine callBS (yBytesOf (Byt.ext (f2.c.mono ((hsI4.trans hs5).trans hs6) (by simp)))) fun ca2 cc2 J7 hs7 hcw2 => ?_
  have hA2 := build_ac4 h2.ok (z := z121) (a1 := na2) (n1 := nm2) (c1 := nc2) (a2 := ba2) (n2 := bm2) (c2 := bc2) (a3 := ca2) (n3 := a2.code.length) (c3 := cc2) rfl
  have hm2 : Ac0 J7 (bvs a2.addr ++ [.slice na2 nm2 nc2, .slice ba2 bm2 bc2, .slice ca2 a2.code.length cc2, .slice none 0 0]) a2 := ⟨h2.ok, h2.sl, _, _, _, rfl, (hnw2.up hs6).up hs7, hbw2.up hs7, hcw2⟩
  have m2l := hm2.acct.len
  have m2o := hm2.acct.one
  have hsI7 : HL.Sub I J7 := ((hsI4.trans hs5).trans hs6).trans hs7
  have hm1' := hm1.up ((hs5.trans hs6).trans hs7)
  repeat (first | refine And.intro ⟨⟨by assumption, Nat.le_of_ble_eq_true rfl⟩, fillOk_of (Eq.refl true)⟩ ?_ | refine And.intro (Eq.refl true) ?_ | (refine still_in ?_; first | refine still_drop (by decide) ?_ | (refine still_keep (by decide) rfl ?_ ?_; first | exact QuV.of (QuG.subL cok 0 rfl rfl rfl rfl rfl rfl (by assumption) (by assumption) (by first | exact Nat.le_of_ble_eq_true rfl | omega) rfl))))
  intro b6'
  skip
  refine OpG.keep ?_
  refine OpG.upS cok 0 (vs := bvs a2.addr ++ [.slice na2 nm2 nc2, .slice ba2 bm2 bc2, .slice ca2 a2.code.length cc2, .slice none 0 0]) rfl rfl rfl rfl ?_ m2l m2o (Nat.le_of_ble_eq_true rfl) ?_
  · exact congrArg (fun l => Value.agg l.toArray) hA2
  repeat (first | (refine QuG.keep ?_; first | refine QuG.upC cok 1 rfl rfl rfl rfl rfl rfl (by first | exact Nat.le_of_ble_eq_true rfl | omega) (by first | exact Nat.le_of_ble_eq_true rfl | omega) (by assumption) ?_) | refine SeqS.go cok ?_ | refine CondS.f rfl ?_ | (refine still_in ?_; first | refine still_drop (by decide) ?_))
  refine W.rounds cok (by kernel_rfl) 1 ?_
  repeat (first | (refine QuG.keep ?_; first | refine QuG.upL cok 0 rfl rfl rfl rfl rfl rfl (by assumption) (by first | exact Nat.le_of_ble_eq_true rfl | omega) ?_) | (refine OpG.keep ?_; first | refine OpG.upS cok 2 rfl rfl rfl rfl rfl (by assumption) (by first | assumption | exact one_bvs _) (by first | exact Nat.le_of_ble_eq_true rfl | omega) ?_) | (refine QuG.keep ?_; refine QuG.l1E cok 5 rfl rfl rfl rfl rfl (by first | exact Nat.le_of_ble_eq_true rfl | omega) (by assumption) ?_) | refine SeqS.go cok ?_ | refine CondS.f rfl ?_ | refine And.intro (by omega) ?_ | (refine NatS.keep ?_; first | with_reducible refine NatS.nat ?_) | (refine ValS.keep ?_; first | (with_reducible refine ValS.kI64 ?_; first | (with_reducible refine ValS.addI64_L ?_ ?_ ; omega))) | (refine QuG.keep ?_; first | refine QuG.l1 cok 3 rfl rfl rfl rfl rfl (by first | exact Nat.le_of_ble_eq_true rfl | omega | (dsimp only; omega) | (simp only [addS_eq, mulS_eq]; omega)) ?_))
  refine CallG.drop2 ?_
  refine CallG.abs2 _ [HL.sl ab 0 2 2, .slice none 0 0, .slice none 0 0, .slice na nm nc, .slice none 0 0, .slice none 0 0, .slice none 0 0, .slice none 0 0] (row2u m1l m2l) (Row.ofCells (n := 8) rfl) fun cA cB hcA hcB => ?_
  refine callRS (yAddrsOf (hw.up hsI7) (fun l hl u hu => by
    obtain ⟨y, _, rfl⟩ := List.mem_map.1 hl
    exact one_bvs _ u hu) (by simpa using hwl)) fun va vc J8 hs8 hva => ?_
  have hm1'' := hm1'.up hs8
  have hm2'' := hm2.up hs8
  repeat (first | (refine QuG.keep ?_; first | refine QuG.l1E cok 3 rfl rfl rfl rfl rfl (by first | exact Nat.le_of_ble_eq_true rfl | omega | (dsimp only; omega) | (simp only [addS_eq, mulS_eq]; omega)) (by assumption) ?_) | refine SeqS.go cok ?_ | (refine OpG.keep ?_; first | refine OpG.s1 cok 1 rfl rfl rfl rfl rfl (by first | exact Nat.le_of_ble_eq_true rfl | omega | (dsimp only; omega) | (simp only [addS_eq, mulS_eq]; omega)) rfl rfl ?_))
  refine yAddrsNil.mono ?_
  rintro r _ - ⟨rfl, rfl⟩
  repeat (first | (refine QuG.keep ?_; first | refine QuG.l1E cok 3 rfl rfl rfl rfl rfl (by first | exact Nat.le_of_ble_eq_true rfl | omega | (dsimp only; omega) | (simp only [addS_eq, mulS_eq]; omega)) (by assumption) ?_) | refine SeqS.go cok ?_ | (refine OpG.keep ?_; first | refine OpG.s1 cok 1 rfl rfl rfl rfl rfl (by first | exact Nat.le_of_ble_eq_true rfl | omega | (dsimp only; omega) | (simp only [addS_eq, mulS_eq]; omega)) rfl rfl ?_))
  refine yAddrsNil.mono ?_
  rintro r _ - ⟨rfl, rfl⟩
  repeat (first | (refine QuG.keep ?_; first | refine QuG.l1E cok 3 rfl rfl rfl rfl rfl (by first | exact Nat.le_of_ble_eq_true rfl | omega | (dsimp only; omega) | (simp only [addS_eq, mulS_eq]; omega)) (by assumption) ?_) | refine SeqS.go cok ?_ | refine CondS.f rfl ?_ | (refine OpG.keep ?_; first | refine OpG.s1 cok 1 rfl rfl rfl rfl rfl (by first | exact Nat.le_of_ble_eq_true rfl | omega | (dsimp only; omega) | (simp only [addS_eq, mulS_eq]; omega)) rfl rfl ?_))
  refine W.rounds cok (by kernel_rfl) 1 ?_
  repeat (first | (refine QuG.keep ?_; first | refine QuG.l1E cok 3 rfl rfl rfl rfl rfl (by first | exact Nat.le_of_ble_eq_true rfl | omega | (dsimp only; omega) | (simp only [addS_eq, mulS_eq]; omega)) (by assumption) ?_) | refine SeqS.go cok ?_ | refine CondS.f rfl ?_)
  refine W.rounds cok (by kernel_rfl) 1 ?_
  repeat (first | refine SeqS.go cok ?_ | refine CondS.f rfl ?_ | (refine QuG.keep ?_; first | refine QuG.lN cok 1 rfl rfl rfl rfl rfl (by first | exact Nat.le_of_ble_eq_true rfl | omega | (dsimp only; omega) | (simp only [addS_eq, mulS_eq]; omega)) ?_))
  refine OpG.keep ?_
  refine OpG.upS cok 2 (vs := [HL.sl ab 0 2 2, .slice va (wa.map bvs).length vc, .slice none 0 0, .slice na nm nc, .slice none 0 0, .slice none 0 0, .slice none 0 0, .slice none 0 0]) rfl rfl rfl rfl ?_ rfl ?_ (Nat.le_of_ble_eq_true rfl) ?_
  · exact congrArg (fun l => Value.agg l.toArray) (clone_cells hcB)
  · intro u hu
    simp only [List.mem_cons, List.not_mem_nil, or_false] at hu
    rcases hu with rfl | rfl | rfl | rfl | rfl | rfl | rfl | rfl <;> rfl
  repeat (first | refine SeqS.go cok ?_ | (refine LdG.keep ?_; first | refine LdG.lN cok 2 rfl rfl rfl rfl rfl (by first | exact Nat.le_of_ble_eq_true rfl | omega | (dsimp only; omega) | (simp only [addS_eq, mulS_eq]; omega)) ?_))
  refine Fin.frz1 ⟨rfl, _, _, _, _, _, rfl, ?_, row2' m1l m2l hcA (.inr List.mem_cons_self) (Nat.le_of_ble_eq_true rfl), hm1''.up sub_frz, hm2''.up sub_frz, hva.up sub_frz⟩
  exact hnv.up ((((((((hs2.trans hs3).trans hs4).trans hs5).trans hs6).trans hs7).trans hs8)).trans sub_frz)
end Go.Proofs.YgvafwGreat
