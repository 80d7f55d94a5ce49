import Derived.Test.YgvafwGreatL3
set_option maxRecDepth 100000
set_option maxHeartbeats 4000000
set_option linter.unusedVariables false
set_option linter.unusedSimpArgs false
-- v2
-- v4
-- v5
-- v6
-- v7
namespace Go.Proofs.YgvafwGreat
open Go.HL Go.Proofs

theorem Byt.ext {I : Ent → Prop} {G : List Ent} {v : Value} {ds : List Nat} (h : Byt ⟨I, []⟩ v ds) : Byt ⟨I, G⟩ v ds := h.mono (.refl _) (by simp)
/-- An account of a world. -/
structure OA where
  ad : List Nat
  nn : Nat
  bal : List Nat
  code : List Nat
  sl : List (List Nat × List Nat)
abbrev dOA : OA := ⟨[], 0, [], [], []⟩
structure OAC (I : Ent → Prop) (l : List Value) (a : OA) : Prop where
  ok : AdOk a.ad
  b32 : a.bal.length = 32
  b8 : ∀ d ∈ a.bal, d < 256
  sk : ∀ p ∈ a.sl, p.1.length = 32 ∧ p.2.length = 32 ∧ (∀ d ∈ p.1, d < 256) ∧ (∀ d ∈ p.2, d < 256)
  sn : a.sl.length < 2 ^ 30
  out : ∃ cv sv, l = bvs a.ad ++ (.int .u64 (a.nn : Nat) :: (bvs a.bal ++ [cv, sv])) ∧ Byt ⟨I, []⟩ cv a.code ∧ RowI I 64 sv (a.sl.map fun p => bvs p.1 ++ bvs p.2)
/-- A world that was given. -/
structure OWI (I : Ent → Prop) (v : Value) (wl : List OA) : Prop where
  out : ∃ vss, RowI I 55 v vss ∧ L2 (OAC I) dOA vss wl
theorem OAC.up {I J : Ent → Prop} {l : List Value} {a : OA} (h : OAC I l a) (hs : Sub I J) : OAC J l a := by
  obtain ⟨cv, sv, h1, h2, h3⟩ := h.out
  exact ⟨h.ok, h.b32, h.b8, h.sk, h.sn, cv, sv, h1, h2.mono hs (by simp), h3.up hs⟩
theorem OWI.up {I J : Ent → Prop} {v : Value} {wl : List OA} (h : OWI I v wl) (hs : Sub I J) : OWI J v wl := by
  obtain ⟨vss, a, b⟩ := h.out; exact ⟨vss, a.up hs, b.mono fun _ _ h => h.up hs⟩
/-- What the walk needs of an account's cells. -/
structure OAF (I : Ent → Prop) (l : List Value) (a : OA) (ca : Option Addr) (cn : Nat) (sa : Option Addr) (sn : Nat) : Prop where
  len : l.length = 55
  one : ∀ u ∈ l, one u = true
  ad : (l.drop 0).take 20 = bvs a.ad
  bal : (l.drop 21).take 32 = bvs a.bal
  c20 : l.getD 20 undef = .int .u64 (a.nn : Nat)
  c53 : l.getD 53 undef = .slice ca a.code.length cn
  c54 : l.getD 54 undef = .slice sa a.sl.length sn
  cb : Byt ⟨I, []⟩ (.slice ca a.code.length cn) a.code
  sr : RowI I 64 (.slice sa a.sl.length sn) (a.sl.map fun p => bvs p.1 ++ bvs p.2)
theorem OAC.facts {I : Ent → Prop} {l : List Value} {a : OA} (h : OAC I l a) : ∃ ca cn sa sn, OAF I l a ca cn sa sn := by
  obtain ⟨cv, sv, rfl, h2, h3⟩ := h.out
  obtain ⟨ca, cn, rfl, -⟩ := h2.form
  obtain ⟨sa, sn, e⟩ := h3.form
  rw [List.length_map] at e
  subst e
  have h20 : (bvs a.ad).length = 20 := by rw [bvs_len]; exact h.ok.len
  have h32 : (bvs a.bal).length = 32 := by rw [bvs_len]; exact h.b32
  refine ⟨ca, cn, sa, sn, ?_, ?_, ?_, ?_, ?_, ?_, ?_, h2, h3⟩
  · simp [h20, h32]
  · intro u hu
    simp only [List.mem_append, List.mem_cons, List.not_mem_nil, or_false] at hu
    rcases hu with hu | rfl | hu | rfl | rfl
    · exact one_bvs _ u hu
    · rfl
    · exact one_bvs _ u hu
    · rfl
    · rfl
  · rw [List.drop_zero, List.take_append_of_le_length (by omega), List.take_of_length_le (by omega)]
  · rw [List.drop_append, List.drop_of_length_le (by omega), h20]
    show (bvs a.bal ++ _).take 32 = _
    rw [List.take_append_of_le_length (by omega), List.take_of_length_le (by omega)]
  · rw [List.getD_eq_getElem?_getD, List.getElem?_append_right (by omega), h20]; rfl
  · rw [List.getD_eq_getElem?_getD, List.getElem?_append_right (by omega), h20]
    show ((bvs a.bal ++ _)[32]?).getD undef = _
    rw [List.getElem?_append_right (by omega), h32]; rfl
  · rw [List.getD_eq_getElem?_getD, List.getElem?_append_right (by omega), h20]
    show ((bvs a.bal ++ _)[33]?).getD undef = _
    rw [List.getElem?_append_right (by omega), h32]; rfl
/-- Bytes within a block of one's own. -/
theorem sub_b {S : St} {b sz p n : Nat} {T : TypeId} {z : Nat → Value} {l : List Value} {ds : List Nat} (hx : (⟨b, sz, T, HL.updN z 0 l⟩ : Ent) ∈ S.G) (hs : (l.drop p).take n = bvs ds) (hn : ds.length = n) (h8 : ∀ d ∈ ds, d < 256) (h40 : n < 2 ^ 40) (hsz : p + n ≤ sz) : Byt S (HL.sl b p n n) ds := by
  subst hn
  refine ⟨h8, by omega, _, _, rfl, Nat.le_refl _, by omega, .inr ⟨⟨b, sz, T, HL.updN z 0 l⟩, p, rfl, .inr hx, hsz, fun i hi => ?_⟩⟩
  have hg : (bvs ds).getD i undef = l.getD (p + i) undef := by
    rw [← hs, List.getD_eq_getElem?_getD, List.getElem?_take, if_pos hi, List.getElem?_drop, ← List.getD_eq_getElem?_getD]
  have hpl : p + i < l.length := by
    have := congrArg List.length hs
    rw [List.length_take, List.length_drop, bvs_len] at this
    omega
  rw [bvs_getD _ _ hi] at hg
  show HL.updN z 0 l (p + i) = _
  rw [hg]
  simp only [HL.updN, Nat.zero_add, Nat.zero_le, true_and, Nat.sub_zero]
  rw [if_pos hpl]
/-- law.worldsMeet -/
theorem lWorldsMeet {I : Ent → Prop} {G : List Ent} {v u : Value} {wl : List OA} (h : OWI I v wl) (h' : OWI I u wl) (hn : wl.length < 2 ^ 30) :
    CallG Hvaf.prog 28 #[v, u] ⟨I, G⟩ fun r S' => ⟨I, G⟩ = S' ∧ r = .bool true := by
  obtain ⟨vss, hR, hvl, hel⟩ := h.out
  obtain ⟨vss', hR', hvl', hel'⟩ := h'.out
  obtain ⟨a1, cap, rfl⟩ := hR.form
  obtain ⟨a2, cap2, rfl⟩ := hR'.form
  have hvv : vss'.length = vss.length := by omega
  refine CallG.start (C := mkC Hvaf.prog) cok (args := [.slice a1 vss.length cap, .slice a2 vss'.length cap2]) Hvaf.func28 rfl Hvaf.ntmps28 (by simp) (by kernel_rfl) ?_
  repeat (first | refine SeqS.go cok ?_ | (refine CondS.keep ?_; first | refine CondS.nd0 rfl (by omega) ?_))
  refine W.loopG cok (by kernel_rfl) 0 (fun (i : Nat) e' => i ≤ wl.length ∧ slots [(0, .slice a1 vss.length cap), (1, .slice a2 vss'.length cap2), (16, .slice a1 vss.length cap), (17, .int .i64 (vss.length : Nat)), (18, .int .i64 (i : Nat))] e') (fun i => wl.length - i) 0
    ⟨Nat.zero_le _, rfl, rfl, rfl, rfl, rfl, trivial⟩ (fun e' => True) ?_ ?_
  · rintro e' -
    repeat (first | refine SeqS.go cok ?_)
    exact Fin.same ⟨rfl, rfl⟩
  · rintro i e' ⟨hi, hsl⟩
    refine W.slots _ hsl fun e => ?_
    by_cases hlt : i < wl.length
    · obtain ⟨x, o, rfl, hx, hE⟩ := hR.some (by omega)
      obtain ⟨x', o', rfl, hx', hE'⟩ := hR'.some (by omega)
      have hac := hel i hlt
      have hac' := hel' i hlt
      obtain ⟨l, hl⟩ : ∃ l, vss.getD i [] = l := ⟨_, rfl⟩
      obtain ⟨l', hl'⟩ : ∃ l', vss'.getD i [] = l' := ⟨_, rfl⟩
      rw [hl] at hac
      rw [hl'] at hac'
      generalize wl.getD i dOA = A at hac hac'
      obtain ⟨ca, cn, sa, sn, hF⟩ := hac.facts
      obtain ⟨ca', cn', sa', sn', hF'⟩ := hac'.facts
      have hrd : ∀ G, Rd ⟨I, G⟩ x := fun _ => .inl hx
      have hrd' : ∀ G, Rd ⟨I, G⟩ x' := fun _ => .inl hx'
      have q1 := hF.len
      have q2 := hF.one
      have q3 := hF.c20
      have q4 := hF.c53
      have q5 := hF.c54
      have q1' := hF'.len
      have q2' := hF'.one
      have q3' := hF'.c20
      have q4' := hF'.c53
      have q5' := hF'.c54
      have hsn := hac.sn
      have had := hac.ok.len
      have hab := hac.b32
      repeat (first | (refine QuG.keep ?_; first | refine QuG.elE cok _ (by assumption) (by first | assumption | exact ‹∀ G, Rd ⟨_, G⟩ _› _) (by assumption) rfl rfl rfl rfl rfl (by omega) ?_) | refine SeqS.go cok ?_ | refine And.intro (by omega) ?_ | (refine NatS.keep ?_; first | with_reducible refine NatS.nat ?_) | (refine CondS.keep ?_; first | refine CondS.d1 rfl (by omega) ?_))
      intro b6
      repeat (first | (refine QuG.keep ?_; first | refine QuG.elE cok _ (by assumption) (by first | assumption | exact ‹∀ G, Rd ⟨_, G⟩ _› _) (by assumption) rfl rfl rfl rfl rfl (by omega) ?_) | (refine OpG.keep ?_; first | refine OpG.upS cok 0 rfl rfl rfl rfl rfl (by assumption) (by first | assumption | exact one_bvs _) (by first | exact Nat.le_of_ble_eq_true rfl | omega) ?_) | refine SeqS.go cok ?_ | refine And.intro (by omega) ?_ | (refine NatS.keep ?_; first | with_reducible refine NatS.nat ?_))
      intro b7
      repeat (first | (refine OpG.keep ?_; first | refine OpG.upS cok 0 rfl rfl rfl rfl rfl (by assumption) (by first | assumption | exact one_bvs _) (by first | exact Nat.le_of_ble_eq_true rfl | omega) ?_) | refine SeqS.go cok ?_ | refine And.intro (Eq.refl true) ?_ | (refine ValS.keep ?_; first | with_reducible refine ValS.sl0 ?_) | refine W.drawI 7 cok [0, 1, 0, 4, 15, 31, 63, 127, 255, 127, 639, 2047, 4095, 8191, 16383, 32767, 16383, 81919, 262143, 524287, 1048575] [0, 1, 2, 3, 4, 5, 6, 7, 8, 9, 10, 11, 12, 13, 14, 15, 16, 17, 18, 19, 20] [8, 10] (by kernel_rfl) (by kernel_rfl) ?_)
      refine (lEq (a := A.ad) (b := A.ad) (sub_b (List.mem_cons_of_mem _ List.mem_cons_self) hF.ad had hac.ok.b8 (by decide) (Nat.le_of_ble_eq_true rfl)) (sub_b List.mem_cons_self hF'.ad had hac.ok.b8 (by decide) (Nat.le_of_ble_eq_true rfl))).mono ?_
      rintro r _ - ⟨rfl, hr⟩
      cases hr.trans (congrArg Value.bool (decide_eq_true rfl))
      repeat (first | (refine QuG.keep ?_; first | refine QuG.upC cok 0 rfl rfl rfl rfl rfl rfl (by first | exact Nat.le_of_ble_eq_true rfl | omega) (by first | exact Nat.le_of_ble_eq_true rfl | omega) (by assumption) ?_ | refine QuG.upC cok 1 rfl rfl rfl rfl rfl rfl (by first | exact Nat.le_of_ble_eq_true rfl | omega) (by first | exact Nat.le_of_ble_eq_true rfl | omega) (by assumption) ?_) | refine GuardS.yes rfl ?_ | refine And.intro (Eq.refl true) ?_ | (refine ValS.keep ?_; first | with_reducible refine ValS.sl0 ?_) | (refine GuardS.keep ?_; first | refine GuardS.Fn0 rfl (by omega) ?_))
      refine (lEq (a := A.bal) (b := A.bal) (sub_b (List.mem_cons_of_mem _ List.mem_cons_self) hF.bal hab hac.b8 (by decide) (Nat.le_of_ble_eq_true rfl)) (sub_b List.mem_cons_self hF'.bal hab hac.b8 (by decide) (Nat.le_of_ble_eq_true rfl))).mono ?_
      rintro r _ - ⟨rfl, hr⟩
      cases hr.trans (congrArg Value.bool (decide_eq_true rfl))
      repeat (first | (refine QuG.keep ?_; first | refine QuG.upC cok 0 rfl rfl rfl rfl rfl rfl (by first | exact Nat.le_of_ble_eq_true rfl | omega) (by first | exact Nat.le_of_ble_eq_true rfl | omega) (by assumption) ?_ | refine QuG.upC cok 1 rfl rfl rfl rfl rfl rfl (by first | exact Nat.le_of_ble_eq_true rfl | omega) (by first | exact Nat.le_of_ble_eq_true rfl | omega) (by assumption) ?_) | refine SeqS.go cok ?_ | refine GuardS.yes rfl ?_ | refine CondS.f rfl ?_ | (refine still_in ?_; first | refine still_drop (by decide) ?_))
      refine (lEq (a := A.code) (b := A.code) (Byt.ext hF.cb) (Byt.ext hF'.cb)).mono ?_
      rintro r _ - ⟨rfl, hr⟩
      cases hr.trans (congrArg Value.bool (decide_eq_true rfl))
      repeat (first | (refine QuG.keep ?_; first | refine QuG.upC cok 0 rfl rfl rfl rfl rfl rfl (by first | exact Nat.le_of_ble_eq_true rfl | omega) (by first | exact Nat.le_of_ble_eq_true rfl | omega) (by assumption) ?_ | refine QuG.upC cok 1 rfl rfl rfl rfl rfl rfl (by first | exact Nat.le_of_ble_eq_true rfl | omega) (by first | exact Nat.le_of_ble_eq_true rfl | omega) (by assumption) ?_) | refine SeqS.go cok ?_ | refine GuardS.yes rfl ?_ | (refine CondS.keep ?_; first | refine CondS.nd0 rfl (by omega) ?_))
      refine W.loopG cok (by kernel_rfl) 2 (fun (j : Nat) e' => j ≤ A.sl.length ∧ slots [(0, HL.sl x.b o vss.length cap), (1, HL.sl x'.b o' vss'.length cap2), (16, HL.sl x.b o vss.length cap), (17, .int .i64 (vss.length : Nat)), (18, .int .i64 (i : Nat)), (6, ptr b6 0), (7, ptr b7 0), (64, .slice sa A.sl.length sn), (65, .int .i64 (A.sl.length : Nat)), (66, .int .i64 (j : Nat))] e') (fun j => A.sl.length - j) 0
        ⟨Nat.zero_le _, rfl, rfl, rfl, rfl, rfl, rfl, rfl, rfl, rfl, rfl, trivial⟩ (fun e' => slots [(0, HL.sl x.b o vss.length cap), (1, HL.sl x'.b o' vss'.length cap2), (16, HL.sl x.b o vss.length cap), (17, .int .i64 (vss.length : Nat)), (18, .int .i64 (i : Nat))] e') ?_ ?_
      · rintro e' hsl
        refine SeqS.slots cok _ hsl fun e => ?_
        repeat (first | (refine ValS.keep ?_; first | (with_reducible refine ValS.kI64 ?_; first | (with_reducible refine ValS.addI64_L ?_ ?_ ; omega))))
        exact ⟨i + 1, Rel.drop _ [_, _] ⟨rfl, hlt, rfl, rfl, rfl, rfl, rfl, trivial⟩, by show wl.length - (i + 1) < wl.length - i; omega⟩
      · rintro j e' ⟨hj, hsl⟩
        refine W.slots _ hsl fun e => ?_
        by_cases hjt : j < A.sl.length
        · have hml : (A.sl.map fun p => bvs p.1 ++ bvs p.2).length = A.sl.length := by simp
          obtain ⟨y, q, rfl, hy, hEy⟩ := hF.sr.some (by omega)
          obtain ⟨y', q', rfl, hy', hEy'⟩ := hF'.sr.some (by omega)
          have hrdy : ∀ G, Rd ⟨I, G⟩ y := fun _ => .inl hy
          have hrdy' : ∀ G, Rd ⟨I, G⟩ y' := fun _ => .inl hy'
          obtain ⟨P, hP⟩ : ∃ P, A.sl.getD j ([], []) = P := ⟨_, rfl⟩
          have hpe : (A.sl.map fun p => bvs p.1 ++ bvs p.2).getD j [] = bvs P.1 ++ bvs P.2 := by
            rw [← hP]; simp [List.getD_eq_getElem?_getD, List.getElem?_eq_getElem hjt]
          have hPm : P ∈ A.sl := by rw [← hP, List.getD_eq_getElem?_getD, List.getElem?_eq_getElem hjt]; exact List.getElem_mem hjt
          obtain ⟨k1, k2, k3, k4⟩ := hac.sk P hPm
          obtain ⟨m, hm⟩ : ∃ m, bvs P.1 ++ bvs P.2 = m := ⟨_, rfl⟩
          have m1 : m.length = 64 := by rw [← hm]; simp [k1, k2]
          have m2 : ∀ u ∈ m, one u = true := by
            rw [← hm]; intro u hu
            rcases List.mem_append.1 hu with hu | hu <;> exact one_bvs _ u hu
          have m3 : (m.drop 0).take 32 = bvs P.1 := by rw [← hm, List.drop_zero, List.take_append_of_le_length (by rw [bvs_len]; omega), List.take_of_length_le (by rw [bvs_len]; omega)]
          have m4 : (m.drop 32).take 32 = bvs P.2 := by rw [← hm, List.drop_append, List.drop_of_length_le (by rw [bvs_len]; omega), bvs_len, k1]; simp [List.take_of_length_le, k2]
          rw [hm] at hpe
          repeat (first | (refine QuG.keep ?_; first | refine QuG.elE cok _ (by assumption) (by first | assumption | exact ‹∀ G, Rd ⟨_, G⟩ _› _) (by assumption) rfl rfl rfl rfl rfl (by omega) ?_) | refine SeqS.go cok ?_ | refine And.intro (by omega) ?_ | (refine NatS.keep ?_; first | with_reducible refine NatS.nat ?_) | (refine CondS.keep ?_; first | refine CondS.d1 rfl (by omega) ?_))
          intro b9
          repeat (first | (refine QuG.keep ?_; first | refine QuG.elE cok _ (by assumption) (by first | assumption | exact ‹∀ G, Rd ⟨_, G⟩ _› _) (by assumption) rfl rfl rfl rfl rfl (by omega) ?_ | refine QuG.upC cok 1 rfl rfl rfl rfl rfl rfl (by first | exact Nat.le_of_ble_eq_true rfl | omega) (by first | exact Nat.le_of_ble_eq_true rfl | omega) (by assumption) ?_) | (refine OpG.keep ?_; first | refine OpG.upS cok 0 rfl rfl rfl rfl rfl (by assumption) (by first | assumption | exact one_bvs _) (by first | exact Nat.le_of_ble_eq_true rfl | omega) ?_) | refine SeqS.go cok ?_ | refine And.intro (by omega) ?_ | (refine NatS.keep ?_; first | with_reducible refine NatS.nat ?_))
          intro b10
          repeat (first | (refine OpG.keep ?_; first | refine OpG.upS cok 0 rfl rfl rfl rfl rfl (by assumption) (by first | assumption | exact one_bvs _) (by first | exact Nat.le_of_ble_eq_true rfl | omega) ?_) | refine SeqS.go cok ?_ | refine And.intro (Eq.refl true) ?_ | (refine ValS.keep ?_; first | with_reducible refine ValS.sl0 ?_) | refine W.drawI 15 cok [0, 1, 0, 4, 15, 31, 63, 127, 255, 127, 639, 2047, 4095, 8191] [0, 1, 2, 3, 4, 5, 6, 7, 8, 9, 10, 11, 12, 13] [] (by kernel_rfl) (by kernel_rfl) ?_)
          refine (lEq (a := P.1) (b := P.1) (sub_b (List.mem_cons_of_mem _ List.mem_cons_self) m3 k1 k3 (by decide) (Nat.le_of_ble_eq_true rfl)) (sub_b List.mem_cons_self m3 k1 k3 (by decide) (Nat.le_of_ble_eq_true rfl))).mono ?_
          rintro r _ - ⟨rfl, hr⟩
          cases hr.trans (congrArg Value.bool (decide_eq_true rfl))
          repeat (first | refine GuardS.yes rfl ?_ | refine And.intro (Eq.refl true) ?_ | (refine ValS.keep ?_; first | with_reducible refine ValS.sl0 ?_))
          refine (lEq (a := P.2) (b := P.2) (sub_b (List.mem_cons_of_mem _ List.mem_cons_self) m4 k2 k4 (by decide) (Nat.le_of_ble_eq_true rfl)) (sub_b List.mem_cons_self m4 k2 k4 (by decide) (Nat.le_of_ble_eq_true rfl))).mono ?_
          rintro r _ - ⟨rfl, hr⟩
          cases hr.trans (congrArg Value.bool (decide_eq_true rfl))
          repeat (first | refine SeqS.go cok ?_ | refine GuardS.yes rfl ?_ | refine CondS.f rfl ?_ | (refine ValS.keep ?_; first | (with_reducible refine ValS.kI64 ?_; first | (with_reducible refine ValS.addI64_L ?_ ?_ ; omega))))
          exact ⟨j + 1, Rel.drop _ [_, _] ⟨rfl, hjt, rfl, rfl, rfl, rfl, rfl, rfl, rfl, rfl, rfl, rfl, trivial⟩, by show A.sl.length - (j + 1) < A.sl.length - j; omega⟩
        · repeat (first | refine SeqS.go cok ?_ | (refine CondS.keep ?_; first | refine CondS.d0 rfl (by omega) ?_))
          exact ⟨rfl, rfl, rfl, rfl, rfl, rfl, trivial⟩
    · repeat (first | refine SeqS.go cok ?_ | (refine CondS.keep ?_; first | refine CondS.d0 rfl (by omega) ?_))
      exact ⟨rfl, trivial⟩
end Go.Proofs.YgvafwGreat
