import Derived.Test.YgvafwGreatL4
import Derived.Test.YgvafwGreatY34
set_option maxRecDepth 100000
set_option maxHeartbeats 4000000
set_option linter.unusedVariables false
set_option linter.unusedSimpArgs false
-- v2
-- v4
-- v5
-- v6
-- v7
namespace Go.Proofs.YgvafwGreat
open Go.HL Go.Proofs

/-- The cells of a receipt. -/
def rptL (v st u : Nat) (ov lv : Value) (md : List Nat) : List Value := [.int .u8 (v : Nat), .int .u8 (st : Nat), .int .u64 (u : Nat), ov, lv] ++ bvs md
def rptV (v st u : Nat) (ov lv : Value) (md : List Nat) : Value := .agg (rptL v st u ov lv md).toArray
/-- What the walk needs of a log's cells. -/
structure LgF (I : Ent → Prop) (l : List Value) (t : LG) (ta : Option Addr) (tn : Nat) (da : Option Addr) (dn : Nat) : Prop where
  len : l.length = 22
  one : ∀ u ∈ l, one u = true
  ad : (l.drop 0).take 20 = bvs t.1
  c20 : l.getD 20 undef = .slice ta t.2.1.length tn
  c21 : l.getD 21 undef = .slice da t.2.2.length dn
  tr : RowI I 32 (.slice ta t.2.1.length tn) ((t.2.1.map be32).map bvs)
  db : Byt ⟨I, []⟩ (.slice da t.2.2.length dn) t.2.2
theorem LgC.facts {I : Ent → Prop} {l : List Value} {t : LG} (h : LgC I l t) : ∃ ta tn da dn, LgF I l t ta tn da dn := by
  obtain ⟨tv, dv, rfl, h2, h3⟩ := h.out
  obtain ⟨da, dn, rfl, -⟩ := h3.form
  obtain ⟨ta, tn, e⟩ := h2.form
  rw [List.length_map] at e
  subst e
  have h20 : (bvs t.1).length = 20 := by rw [bvs_len]; exact h.ok.len
  refine ⟨ta, tn, da, dn, ?_, ?_, ?_, ?_, ?_, by rw [List.map_map]; exact h2, h3⟩
  · simp [h20]
  · intro u hu
    simp only [List.mem_append, List.mem_cons, List.not_mem_nil, or_false] at hu
    rcases hu with hu | rfl | rfl
    · exact one_bvs _ u hu
    · rfl
    · rfl
  · rw [List.drop_zero, List.take_append_of_le_length (by omega), List.take_of_length_le (by omega)]
  · rw [List.getD_eq_getElem?_getD, List.getElem?_append_right (by omega), h20]; rfl
  · rw [List.getD_eq_getElem?_getD, List.getElem?_append_right (by omega), h20]; rfl
theorem dig_lt2 : ∀ (k n : Nat), ∀ d ∈ dig k n, d < 256
  | 0, n => by intro d hd; rw [dig] at hd; exact absurd hd (by simp)
  | k + 1, n => by
    intro d hd
    rw [dig, List.mem_cons] at hd
    rcases hd with rfl | hd
    · exact Nat.mod_lt _ (by decide)
    · exact dig_lt2 k _ d hd
theorem be32_lt2 (n : Nat) : ∀ d ∈ be32 n, d < 256 := by
  intro d hd
  rw [be32, List.mem_reverse] at hd
  exact dig_lt2 _ _ d hd
theorem box_b {S : St} {b n p m : Nat} {T : TypeId} {l : List Value} {ds : List Nat} (hx : (⟨b, n, T, vc (.agg l.toArray)⟩ : Ent) ∈ S.G) (hs : (l.drop p).take m = bvs ds) (hn : ds.length = m) (h8 : ∀ d ∈ ds, d < 256) (h40 : m < 2 ^ 40) (hsz : p + m ≤ n) : Byt S (HL.sl b p m m) ds := by
  subst hn
  refine ⟨h8, by omega, _, _, rfl, Nat.le_refl _, by omega, .inr ⟨⟨b, n, T, vc (.agg l.toArray)⟩, p, rfl, .inr hx, hsz, fun i hi => ?_⟩⟩
  have hg : (bvs ds).getD i undef = l.getD (p + i) undef := by
    rw [← hs, List.getD_eq_getElem?_getD, List.getElem?_take, if_pos hi, List.getElem?_drop, ← List.getD_eq_getElem?_getD]
  have hpl : p + i < l.length := by
    have := congrArg List.length hs
    rw [List.length_take, List.length_drop, bvs_len] at this
    omega
  rw [bvs_getD _ _ hi] at hg
  have := (Row.box l).get (p + i) hpl
  rw [Nat.zero_add] at this
  exact this.trans hg.symm
/-- law.receiptsMeet -/
theorem lReceiptsMeet {I : Ent → Prop} {G : List Ent} {v st u : Nat} {ov ov' lv lv' : Value} {out md : List Nat} {ml : List LG} (hv : v < 256) (hst : st < 256) (hu : u < 2 ^ 64) (ho : Byt ⟨I, []⟩ ov out) (ho' : Byt ⟨I, []⟩ ov' out) (hl : LogsI I lv ml) (hl' : LogsI I lv' ml) (hm : AdOk md) (hn : ml.length < 2 ^ 30) (htn : ∀ t ∈ ml, t.2.1.length < 2 ^ 30) :
    CallG Hvaf.prog 27 #[rptV v st u ov lv md, rptV v st u ov' lv' md] ⟨I, G⟩ fun r S' => ⟨I, G⟩ = S' ∧ r = .bool true := by
  obtain ⟨vss, hR, hvl, hel⟩ := hl.out
  obtain ⟨vss', hR', hvl', hel'⟩ := hl'.out
  obtain ⟨a1, cap, rfl⟩ := hR.form
  obtain ⟨a2, cap2, rfl⟩ := hR'.form
  obtain ⟨oa, oc, rfl, -⟩ := ho.form
  obtain ⟨oa', oc', rfl, -⟩ := ho'.form
  have hvv : vss'.length = vss.length := by omega
  have hml := hm.len
  have hmb : (bvs md).length = 20 := by rw [bvs_len]; exact hml
  have hmd : ∀ lv, ((rptL v st u (.slice oa out.length oc) lv md).drop 5).take 20 = bvs md := fun lv => by
    show (bvs md).take 20 = _
    rw [List.take_of_length_le (by omega)]
  have hmd' : ∀ lv, ((rptL v st u (.slice oa' out.length oc') lv md).drop 5).take 20 = bvs md := fun lv => by
    show (bvs md).take 20 = _
    rw [List.take_of_length_le (by omega)]
  refine CallG.start (C := mkC Hvaf.prog) cok (args := [rptV v st u (.slice oa out.length oc) (.slice a1 vss.length cap) md, rptV v st u (.slice oa' out.length oc') (.slice a2 vss'.length cap2) md]) Hvaf.func27 rfl Hvaf.ntmps27 (by simp) (by kernel_rfl) ?_
  intro b2 b3
  repeat (first | refine SeqS.go cok ?_ | (refine QuG.keep ?_; first | refine QuG.l1 cok 0 rfl rfl rfl rfl rfl (by first | exact Nat.le_of_ble_eq_true rfl | omega | (dsimp only; omega) | (simp only [addS_eq, mulS_eq]; omega)) ?_ | refine QuG.l1 cok 1 rfl rfl rfl rfl rfl (by first | exact Nat.le_of_ble_eq_true rfl | omega | (dsimp only; omega) | (simp only [addS_eq, mulS_eq]; omega)) ?_) | (refine CondS.keep ?_; first | refine CondS.nd0 rfl (by omega) ?_))
  refine W.loopG cok (by kernel_rfl) 0 (fun (i : Nat) e' => i ≤ ml.length ∧ slots [(2, ptr b2 0), (3, ptr b3 0), (5, .int .i64 (0 : Nat)), (17, .slice a1 vss.length cap), (18, .int .i64 (vss.length : Nat)), (19, .int .i64 (i : Nat))] e') (fun i => ml.length - i) 0
    ⟨Nat.zero_le _, rfl, rfl, rfl, rfl, rfl, rfl, trivial⟩ (fun e' => slots [(2, ptr b2 0), (3, ptr b3 0), (5, .int .i64 (0 : Nat))] e') ?_ ?_
  · rintro e' hsl
    refine SeqS.slots cok _ hsl fun e => ?_
    repeat (first | refine GuardS.yes rfl ?_ | (refine QuG.keep ?_; first | refine QuG.l1 cok 0 rfl rfl rfl rfl rfl (by first | exact Nat.le_of_ble_eq_true rfl | omega | (dsimp only; omega) | (simp only [addS_eq, mulS_eq]; omega)) ?_ | refine QuG.l1 cok 1 rfl rfl rfl rfl rfl (by first | exact Nat.le_of_ble_eq_true rfl | omega | (dsimp only; omega) | (simp only [addS_eq, mulS_eq]; omega)) ?_) | refine W.drawI 11 cok [0, 1, 3, 7, 15, 7, 39, 127, 255, 511, 1023, 2047, 1023, 5119, 16383, 32767, 65535, 131071, 262143, 131071, 655359, 2097151, 4194303, 8388607, 16777215, 33554431, 16777215, 83886079, 268435455, 536870911, 1073741823, 2147483647, 4294967295, 2147483647, 10737418239, 34359738367, 68719476735, 137438953471] [0, 1, 2, 3, 4, 5, 6, 7, 8, 9, 10, 11, 12, 13, 14, 15, 16, 17, 18, 19, 20, 21, 22, 23, 24, 25, 26, 27, 28, 29, 30, 31, 32, 33, 34, 35, 36, 37] [4, 6, 11, 13, 18, 20, 25, 27] (by kernel_rfl) (by kernel_rfl) ?_ | (refine GuardS.keep ?_; first | refine GuardS.T1 rfl (by omega) ?_))
    refine (lEq (a := out) (b := out) (Byt.ext ho) (Byt.ext ho')).mono ?_
    rintro r _ - ⟨rfl, hr⟩
    cases hr.trans (congrArg Value.bool (decide_eq_true rfl))
    repeat (first | refine GuardS.yes rfl ?_ | refine And.intro (Eq.refl true) ?_ | (refine ValS.keep ?_; first | with_reducible refine ValS.sl0 ?_) | (refine still_in ?_; first | refine still_drop (by decide) ?_))
    refine (lEq (a := md) (b := md) (box_b (List.mem_cons_of_mem _ List.mem_cons_self) (hmd _) hml hm.b8 (by decide) (by show 5 + 20 ≤ (rptL _ _ _ _ _ _).length; simp [rptL, hml])) (box_b List.mem_cons_self (hmd' _) hml hm.b8 (by decide) (by show 5 + 20 ≤ (rptL _ _ _ _ _ _).length; simp [rptL, hml]))).mono ?_
    rintro r _ - ⟨rfl, hr⟩
    cases hr.trans (congrArg Value.bool (decide_eq_true rfl))
    repeat (first | refine SeqS.go cok ?_ | (refine still_in ?_; first | refine still_drop (by decide) ?_))
    exact Fin.drop G [_, _] ⟨rfl, rfl⟩
  · rintro i e' ⟨hi, hsl⟩
    refine W.slots _ hsl fun e => ?_
    by_cases hlt : i < ml.length
    · obtain ⟨x, o, rfl, hx, hE⟩ := hR.some (by omega)
      obtain ⟨x', o', rfl, hx', hE'⟩ := hR'.some (by omega)
      have hac := hel i hlt
      have hac' := hel' i hlt
      have htm : (ml.getD i dL).2.1.length < 2 ^ 30 := htn _ (by rw [List.getD_eq_getElem?_getD, List.getElem?_eq_getElem hlt]; exact List.getElem_mem hlt)
      obtain ⟨l, hl⟩ : ∃ l, vss.getD i [] = l := ⟨_, rfl⟩
      obtain ⟨l', hl'⟩ : ∃ l', vss'.getD i [] = l' := ⟨_, rfl⟩
      rw [hl] at hac
      rw [hl'] at hac'
      generalize ml.getD i dL = A at hac hac' htm
      obtain ⟨ta, tn, da, dn, hF⟩ := hac.facts
      obtain ⟨ta', tn', da', dn', hF'⟩ := hac'.facts
      have hrd : ∀ G, Rd ⟨I, G⟩ x := fun _ => .inl hx
      have hrd' : ∀ G, Rd ⟨I, G⟩ x' := fun _ => .inl hx'
      have q1 := hF.len
      have q2 := hF.one
      have q4 := hF.c20
      have q5 := hF.c21
      have q1' := hF'.len
      have q2' := hF'.one
      have q4' := hF'.c20
      have q5' := hF'.c21
      have had := hac.ok.len
      repeat (first | (refine QuG.keep ?_; first | refine QuG.elE cok _ (by assumption) (by first | assumption | exact ‹∀ G, Rd ⟨_, G⟩ _› _) (by assumption) rfl rfl rfl rfl rfl (by omega) ?_) | refine SeqS.go cok ?_ | refine And.intro (by omega) ?_ | (refine NatS.keep ?_; first | with_reducible refine NatS.nat ?_) | (refine CondS.keep ?_; first | refine CondS.d1 rfl (by omega) ?_))
      intro b6
      repeat (first | (refine QuG.keep ?_; first | refine QuG.elE cok _ (by assumption) (by first | assumption | exact ‹∀ G, Rd ⟨_, G⟩ _› _) (by assumption) rfl rfl rfl rfl rfl (by omega) ?_) | (refine OpG.keep ?_; first | refine OpG.upS cok 0 rfl rfl rfl rfl rfl (by assumption) (by first | assumption | exact one_bvs _) (by first | exact Nat.le_of_ble_eq_true rfl | omega) ?_) | refine SeqS.go cok ?_ | refine And.intro (by omega) ?_ | (refine NatS.keep ?_; first | with_reducible refine NatS.nat ?_) | (refine QuG.keep ?_; first | refine QuG.l1 cok 1 rfl rfl rfl rfl rfl (by first | exact Nat.le_of_ble_eq_true rfl | omega | (dsimp only; omega) | (simp only [addS_eq, mulS_eq]; omega)) ?_))
      intro b7
      repeat (first | (refine OpG.keep ?_; first | refine OpG.upS cok 0 rfl rfl rfl rfl rfl (by assumption) (by first | assumption | exact one_bvs _) (by first | exact Nat.le_of_ble_eq_true rfl | omega) ?_) | refine SeqS.go cok ?_ | refine And.intro (Eq.refl true) ?_ | (refine ValS.keep ?_; first | with_reducible refine ValS.sl0 ?_) | refine W.drawI 8 cok [0, 1, 0, 4, 15, 31, 63, 127, 255, 127, 639, 2047, 4095, 8191, 16383, 32767, 65535, 32767, 163839, 524287, 1048575, 2097151] [0, 1, 2, 3, 4, 5, 6, 7, 8, 9, 10, 11, 12, 13, 14, 15, 16, 17, 18, 19, 20, 21] [8, 10, 16, 18] (by kernel_rfl) (by kernel_rfl) ?_)
      refine (lEq (a := A.1) (b := A.1) (sub_b (List.mem_cons_of_mem _ List.mem_cons_self) hF.ad had hac.ok.b8 (by decide) (Nat.le_of_ble_eq_true rfl)) (sub_b List.mem_cons_self hF'.ad had hac.ok.b8 (by decide) (Nat.le_of_ble_eq_true rfl))).mono ?_
      rintro r _ - ⟨rfl, hr⟩
      cases hr.trans (congrArg Value.bool (decide_eq_true rfl))
      repeat (first | (refine QuG.keep ?_; first | refine QuG.upC cok 0 rfl rfl rfl rfl rfl rfl (by first | exact Nat.le_of_ble_eq_true rfl | omega) (by first | exact Nat.le_of_ble_eq_true rfl | omega) (by assumption) ?_ | refine QuG.upC cok 1 rfl rfl rfl rfl rfl rfl (by first | exact Nat.le_of_ble_eq_true rfl | omega) (by first | exact Nat.le_of_ble_eq_true rfl | omega) (by assumption) ?_) | refine GuardS.yes rfl ?_)
      refine (lWordsMeet hF.tr hF'.tr (fun y hy => by obtain ⟨n, _, rfl⟩ := List.mem_map.1 hy; exact be32_lt2 n) (by rw [List.length_map]; exact htm)).mono ?_
      rintro r _ - ⟨rfl, rfl⟩
      repeat (first | (refine QuG.keep ?_; first | refine QuG.upC cok 0 rfl rfl rfl rfl rfl rfl (by first | exact Nat.le_of_ble_eq_true rfl | omega) (by first | exact Nat.le_of_ble_eq_true rfl | omega) (by assumption) ?_ | refine QuG.upC cok 1 rfl rfl rfl rfl rfl rfl (by first | exact Nat.le_of_ble_eq_true rfl | omega) (by first | exact Nat.le_of_ble_eq_true rfl | omega) (by assumption) ?_) | refine GuardS.yes rfl ?_ | (refine still_in ?_; first | refine still_drop (by decide) ?_))
      refine (lEq (a := A.2.2) (b := A.2.2) (Byt.ext hF.db) (Byt.ext hF'.db)).mono ?_
      rintro r _ - ⟨rfl, hr⟩
      cases hr.trans (congrArg Value.bool (decide_eq_true rfl))
      repeat (first | refine SeqS.go cok ?_ | refine GuardS.yes rfl ?_ | refine CondS.f rfl ?_ | (refine ValS.keep ?_; first | (with_reducible refine ValS.kI64 ?_; first | (with_reducible refine ValS.addI64_L ?_ ?_ ; omega))) | (refine still_in ?_; first | refine still_drop (by decide) ?_))
      exact ⟨i + 1, Rel.drop _ [_, _] ⟨rfl, hlt, rfl, rfl, rfl, rfl, rfl, rfl, trivial⟩, by show ml.length - (i + 1) < ml.length - i; omega⟩
    · repeat (first | refine SeqS.go cok ?_ | (refine CondS.keep ?_; first | refine CondS.d0 rfl (by omega) ?_))
      exact ⟨rfl, rfl, rfl, rfl, trivial⟩
/-- law.towerHolds -/
theorem lTowerHolds {I : Ent → Prop} {G : List Ent} {v st u : Nat} {ov ov' lv lv' wv wv' : Value} {out md : List Nat} {ml : List LG} {wl : List OA} (hv : v < 256) (hst : st < 13) (hu : u < 2 ^ 64) (ho : Byt ⟨I, []⟩ ov out) (ho' : Byt ⟨I, []⟩ ov' out) (hl : LogsI I lv ml) (hl' : LogsI I lv' ml) (hm : AdOk md) (hn : ml.length < 2 ^ 30) (htn : ∀ t ∈ ml, t.2.1.length < 2 ^ 30) (hw : OWI I wv wl) (hw' : OWI I wv' wl) (hwn : wl.length < 2 ^ 30) :
    CallG Hvaf.prog 12 #[rptV v st u ov lv md, rptV v st u ov' lv' md, wv, wv'] ⟨I, G⟩ fun r S' => ⟨I, G⟩ = S' ∧ r = .bool true := by
  have hml := hm.len
  have q1 : (rptL v st u ov lv md).length = 25 := by simp [rptL, hml]
  have q2 : (rptL v st u ov' lv' md).length = 25 := by simp [rptL, hml]
  refine CallG.start (C := mkC Hvaf.prog) cok (args := [rptV v st u ov lv md, rptV v st u ov' lv' md, wv, wv']) Hvaf.func12 rfl Hvaf.ntmps12 (by simp) (by kernel_rfl) ?_
  intro b4 b5
  repeat (first | (refine QuG.keep ?_; first | refine QuG.boxL cok 0 rfl rfl rfl rfl rfl (by assumption) ?_ | refine QuG.boxL cok 1 rfl rfl rfl rfl rfl (by assumption) ?_) | refine SeqS.go cok ?_)
  refine (lReceiptsMeet hv (by omega) hu ho ho' hl hl' hm hn htn).mono ?_
  rintro r _ - ⟨rfl, rfl⟩
  repeat (first | refine GuardS.yes rfl ?_)
  refine (lWorldsMeet hw hw' hwn).mono ?_
  rintro r _ - ⟨rfl, rfl⟩
  repeat (first | refine SeqS.go cok ?_ | refine GuardS.yes rfl ?_ | (refine QuG.keep ?_; first | refine QuG.l1 cok 1 rfl rfl rfl rfl rfl (by first | exact Nat.le_of_ble_eq_true rfl | omega | (dsimp only; omega) | (simp only [addS_eq, mulS_eq]; omega)) ?_))
  refine Fin.drop G [_, _] ⟨rfl, vB rfl ?_⟩
  exact bne_iff_ne.2 (by omega)

end Go.Proofs.YgvafwGreat
