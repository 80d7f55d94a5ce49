import Derived.Test.YgvafwGreatY91
import Derived.Test.YgvafwGreatY88
import Derived.Test.YgvafwGreatY88b
import Derived.Test.YgvafwGreatN9
import Derived.Test.YgvafwGreatN5
set_option exponentiation.threshold 1000
set_option maxRecDepth 100000
set_option maxHeartbeats 4000000
set_option linter.unusedVariables false
set_option linter.unusedSimpArgs false
-- v2
namespace Go.Proofs.YgvafwGreat
open Go.HL Go.Proofs

theorem yrow_one {c : Nat → Value} {o k : Nat} {vs : List Value} (h : Row c o vs) (hv : ∀ u ∈ vs, one u = true) (h1 : o ≤ k) (h2 : k < o + vs.length) : one (c k) = true := by
  have := h.get (k - o) (by omega)
  rw [show o + (k - o) = k by omega] at this
  rw [this, List.getD_eq_getElem?_getD, List.getElem?_eq_getElem (by omega)]
  exact hv _ (List.getElem_mem _)
theorem row_isl {I : Ent → Prop} {k : Nat} {v : Value} {vss : List (List Value)} (h : RowI I k v vss) : one v = true := by
  obtain ⟨a, c, rfl⟩ := h.form; rfl
theorem own_isl {T : TypeId} {k : Nat} {v : Value} {vss : List (List Value)} {M : List Ent} (h : OwnL T k v vss M) : one v = true := by
  rcases h.out with ⟨rfl, _⟩ | ⟨b, cap, c, rfl, _⟩ <;> rfl
theorem nat_isl {I : Ent → Prop} {v : Value} {n : Nat} (h : NatI I v n) : one v = true := by
  obtain ⟨a, m, c, rfl⟩ := natI_form h; rfl
theorem env_ones : ∀ u ∈ envL, one u = true := by
  have h : envL.all one = true := by kernel_rfl
  exact List.all_eq_true.1 h
/-- The state's cells where a transaction has ended. -/
theorem finY_of {J J1 : Ent → Prop} {cs1 cs' : Nat → Value} {e : NE} {ML : List Ent} {gas : Nat} (R : List Ent) (hE : EndY J cs1 cs' e ML) (hB : BegY J1 cs1 gas) (hs : HL.Sub J1 J) (hal : e.w.al.length < 2 ^ 17) (hlg : e.w.lg.length < 2 ^ 17) (hlt : LgB e.w) :
    FinY (fun x => J x ∨ x ∈ R ++ ML) cs' e.w.al e.w.rf gas e.gas (2 ^ 128) e.st e.out e.w.lg := by
  have u1 : HL.Sub J (fun x => J x ∨ x ∈ R ++ ML) := fun _ h => .inl h
  have u2 := hs.trans u1
  have hr : ∀ k, 16 < k → cs' k = cs1 k := fun k hk => hE.rs k (by omega) (by omega)
  have hlim := hB.lim
  have hpr := hB.pr
  have htt := hB.tot
  have htg := hB.tg
  rw [← hE.rs 14 (by decide) (by decide)] at hlim
  rw [← hr 17 (by decide)] at hpr
  rw [← hr 18 (by decide)] at htt
  rw [← hE.rs 15 (by decide) (by decide)] at htg
  have hog := Row.keep hB.og fun k hk => hr k (by omega)
  have hmd := Row.keep hB.made fun k hk => hr k (by omega)
  have hen := Row.keep hB.env fun k hk => hr k (by omega)
  have hap := (hE.rs 13 (by decide) (by decide)).trans hB.ap
  obtain ⟨lvs, hlo, hll⟩ := hE.l.out
  obtain ⟨avs, hav, _⟩ := hE.w.acc.out
  obtain ⟨mvs, hmv, _⟩ := hE.w.mks.out
  obtain ⟨tvs, htv, _⟩ := hE.w.tmp.out
  have hacc := hE.w.acc.up u1
  refine ⟨hacc, hal, hE.w.rfd.up u1, ⟨lvs, hlo.row fun x hx => .inr (List.mem_append_right _ hx), hll.mono fun _ _ h => h.up u1⟩, hE.w.gne, hE.rt.mono u1 (by simp), hE.ph, hE.st, hap, hlim.up u2, hE.gs.up u1, hpr.up u2, htt.up u2, hog, hmd, hen, fun k hk => ?_, by omega, fun t ht => by have := hlt t ht; omega⟩
  rcases Nat.lt_or_ge k 19 with h | h
  · rcases (by omega : k = 0 ∨ k = 1 ∨ k = 2 ∨ k = 3 ∨ k = 4 ∨ k = 5 ∨ k = 6 ∨ k = 7 ∨ k = 8 ∨ k = 9 ∨ k = 10 ∨ k = 11 ∨ k = 12 ∨ k = 13 ∨ k = 14 ∨ k = 15 ∨ k = 16 ∨ k = 17 ∨ k = 18) with rfl | rfl | rfl | rfl | rfl | rfl | rfl | rfl | rfl | rfl | rfl | rfl | rfl | rfl | rfl | rfl | rfl | rfl | rfl
    · exact row_isl hav
    · exact row_isl hE.w.wrm
    · exact row_isl hmv
    · exact nat_isl hE.w.rfd
    · exact own_isl hlo
    · exact row_isl htv
    · exact row_isl hE.w.mde
    · rw [hE.w.gne]; rfl
    · rw [hE.r8]; exact hB.s8
    · rw [hE.fr]; rfl
    · exact Byt.isl hE.rt
    · rw [hE.ph]; rfl
    · rw [hE.st]; rfl
    · rw [hap]; rfl
    · exact nat_isl hlim
    · exact htg
    · exact nat_isl hE.gs
    · exact nat_isl hpr
    · exact nat_isl htt
  · rcases Nat.lt_or_ge k 39 with h2 | h2
    · exact yrow_one hog (one_bvs _) h h2
    · rcases Nat.lt_or_ge k 59 with h3 | h3
      · exact yrow_one hmd (one_bvs _) h2 h3
      · exact yrow_one hen env_ones h3 hk
/-- The specification's receipt and state behind a transaction. -/
def YQ (sb : Nat) (q : AQ) (l : List Value) (S' : St) : Prop :=
  ∃ e J cs' ov lv, RunsA q.K q.s0 e ∧ l = rptL 0 e.st (usedN 200000 e.gas e.w.rf) ov lv (List.replicate 20 0) ∧ S' = ⟨J, [⟨sb, 179, 118, cs'⟩]⟩ ∧ AcctsI J (cs' 0) e.w.al ∧ FinA q e ∧ Byt ⟨J, []⟩ ov e.out ∧ LogsI J lv e.w.lg
/-- yp.Chain.Finish behind a run -/
theorem yFinishAB {J : Ent → Prop} {sb lim g tot : Nat} {cs : Nat → Value} {q : AQ} {e : NE} (hF : FinA q e) (h : FinY J cs e.w.al e.w.rf lim g tot e.st e.out e.w.lg) (hlim : lim < 2 ^ 60) :
    CallG Hvaf.prog 31 #[ptr sb 0] ⟨J, [⟨sb, 179, 118, cs⟩]⟩ fun r S' => ∃ J' cs' ov lv, r = rptV 0 e.st (usedN lim g e.w.rf) ov lv (List.replicate 20 0) ∧ S' = ⟨J', [⟨sb, 179, 118, cs'⟩]⟩ ∧ Byt ⟨J', []⟩ ov e.out ∧ LogsI J' lv e.w.lg ∧ AcctsI J' (cs' 0) e.w.al := by
  have hst := Nat.lt_trans hF.st (show 13 < 256 by decide)
  rcases hF.al with ⟨ss, h1, _⟩ | h1
  · rw [h1] at h ⊢
    rcases Nat.eq_zero_or_pos e.st with hz | hz
    · exact yFinishA h hlim hst hz rfl (al1 := alN q.code ss) rfl (by show 2 < 2 ^ 17; decide) rfl rfl (by show 2 < 2 ^ 17; decide)
    · exact yFinishB h hlim hst hz rfl (al1 := alN q.code ss) rfl (by show 2 < 2 ^ 17; decide) rfl rfl (by show 2 < 2 ^ 17; decide)
  · rw [h1] at h ⊢
    rcases Nat.eq_zero_or_pos e.st with hz | hz
    · exact yFinishA h hlim hst hz rfl (al1 := alC q.code) rfl (by show 3 < 2 ^ 17; decide) rfl rfl (by show 3 < 2 ^ 17; decide)
    · exact yFinishB h hlim hst hz rfl (al1 := alC q.code) rfl (by show 3 < 2 ^ 17; decide) rfl rfl (by show 3 < 2 ^ 17; decide)
/-- yp.Chain.Apply where the transaction is played -/
theorem yApply {I : Ent → Prop} {sb : Nat} {cs : Nat → Value} {q : AQ} (hq : q.Ok) (hB : BS I cs q.code) :
    CallG Hvaf.prog 13 #[ptr sb 0, txV (.slice none 0 0) 200000] ⟨I, [⟨sb, 179, 118, cs⟩]⟩ fun r S' => ∃ l, r = .agg l.toArray ∧ YQ sb q l S' := by
  refine yApply0 hq hB ?_
  rintro J1 cs1 L S hBg hs ⟨J, cs', R, ML, e, rfl, hE, hr⟩
  obtain ⟨hFA, _⟩ := RA.runs hq hr (RA.zero hq)
  have hal : e.w.al.length < 2 ^ 17 := by
    rcases hFA.al with ⟨ss, h1, _⟩ | h1
    · rw [h1]; show 2 < 2 ^ 17; decide
    · rw [h1]; show 3 < 2 ^ 17; decide
  have hF := finY_of R hE hBg hs hal (sz_lg hFA.sz) hFA.lg
  have hfin := yFinishAB (sb := sb) hFA hF (by decide)
  have hperm : (⟨sb, 179, 118, cs'⟩ :: (R ++ ML) : List Ent).Perm ((R ++ ML) ++ ([⟨sb, 179, 118, cs'⟩] ++ [])) := by
    rw [List.append_nil]; exact (List.perm_append_comm (l₁ := [(⟨sb, 179, 118, cs'⟩ : Ent)]) (l₂ := R ++ ML))
  refine CallG.behind L (CallG.rel ⟨[], R ++ ML, [⟨sb, 179, 118, cs'⟩], _, hperm, fun _ => .rfl, hfin⟩) ?_
  rintro r J2 G2 hs2 ⟨J3, cs3, ov, lv, rfl, e3, hB3, hL3, hA3⟩
  cases e3
  refine ⟨rptL 0 e.st (usedN 200000 e.gas e.w.rf) ov lv (List.replicate 20 0), _, _, rfl, rfl, ?_, rfl, e, _, cs3, ov, lv, hr, rfl, rfl, hA3, hFA, hB3, hL3⟩
  intro u hu
  have o1 := Byt.isl hB3
  obtain ⟨lvs, hlv, _⟩ := hL3.out
  have o2 := row_isl hlv
  rcases List.mem_append.1 hu with hu | hu
  · simp only [List.mem_cons, List.not_mem_nil, or_false] at hu
    rcases hu with rfl | rfl | rfl | rfl | rfl
    · rfl
    · rfl
    · rfl
    · exact o1
    · exact o2
  · exact one_bvs _ u hu
end Go.Proofs.YgvafwGreat
