import Derived.Test.YgvafwGreatNat1
import Derived.Test.YgvafwGreatHLt
set_option maxRecDepth 100000
set_option linter.unusedVariables false
set_option linter.unusedSimpArgs false
namespace Go.Proofs.YgvafwGreat
open Go.HL Go.Proofs

/-- A number just made, of one's own, is handed out. -/
theorem clip_nat {S : St} {b n : Nat} {c : Nat → Value} {ds : List Nat} (how : Ow c ds) (hd : ∀ d ∈ ds, d < 256) (hl : ds.length = n) (hn : n ≤ 400) (hv : val ds < NB) :
    CallG Hvaf.prog 99 #[sl b 0 n n] ⟨S.I, ⟨b, n, 5, c⟩ :: S.G⟩ fun r S' => ⟨S.I, ⟨b, n, 5, c⟩ :: S.G⟩ = S' ∧ ∀ J : Ent → Prop, J ⟨b, n, 5, c⟩ → NatI J r (val ds) := by
  subst hl
  have hb : Byt ⟨S.I, ⟨b, ds.length, 5, c⟩ :: S.G⟩ (sl b 0 ds.length ds.length) ds := Byt.own (x := ⟨b, ds.length, 5, c⟩) (.inr List.mem_cons_self) how hd (by omega) (Nat.le_refl _) (Nat.le_refl _) (by omega)
  refine (clip_spec hb).mono ?_
  rintro r _ _ ⟨rfl, k, hk, rfl⟩
  refine ⟨rfl, fun J hJ => ?_⟩
  split
  · rename_i h0; subst h0
    have := hk.val
    simp [val] at this
    rw [← this]; exact NatI.zero _
  · have hle := hk.le
    have hlen : (ds.take k).length = k := by simp; omega
    refine ⟨ds.take k, ?_, hk.norm, hk.val, hk.norm.len (by rw [hk.val]; exact hv)⟩
    have hb2 : Byt ⟨J, []⟩ (sl b 0 ds.length ds.length) ds := Byt.own (x := ⟨b, ds.length, 5, c⟩) (.inl hJ) how hd (by omega) (Nat.le_refl _) (Nat.le_refl _) (by omega)
    exact hb2.cut hle

/-- nat.Add -/
theorem Add_byt {S : St} {v u : Value} {da db : List Nat} (h : Byt S v da) (h' : Byt S u db) (hda : da.length ≤ 200) (hdb : db.length ≤ 200) (hv : val da + val db < NB) :
    CallG Hvaf.prog 44 #[v, u] S fun r S' => S'.G = S.G ∧ NatI S'.I r (val da + val db) := by
  obtain ⟨a, cap, rfl, hlc, hc, hb⟩ := h.form
  obtain ⟨a', cap', rfl, hlc', hc', hb'⟩ := h'.form
  have hl := hb.2.1
  have hl' := hb'.2.1
  refine CallG.start (C := mkC Hvaf.prog) cok (args := [.slice a da.length cap, .slice a' db.length cap']) Hvaf.func44 rfl Hvaf.ntmps44 (by simp) (by kernel_rfl) ?_
  repeat (first | refine SeqS.goRS cok ?_)
  refine (trim_spec hb).mono ?_
  rintro r _ _ ⟨rfl, k, hk, rfl⟩
  repeat (first | refine SeqS.goRS cok ?_)
  refine (trim_spec hb').mono ?_
  rintro r _ _ ⟨rfl, k', hk', rfl⟩
  have c1 := hb.cut hk.le
  have c2 := hb'.cut hk'.le
  have f1 := hk.le
  have f2 := hk'.le
  rw [← hk.val, ← hk'.val] at hv ⊢
  have g1 : k = (da.take k).length := by simp; omega
  have g2 : k' = (db.take k').length := by simp; omega
  generalize da.take k = xs at *
  generalize db.take k' = ys at *
  subst g1; subst g2
  skip
  refine SeqS.cut cok (fun e' S' => S = S' ∧ ∃ p q a1 a2, Byt S (.slice a1 p.length p.length) p ∧ Byt S (.slice a2 q.length q.length) q ∧ q.length ≤ p.length ∧ val p + val q = val xs + val ys ∧ p.length ≤ 200 ∧ slots [(0, .slice a1 p.length p.length), (1, .slice a2 q.length q.length)] e') ?_ ?_
  · repeat (first | refine SeqS.go cok ?_)
    refine CondS.dec rfl (fun hc => ?_) (fun hc => ?_)
    · exact ⟨rfl, ys, xs, a', a, c2, c1, by omega, by omega, by omega, rfl, rfl, trivial⟩
    · exact ⟨rfl, xs, ys, a, a', c1, c2, by omega, by omega, by omega, rfl, rfl, trivial⟩
  rintro e' _ _ ⟨rfl, p, q, a1, a2, hp, hq, hqp, hsum, hpl, hs⟩
  have hlp := hp.2.1
  have hlq := hq.2.1
  rw [← hsum] at hv ⊢
  clear hsum hk hk' c1 c2 hb hb' h h'
  refine W.slots _ hs fun e => ?_
  repeat (first | refine And.intro (by dsimp only; omega) ?_ | (refine NatS.keep ?_; first | with_reducible refine NatS.nat ?_) | (refine ValS.keep ?_; first | (with_reducible refine ValS.kI64 ?_; first | (with_reducible refine ValS.addI64_L ?_ ?_ ; omega))))
  intro b
  repeat (first | refine SeqS.go cok ?_)
  refine W.loopE cok (by kernel_rfl) 0 (fun (i : Nat) e' S' => ∃ c out cy, S' = ⟨S.I, ⟨b, p.length + 1, 5, c⟩ :: S.G⟩ ∧ Ow c out ∧ out.length = p.length + 1 ∧ (∀ d ∈ out, d < 256) ∧ i ≤ p.length ∧ cy ≤ 1 ∧ val (out.take i) + cy * 256 ^ i = val (p.take i) + val (q.take i) ∧
      slots [(0, .slice a1 p.length p.length), (1, .slice a2 q.length q.length), (5, sl b 0 (p.length + 1) (p.length + 1)), (6, .int .u16 (cy : Nat)), (24, .slice a1 p.length p.length), (25, .int .i64 (p.length : Nat)), (26, .int .i64 (i : Nat))] e') (fun i => p.length - i) 0 ?_
    (fun e' S' => ∃ c out cy, S' = ⟨S.I, ⟨b, p.length + 1, 5, c⟩ :: S.G⟩ ∧ Ow c out ∧ out.length = p.length + 1 ∧ (∀ d ∈ out, d < 256) ∧ cy ≤ 1 ∧ val (out.take p.length) + cy * 256 ^ p.length = val p + val q ∧
      slots [(0, .slice a1 p.length p.length), (5, sl b 0 (p.length + 1) (p.length + 1)), (6, .int .u16 (cy : Nat))] e') ?_ ?_
  · exact ⟨_, List.replicate (p.length + 1) 0, 0, rfl, Ow.zero _ fun i _ => rfl, by simp, by simp, by omega, by omega, by simp [val], rfl, rfl, rfl, rfl, rfl, rfl, rfl, trivial⟩
  · rintro e' _ _ ⟨c, out, cy, rfl, how, hol, hod, hcy, hsum, hs⟩
    refine SeqS.slots cok _ hs fun e => ?_
    have hpw : 256 ^ (p.length + 1) = 256 ^ p.length * 256 := Nat.pow_succ ..
    repeat (first | refine And.intro (by omega) ?_ | (refine NatS.keep ?_; first | with_reducible refine NatS.nat ?_) | (refine ValS.keep ?_; first | (with_reducible refine ValS.kU8 ?_; first | (with_reducible refine ValS.convU8 ?_ ?_ ; omega))))
    refine OpG.ow cok 0 rfl how rfl rfl rfl rfl rfl rfl rfl (by omega) (by show _ ≤ p.length + 1; omega) fun c hown => ?_
    repeat (first | refine SeqS.goRT cok ?_)
    have hlen : (out.set p.length cy).length = p.length + 1 := by simp [hol]
    have hvs : val (out.set p.length cy) = val p + val q := by
      have := val_set_succ out p.length cy (by omega)
      rw [List.take_of_length_le (by omega)] at this
      rw [this, ← hsum]; rw [Nat.mul_comm]
    refine (clip_nat (S := S) hown (mem_set_lt hod (by omega)) hlen (by omega) (by rw [hvs]; exact hv)).mono ?_
    rintro r _ _ ⟨rfl, hr⟩
    repeat (first | refine SeqS.goRet cok ?_)
    refine Fin.frz [_] _ ?_
    exact ⟨rfl, by rw [← hvs]; exact hr _ (.inr List.mem_cons_self)⟩
  · rintro i e' _ _ ⟨c, out, cy, rfl, how, hol, hod, hi, hcy, hsum, hs⟩
    refine W.slots _ hs fun e => ?_
    refine SeqS.go cok ?_
    refine CondS.dec rfl (fun hc => ?_) (fun hc => ?_)
    · obtain ⟨x, o, rfl, hx, hbs⟩ := hp.some (by omega)
      have hx : Rd ⟨S.I, ⟨b, p.length + 1, 5, c⟩ :: S.G⟩ x := hx.mono (.refl _) (by intro y hy; simp [hy])
      have hd1 := getD_lt hp.1 i
      have hd2 := getD_lt hq.1 i
      skip
      refine SeqS.go cok ?_
      repeat (first | refine SeqS.goRS cok ?_ | refine And.intro (by omega) ?_ | (refine NatS.keep ?_; first | with_reducible refine NatS.nat ?_) | (refine ValS.keep ?_; first | (with_reducible refine ValS.kU16 ?_; first | (with_reducible refine ValS.convU16 ?_ ?_ ; omega) | (with_reducible refine ValS.addU16 ?_ ?_ ; omega))) | (refine QuG.keep ?_; first | refine QuG.bs cok (by assumption) (by assumption) rfl rfl rfl rfl (by omega) ?_))
      refine SeqS.cut cok (fun e' S' => S' = ⟨S.I, ⟨b, p.length + 1, 5, c⟩ :: S.G⟩ ∧ slots [(0, .slice (some ⟨x.b, o, none⟩) p.length p.length), (1, .slice a2 q.length q.length), (5, sl b 0 (p.length + 1) (p.length + 1)), (6, .int .u16 ((cy + p.getD i 0 + q.getD i 0 : Nat) : Int)), (7, .int .i64 (i : Nat)), (24, .slice (some ⟨x.b, o, none⟩) p.length p.length), (25, .int .i64 (p.length : Nat)), (26, .int .i64 (i : Nat))] e') ?_ ?_
      · repeat (first | refine SeqS.go cok ?_)
        refine CondS.dec rfl (fun hc2 => ?_) (fun hc2 => ?_)
        · obtain ⟨y, o2, rfl, hy, hbs2⟩ := hq.some (by omega)
          have hy : Rd ⟨S.I, ⟨b, p.length + 1, 5, c⟩ :: S.G⟩ y := hy.mono (.refl _) (by intro y hy; simp [hy])
          repeat (first | refine And.intro (by omega) ?_ | (refine NatS.keep ?_; first | with_reducible refine NatS.nat ?_) | (refine ValS.keep ?_; first | (with_reducible refine ValS.kU16 ?_; first | (with_reducible refine ValS.convU16 ?_ ?_ ; omega) | (with_reducible refine ValS.addU16 ?_ ?_ ; omega))) | (refine QuG.keep ?_; first | refine QuG.bs cok (by assumption) (by assumption) rfl rfl rfl rfl (by omega) ?_))
          exact ⟨rfl, rfl, rfl, rfl, rfl, rfl, rfl, rfl, rfl, trivial⟩
        · have h0 : q.getD i 0 = 0 := getD_ge (by omega)
          rw [h0]
          skip
          exact ⟨rfl, rfl, rfl, rfl, rfl, rfl, rfl, rfl, rfl, trivial⟩
      · rintro e' _ _ ⟨rfl, hs⟩
        refine W.slots _ hs fun e => ?_
        repeat (first | refine And.intro (by omega) ?_ | (refine NatS.keep ?_; first | with_reducible refine NatS.nat ?_) | (refine ValS.keep ?_; first | (with_reducible refine ValS.kU8 ?_; first | (with_reducible refine ValS.convWU8 ?_ ))))
        refine OpG.ow cok 0 rfl how rfl rfl rfl rfl rfl rfl rfl (by omega) (by show _ ≤ p.length + 1; omega) fun c2 hown => ?_
        repeat (first | refine SeqS.go cok ?_ | refine And.intro (by omega) ?_ | (refine ValS.keep ?_; first | (with_reducible refine ValS.kI64 ?_; first | (with_reducible refine ValS.addI64_L ?_ ?_ ; omega)) | (with_reducible refine ValS.kU16 ?_; first | (with_reducible refine ValS.shrU16_L ?_ ?_ ; omega))))
        refine ⟨i + 1, ⟨c2, _, (cy + p.getD i 0 + q.getD i 0) / 2 ^ 8, rfl, hown, by simp [hol], mem_set_lt hod (by omega), by omega, by omega, ?_, rfl, rfl, rfl, rfl, rfl, rfl, rfl, trivial⟩, ?_⟩
        · rw [val_set_succ _ _ _ (by omega), val_take_succ, val_take_succ, Nat.pow_succ]
          exact step_add _ _ _ _ _ _ _ hsum
        · show p.length - (i + 1) < p.length - i; omega
    · have hc : i = p.length := by omega
      subst hc
      skip
      refine ⟨c, out, cy, rfl, how, hol, hod, hcy, ?_, rfl, rfl, rfl, trivial⟩
      rw [hsum, val_take_all q _ hqp, val_take_all p _ (Nat.le_refl _)]
end Go.Proofs.YgvafwGreat
