import Derived.Test.YgvafwGreatE92
set_option exponentiation.threshold 1000
set_option maxRecDepth 100000
set_option maxHeartbeats 4000000
set_option linter.unusedVariables false
set_option linter.unusedSimpArgs false
-- v2
namespace Go.Proofs.YgvafwGreat
open Go.HL Go.Proofs

theorem setA_oth (V : Vl) (a : List Nat) (t : Nat → Int) (x : VA) (e : VE) : (V.setA a t x e).sl = V.sl ∧ (V.setA a t x e).tp = V.tp ∧ (V.setA a t x e).lg = V.lg ∧ (V.setA a t x e).rf = V.rf ∧ (V.setA a t x e).nm = V.nm := by
  refine ⟨?_, ?_, ?_, ?_, ?_⟩
  · show (V.ent a t).sl = V.sl; unfold Vl.ent; split <;> rfl
  · show (V.ent a t).tp = V.tp; unfold Vl.ent; split <;> rfl
  · show (V.ent a t).lg = V.lg; unfold Vl.ent; split <;> rfl
  · show (V.ent a t).rf = V.rf; unfold Vl.ent; split <;> rfl
  · show (V.ent a t).nm = V.nm; unfold Vl.ent; split <;> rfl
theorem crc_mem (s : List Nat) (m : Nat) : 32000 + memC (max (m / 32) ((endN (argN s 1) (argN s 2) + 31) / 32)) ≤ crcN s m + memC (m / 32) := by
  unfold crcN
  by_cases hc : (endN (argN s 1) (argN s 2) + 31) / 32 ≤ m / 32
  · rw [if_pos hc, Nat.max_eq_left hc]; omega
  · rw [if_neg hc, Nat.max_eq_right (by omega)]
    have := memC_mono (show m / 32 ≤ (endN (argN s 1) (argN s 2) + 31) / 32 by omega)
    omega
theorem NI.bd {I : Ent → Prop} {cb sz : Nat} {c : Nat → Value} {K : YK} {V : Vl} {σ : NS} {M G : List Ent} (h : NI I cb sz c K V σ M G) : NBd V σ := ⟨h.gm, h.md, h.ba, h.bs, h.bt, h.bj, h.bl, h.br⟩
theorem NBd.cr {V V' : Vl} {σ τ : NS} (h : NBd V σ) (hle : crcN σ.s σ.mem.length ≤ σ.gas) (hg : τ.gas = σ.gas - crcN σ.s σ.mem.length) (hm : τ.mem = growL σ.mem ((endN (argN σ.s 1) (argN σ.s 2) + 31) / 32)) (h1 : V'.ac.length ≤ V.ac.length + 4) (h2 : V'.sl = V.sl) (h3 : V'.tp = V.tp) (h4 : V'.jr.length ≤ V.jr.length + 4) (h5 : V'.lg = V.lg) (h6 : V'.rf = V.rf) : NBd V' τ := by
  have hc := crc_mem σ.s σ.mem.length
  have hge : 32000 ≤ crcN σ.s σ.mem.length := by unfold crcN; split <;> omega
  have hgl := growL_len (mem := σ.mem) (k := (endN (argN σ.s 1) (argN σ.s 2) + 31) / 32)
  have a1 := h.gm
  have a2 := h.ba
  have a3 := h.bs
  have a4 := h.bt
  have a5 := h.bj
  have a6 := h.bl
  have a7 := h.br
  refine ⟨?_, ?_, ?_, ?_, ?_, ?_, ?_, ?_⟩
  · rw [hg, hm, hgl.1]; omega
  · rw [hm]
    have hmd := h.md
    rcases Nat.lt_or_ge (σ.mem.length / 32) ((endN (argN σ.s 1) (argN σ.s 2) + 31) / 32) with hc | hc
    · rw [hgl.2.2.2.1 hc]; omega
    · rw [growL_same hc]; exact hmd
  · rw [hg]; omega
  · rw [hg, h2]; omega
  · rw [hg, h3]; omega
  · rw [hg]; omega
  · rw [hg, h5]; omega
  · rw [hg, h6]; omega
theorem crRJ {K : YK} {V V2 V3 V' : Vl} {σ : NS} (hR : RJ K V σ.w) (hC : CrK K σ) (h2 : ∃ t2, V2 = V.setA (adNo 1) t2 { V.acc' (adNo 1) with nonce := 2 } ⟨1, V.ix (adNo 1), (V.acc' (adNo 1)).nonce, 0, false⟩) (h3 : WmP V2 crAd V3) (h4 : ∃ t t', V' = crV { V3 with nm := 2 } t t') :
    RJ K V' (crW K σ.w) ∧ V'.ac.length ≤ V.ac.length + 4 ∧ V'.sl = V.sl ∧ V'.tp = V.tp ∧ V'.jr.length ≤ V.jr.length + 4 ∧ V'.lg = V.lg ∧ V'.rf = V.rf := by
  have hself := hC.self
  obtain ⟨t2, rfl⟩ := h2
  have r2 := hR.toRJ0.putN (adNo 1) 2 t2 (hself ▸ hC.ads)
  have o2 := setA_oth V (adNo 1) t2 { V.acc' (adNo 1) with nonce := 2 } ⟨1, V.ix (adNo 1), (V.acc' (adNo 1)).nonce, 0, false⟩
  have l2 := setA_lens V (adNo 1) t2 { V.acc' (adNo 1) with nonce := 2 } ⟨1, V.ix (adNo 1), (V.acc' (adNo 1)).nonce, 0, false⟩
  generalize V.setA (adNo 1) t2 { V.acc' (adNo 1) with nonce := 2 } ⟨1, V.ix (adNo 1), (V.acc' (adNo 1)).nonce, 0, false⟩ = W2 at *
  have R2 : RJ K W2 { σ.w with al := putA { getA σ.w.al (adNo 1) with nonce := 2 } σ.w.al } := ⟨r2, o2.2.2.2.2.trans hR.nm⟩
  obtain ⟨R3, g3⟩ := wmRJ R2 h3
  have o3 : V3.sl = W2.sl ∧ V3.tp = W2.tp ∧ V3.lg = W2.lg ∧ V3.rf = W2.rf := by
    rcases h3 with ⟨_, rfl⟩ | ⟨_, t, rfl⟩
    · exact ⟨rfl, rfl, rfl, rfl⟩
    · have := setA_oth W2 crAd t { W2.acc' crAd with warm := true } ⟨4, W2.ix crAd, 0, 0, (W2.acc' crAd).warm⟩
      exact ⟨this.1, this.2.1, this.2.2.1, this.2.2.2.1⟩
  have l3 := h3.lens
  obtain ⟨t, t', rfl⟩ := h4
  have r4 := R3.toRJ0.marks 2
  have r5 := r4.putN crAd 1 t (show (getA (putA { getA σ.w.al (adNo 1) with nonce := 2 } σ.w.al) crAd).addr = crAd from hself ▸ hC.adw)
  have o5 := setA_oth { V3 with nm := 2 } crAd t { ({ V3 with nm := 2 } : Vl).acc' crAd with nonce := 1 } ⟨1, ({ V3 with nm := 2 } : Vl).ix crAd, (({ V3 with nm := 2 } : Vl).acc' crAd).nonce, 0, false⟩
  have l5 := setA_lens { V3 with nm := 2 } crAd t { ({ V3 with nm := 2 } : Vl).acc' crAd with nonce := 1 } ⟨1, ({ V3 with nm := 2 } : Vl).ix crAd, (({ V3 with nm := 2 } : Vl).acc' crAd).nonce, 0, false⟩
  have q1 : ({ V3 with nm := 2 } : Vl).ac.length = V3.ac.length := rfl
  have q2 : ({ V3 with nm := 2 } : Vl).jr.length = V3.jr.length := rfl
  unfold crV
  generalize ({ V3 with nm := 2 } : Vl).setA crAd t { ({ V3 with nm := 2 } : Vl).acc' crAd with nonce := 1 } ⟨1, ({ V3 with nm := 2 } : Vl).ix crAd, (({ V3 with nm := 2 } : Vl).acc' crAd).nonce, 0, false⟩ = W5 at *
  have r6 := r5.made crAd t'
  have o6 := setA_oth W5 crAd t' { W5.acc' crAd with made := true } ⟨9, W5.ix crAd, 0, 0, (W5.acc' crAd).made⟩
  have l6 := setA_lens W5 crAd t' { W5.acc' crAd with made := true } ⟨9, W5.ix crAd, 0, 0, (W5.acc' crAd).made⟩
  refine ⟨⟨?_, ?_⟩, by omega, ?_, ?_, by omega, ?_, ?_⟩
  · unfold crW
    rw [hself]
    exact r6
  · rw [o6.2.2.2.2, o5.2.2.2.2]
    show 2 = (withA crAd σ.w.md).length + 1
    rw [hC.md]; rfl
  · rw [o6.1, o5.1]; exact o3.1.trans o2.1
  · rw [o6.2.1, o5.2.1]; exact o3.2.1.trans o2.2.1
  · rw [o6.2.2.1, o5.2.2.1]; exact o3.2.2.1.trans o2.2.2.1
  · rw [o6.2.2.2.1, o5.2.2.2.1]; exact o3.2.2.2.trans o2.2.2.2.1
section
variable {I : Ent → Prop} {cb sz : Nat} {T : TypeId} {c : Nat → Value} {K : YK} {V : Vl} {σ : NS} {M G : List Ent}
/-- mach.Machine.Step at CREATE -/
theorem mStep240 (h : NI I cb sz c K V σ M G) (ho : K.code.getD σ.pc 0 = 240) (hC : CrK K σ) (h512 : argN σ.s 2 ≤ 512) (hle : crcN σ.s σ.mem.length ≤ σ.gas) (hpb : σ.pc + 1 < 60000) :
    CallG Hvaf.prog 46 #[ptr cb 0] ⟨I, ⟨cb, sz, T, c⟩ :: (M ++ G)⟩ fun r S' => r = .bool true ∧ StX cb sz T c K σ.gas (.inl (crS K σ)) S' := by
  have hsz' : 2435 ≤ sz := by have := h.ei.eS; omega
  have h3 := hC.s3
  have hr := cr_far h hle
  have hadm := mAdP (o := 240) (tk := 3) (gv := 1) (sg := 32000) hsz' h.ei.eK h.ei.eM (by omega) (by omega) (by decide) (mPs240Y (T := T) h h512 hr hle)
  have hcm := crc_mem σ.s σ.mem.length
  have hge : 32000 ≤ crcN σ.s σ.mem.length := by unfold crcN; split <;> omega
  have hb0 : (V.acc K.self).bal = 0 := (h.rj.rel.acc K.self).2.1.symm.trans hC.bal
  have hn0 : (V.acc K.self).nonce = 1 := (h.rj.rel.acc K.self).1.symm.trans hC.non
  have hnn : (V.acc crAd).nonce = 0 := (h.rj.rel.acc crAd).1.symm.trans hC.nw.1
  have hcc : (V.acc crAd).code = [] := (h.rj.rel.acc crAd).2.2.symm.trans hC.nw.2
  have b1 := h.ba
  have b4 := h.bj
  have hnm : V.nm = 1 := by rw [h.rj.nm, hC.md]; rfl
  refine (mStP (o := 240) (Q := fun r S' => StX cb sz T c K σ.gas (.inl (crS K σ)) S') h.ei ho (by decide) hadm ?_).mono ?_
  · intro c' M' g1 g2 g3
    have hk : KeepC c c' := fun k x1 x2 x3 x4 x5 => g3 k (by omega) (by omega) x5
    have hei : EI I cb sz c' K V σ.pc (σ.gas - crcN σ.s σ.mem.length) σ.s (growL σ.mem ((endN (argN σ.s 1) (argN σ.s 2) + 31) / 32)) M' G := h.ei.move (fun _ h => h) hk g2 g1 (fun k x1 x2 => g3 k (by omega) (by omega) (by omega))
    rcases Nat.eq_zero_or_pos (argN σ.s 0) with hv | hv
    · have ecr : crS K σ = ⟨σ.pc + 1, σ.gas - crcN σ.s σ.mem.length, [bev crAd], growL σ.mem ((endN (argN σ.s 1) (argN σ.s 2) + 31) / 32), crW K σ.w⟩ := by
        unfold crS; rw [if_pos hv, if_pos hv, h3]; rfl
      rw [ecr]
      have hin : argN σ.s 2 = 0 ∨ argN σ.s 1 + argN σ.s 2 ≤ (growL σ.mem ((endN (argN σ.s 1) (argN σ.s 2) + 31) / 32)).length := by
        rcases Nat.eq_zero_or_pos (argN σ.s 2) with hz | hz
        · exact .inl hz
        · right
          have he : endN (argN σ.s 1) (argN σ.s 2) = argN σ.s 1 + argN σ.s 2 := by unfold endN; rw [if_neg (by omega)]
          rw [hC.mem, grow_nil, List.length_replicate, he]; omega
      refine (mExCr (mOpCrC (R := M') hei.eS hei.eA (fun x hx => List.mem_append_left _ hx) hei.eK hei.eM hei.eV hei.eO ho h3 hpb hv hC.self hb0 hn0 hin (by rw [hC.mem, grow_nil]; exact cut_zero _ _ _) hnn hcc hnm h512 (by omega) (by omega))).mono ?_
      rintro r S' hs ⟨r2, J, c2, G2, V2, V3, V', rfl, hCh, hV', hO', e2, e3, e4⟩
      replace hs : HL.Sub I J := hs
      obtain ⟨hRJ, l1, l2, l3, l4, l5, l6⟩ := crRJ h.rj hC e2 e3 e4
      right
      refine ⟨J, c2, V', M', G2, rfl, ⟨hei.eS, ?_, ⟨c', σ.pc, _, _, _, hCh, hei.eK.congr hs (fun _ _ _ _ _ _ => rfl), hk, rfl, ?_, hpb⟩, rfl, hV', hO', hRJ, ?_⟩, ?_⟩
      · have ot := hCh.ot
        refine hei.eA.cong ?_ ?_ ?_ ?_
        · exact (updNe (by decide)).trans (ot 1 (by decide) (by decide) (by decide) (by decide) (by decide) (by decide) (by decide) (by decide) (by decide) (by decide) (by decide))
        · exact (updNe (by decide)).trans (ot 2 (by decide) (by decide) (by decide) (by decide) (by decide) (by decide) (by decide) (by decide) (by decide) (by decide) (by decide))
        · exact (updNe (by decide)).trans (ot 3 (by decide) (by decide) (by decide) (by decide) (by decide) (by decide) (by decide) (by decide) (by decide) (by decide) (by decide))
        · exact updEq.trans hei.eA.tp.symm
      · show σ.gas - crcN σ.s σ.mem.length = _; omega
      · exact h.bd.cr hle rfl rfl l1 l2 l3 l4 l5 l6
      · show σ.gas - crcN σ.s σ.mem.length + 2 ≤ σ.gas; omega
    · have ecr : crS K σ = ⟨σ.pc + 1, σ.gas - crcN σ.s σ.mem.length, [0], growL σ.mem ((endN (argN σ.s 1) (argN σ.s 2) + 31) / 32), σ.w⟩ := by
        unfold crS; rw [if_neg (by omega), if_neg (by omega), h3]; rfl
      rw [ecr]
      refine (mExCr (OpP.ofSetP hei h.rj (σ := ⟨σ.pc + 1, σ.gas - crcN σ.s σ.mem.length, [0], growL σ.mem ((endN (argN σ.s 1) (argN σ.s 2) + 31) / 32), σ.w⟩) rfl rfl (mOpCrV (R := M') hei.eS hei.eK hei.eM hei.eV hei.eO ho h3 hpb hv hb0 hn0))).mono ?_
      rintro r S' hs ⟨r2, J, c2, V2, M2, G2, rfl, q2, q3, q4, q5⟩
      have z1 := q5.ga
      have z2 := q5.gs
      have z3 := q5.gt
      have z4 := q5.gj
      have z5 := q5.gl
      have z6 := q5.gr
      have a1 := h.gm
      have a3 := h.bs
      have a4 := h.bt
      have a6 := h.bl
      have a7 := h.br
      have hgl := growL_len (mem := σ.mem) (k := (endN (argN σ.s 1) (argN σ.s 2) + 31) / 32)
      left
      refine ⟨J, c2, V2, M2, G2, rfl, ⟨q2, q3, ?_, ?_, ?_, ?_, ?_, ?_, ?_, ?_⟩, hk.trans q4, ?_⟩
      · show σ.gas - crcN σ.s σ.mem.length + memC ((growL σ.mem ((endN (argN σ.s 1) (argN σ.s 2) + 31) / 32)).length / 32) ≤ _
        rw [hgl.1]; omega
      · show (growL σ.mem ((endN (argN σ.s 1) (argN σ.s 2) + 31) / 32)).length % 32 = 0
        have hmd := h.md
        rcases Nat.lt_or_ge (σ.mem.length / 32) ((endN (argN σ.s 1) (argN σ.s 2) + 31) / 32) with hc | hc
        · rw [hgl.2.2.2.1 hc]; omega
        · rw [growL_same hc]; exact hmd
      all_goals (first | (show σ.gas - crcN σ.s σ.mem.length + _ ≤ _; omega) | (show _ + 199 * (σ.gas - crcN σ.s σ.mem.length) ≤ _; omega) | (show σ.gas - crcN σ.s σ.mem.length < σ.gas; omega))
  · rintro r S' _ ⟨rfl, r2, hq⟩
    exact ⟨rfl, hq⟩
end
end Go.Proofs.YgvafwGreat
