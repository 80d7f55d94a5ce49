import Derived.Test.YgvafwGreatHB2
set_option linter.unusedVariables false
set_option linter.unusedSimpArgs false
namespace Go.HB
open Go.HL
section
variable {C : Cfg} {n : Nat} {ops : Array Oper} {msk rd fl : List Nat} {e0 : Env} {S0 : St} {F : Fr} {K : Env → St → Prop}
variable {listed : Array Bool} {a : Act} {w : World} {r : List Nat} {pend : List (Nat × Env × Value)} {e : Env} {S : St} {D : Nat → Prop} {val : Nat → Value} {ext : List (Nat × Ent)}

theorem fresh_run (hC : C.Ok) {op : Op} {ty : TypeId} {er : Env} (hc : opClass op = 1) (hok : freshOk C op er) (hsome : ∃ q, fresh C op er = some q) : ∃ sz t c v, fresh C op er = some (sz, t, c, v) ∧ OpG C.P op ty er S (fun u S' => ∃ b, u = v b ∧ S' = ⟨S.I, ⟨b, sz, t, c⟩ :: S.G⟩) := by
  obtain ⟨⟨sz, t, c, v⟩, hq⟩ := hsome
  refine ⟨sz, t, c, v, hq, opE_sound hC ?_⟩
  unfold fresh at hq
  split at hq
  · rename_i t'
    split at hq
    · rename_i ti hti
      cases hq
      simp only [opE, hti]
      exact fun b => ⟨b, rfl, rfl⟩
    · cases hq
  · rename_i t' len parts
    split at hq
    · rename_i i hi
      split at hq
      · rename_i j hj hk
        cases hq
        simp only [freshOk, hi, hj] at hok
        simp only [opE, hi, hj, hk]
        exact ⟨hok.1, hok.2, fun b => ⟨b, rfl, rfl⟩⟩
      · cases hq
    · cases hq
  · cases hq
/-- The machine takes operation k: whatever order it picks, it goes well. -/
theorem suf_tail : ∀ (r1 : List Nat) {l : List Nat}, suffB ops msk (r1 ++ l) = true → suffB ops msk l = true := by
  intro r1; induction r1 with
  | nil => intro l h; exact h
  | cons i r1 ih => intro l h; exact ih (suf_of h).tl

theorem Inv.run (hC : C.Ok) (O : OrdOk n ops msk) (hfl : ∀ i ∈ fl, ∃ o : Oper, ops[i]? = some o ∧ opClass o.op = 0) (hAl : ∀ (k : Nat) (o : Oper), ops[k]? = some o → opClass o.op = 1 → (∀ e, ∃ q, fresh C o.op e = some q) ∧ ∀ e : Env, (∀ i ∈ fl, Anc msk k i → ∀ d, dstOf ops i = some d → (e d).cells.size = 1) → freshOk C o.op e) {Q : Exit → Act → World → Prop}
    (hQ : ∀ e' S' a' w', Sim n a' e' → Holds S' F w' → Sub S0.I S'.I → K e' S' → Q .normal a' w') :
    ∀ (fuel : Nat) (listed : Array Bool) (a : Act) (w : World) (r : List Nat) (pend : List (Nat × Env × Value)) (e : Env) (S : St) (D : Nat → Prop) (val : Nat → Value) (ext : List (Nat × Ent)),
    Inv C n ops msk rd fl e0 S0 F K listed a w r pend e S D val ext → cnt listed ops.size ≤ fuel → wpAny C.P .any ops Q fuel listed a w := by
  have fin : ∀ (listed : Array Bool) (a : Act) (w : World) (r : List Nat) (pend : List (Nat × Env × Value)) (e : Env) (S : St) (D : Nat → Prop) (val : Nat → Value) (ext : List (Nat × Ent)),
      Inv C n ops msk rd fl e0 S0 F K listed a w r pend e S D val ext → (∀ i, i < ops.size → Lst listed i) → Q .normal a w := by
    intro listed a w r pend e S D val ext I hall
    obtain ⟨pend, e, S, D, val, ext, I⟩ := I.toEnd hC O hfl hall r pend e S D val ext
    have hext : ext = [] := by
      cases ext with
      | nil => rfl
      | cons p l =>
        obtain ⟨h1, h2, _⟩ := I.ex p.1 p.2 (by simp)
        exact absurd ((I.rem p.1 (h1.lt I.lsz)).2 (by simp)) h2
    subst hext
    obtain ⟨er, hs, her⟩ := I.er
    have : er = e := by
      funext t
      refine her.agree I.ec t fun i hi => ?_
      have hlt : i < ops.size := by
        unfold dstOf at hi
        rcases Nat.lt_or_ge i ops.size with h | h
        · exact h
        · simp [Array.getElem?_eq_none h] at hi
      exact ⟨fun _ => (I.rem i hlt).2 (by simp), fun _ => hall i hlt⟩
    subst this
    exact hQ _ _ _ _ hs (by simpa using I.holds) I.sub I.dr
  intro fuel
  induction fuel with
  | zero =>
    intro listed a w r pend e S D val ext I hc
    have hall : ∀ i, i < ops.size → Lst listed i := cnt_all _ (by omega)
    refine ⟨?_, fin _ _ _ _ _ _ _ _ _ _ I hall⟩
    cases hr : Region.ready .any ops listed with
    | nil => rfl
    | cons j l =>
      have hj : j ∈ Region.ready .any ops listed := by rw [hr]; simp
      obtain ⟨h1, o, ho, _⟩ := mem_ready.1 hj
      have hlt : j < ops.size := (Array.getElem?_eq_some_iff.1 ho).1
      have := hall j hlt
      unfold Lst at this
      have hsz := I.lsz
      simp [Array.getD, hsz, hlt] at this h1
      rw [h1] at this; cases this
  | succ fuel ih =>
    intro listed a w r pend e S D val ext I hc
    refine ⟨fun hr => ?_, fun k hk => ?_⟩
    · refine fin _ _ _ _ _ _ _ _ _ _ I fun i => ?_
      induction i using Nat.strongRecOn with
      | _ i ihi =>
        intro hi
        refine Classical.byContradiction fun hnl => ?_
        have ho := Array.getElem?_eq_getElem hi
        have hm : i ∈ Region.ready .any ops listed := by
          refine mem_ready.2 ⟨?_, ops[i], ho, fun ed hed hb => ?_⟩
          · unfold Lst at hnl; have hsz := I.lsz; simp [Array.getD, hsz, hi] at hnl ⊢; exact hnl
          · have hd : ed.on ∈ direct ops[i] := List.mem_map.2 ⟨ed, List.mem_filter.2 ⟨by simpa using hed, hb⟩, rfl⟩
            have hlt := O.edge i _ _ ho hd
            exact ihi ed.on hlt (by omega)
        rw [hr] at hm; cases hm
    · obtain ⟨hun, o, ho, hdep⟩ := mem_ready.1 hk
      have hlt : k < ops.size := (Array.getElem?_eq_some_iff.1 ho).1
      have hksz : k < listed.size := by rw [I.lsz]; exact hlt
      have hnL : ¬ Lst listed k := by
        unfold Lst; have hsz := I.lsz; simp [Array.getD, hsz, hlt] at hun ⊢; exact hun
      have hrd : ∀ j ∈ direct o, Lst listed j := by
        intro j hj
        obtain ⟨ed, hed, rfl⟩ := List.mem_map.1 hj
        obtain ⟨h1, h2⟩ := List.mem_filter.1 hed
        exact hdep ed (by simpa using h1) h2
      have hanc : ∀ j, Anc msk k j → Lst listed j := fun j hj => anc_listed (L := Lst listed) O.msk_eq I.closed k o j ho hrd hj
      have hnanc : ∀ j, Anc msk j k → ¬ Lst listed j := fun j hj hl => by
        have hjlt := hl.lt I.lsz
        exact hnL (anc_listed (L := Lst listed) O.msk_eq I.closed j ops[j] k (Array.getElem?_eq_getElem hjlt) (I.closed j _ (Array.getElem?_eq_getElem hjlt) hl) hj)
      have hcnt : cnt (listed.setIfInBounds k true) ops.size ≤ fuel := by
        have := cnt_set hksz (by unfold Lst at hnL; simpa using hnL) ops.size
        rw [if_pos hlt] at this; omega
      have hdst : dstOf ops k = o.dst := by simp [dstOf, ho]
      have hdlt : ∀ x, o.dst = some x → x < n := by
        intro x hx
        have := O.ok k o ho
        simp only [operOk, Bool.and_eq_true] at this
        have := this.1
        rw [hx] at this; simpa [optLt, Nat.blt_eq] using this
      have hclosed : ∀ i o', ops[i]? = some o' → Lst (listed.setIfInBounds k true) i → ∀ j ∈ direct o', Lst (listed.setIfInBounds k true) j := by
        intro i o' hi hl j hj
        rw [Lst_set hksz] at hl ⊢
        rcases hl with hl | rfl
        · exact .inl (I.closed i o' hi hl j hj)
        · rw [ho] at hi; cases hi; exact .inl (hrd j hj)
      -- a quiet operation that the canonical order has taken already
      have caseA : ∀ (r : List Nat) (pend : List (Nat × Env × Value)) (e : Env) (S : St) (D : Nat → Prop) (val : Nat → Value) (ext : List (Nat × Ent)),
          Inv C n ops msk rd fl e0 S0 F K listed a w r pend e S D val ext → D k → wpOp C.P ops Q k (wpAny C.P .any ops Q fuel (listed.setIfInBounds k true)) a w := by
        intro r pend e S D val ext I hD
        obtain ⟨o', Dk, ek, ho', hek, hsub, hak, hbk, hy⟩ := I.qu k hD hnL
        rw [ho] at ho'; cases ho'
        obtain ⟨er, hs, her⟩ := I.er
        have hag := agree_looks O ho hek her hak hanc hbk hnanc
        have hwant := wanted_wantE hs (O.ok k o ho)
        rw [← looks_want hag] at hwant
        have hnext : wpAny C.P .any ops Q fuel (listed.setIfInBounds k true) (a.put o.dst (val k)) w := by
          refine ih _ _ _ r pend e S D val ext ?_ hcnt
          have her' := her.put O.dist hnL (val k)
          rw [hdst] at her'
          have hup : updV val k (val k) = val := by
            funext j; by_cases h : j = k
            · subst h; rw [updV_same]
            · rw [updV_ne _ _ h]
          rw [hup] at her'
          refine ⟨by simpa using I.lsz, ⟨_, hs.put hdlt (val k), her'.sets fun i _ => (Lst_set hksz).symm⟩, I.ec, I.holds, I.sub, I.dr, I.suf, I.rem, I.dlt, hclosed, I.dclosed, ?_, ?_, I.fz, I.exnd, ?_⟩
          · intro i hi hnd
            rcases (Lst_set hksz).1 hi with h | rfl
            · exact I.al i h hnd
            · exact absurd hD hnd
          · intro i x hx
            obtain ⟨h1, h2, o', Di, ei, sz, t, c, v', h3, h4, h5, h6, h7, h8, h9, h10, h11⟩ := I.ex i x hx
            exact ⟨(Lst_set hksz).2 (.inl h1), h2, o', Di, ei, sz, t, c, v', h3, h4, h5, h6, h7, h8, fun j hj => (Lst_set hksz).2 (.inl (h9 j hj)), h10, h11⟩
          · intro i hi hnl
            exact I.qu i hi fun h => hnl ((Lst_set hksz).2 (.inl h))
        unfold wpOp
        simp only [ho]
        rcases hy with ⟨hw, hv⟩ | ⟨hw, hv⟩
        · rw [hwant, hw, if_pos rfl]
          refine .inl ?_
          have hq : QuV C.P o.op o.type ek S (val k) := by
            rcases hv with h | ⟨_, h⟩
            · exact h.of0 S
            · exact h
          have hrun := hq.out _ w I.holds
          rw [exec_eq (O.sel k o · · ho) hag, ← execOp_same] at hrun
          unfold Oper.wp
          rw [hs.eval, hrun]
          exact hnext
        · rw [hwant, hw, if_neg (by simp)]
          rw [← hv]; exact hnext
      by_cases hD : D k
      · exact caseA r pend e S D val ext I hD
      by_cases hal : opClass o.op = 1
      · -- a variable is made
        have hmem : k ∈ r := Classical.byContradiction fun h => hD ((I.rem k hlt).2 h)
        obtain ⟨r1, r2, hr⟩ := List.append_of_mem hmem
        have hsk := suf_of (suf_tail r1 (by have := I.suf; rw [hr] at this; exact this))
        obtain ⟨o', ho', _, hgd⟩ := hsk.ex
        rw [ho] at ho'; cases ho'
        have hg := (hgd hal).1
        obtain ⟨er, hs, her⟩ := I.er
        have hfo : freshOk C o.op er := (hAl k o ho hal).2 er fun i hi ha d hd => by
          have hLi := hanc i ha
          have hDi : D i := Classical.byContradiction fun hn => by
            obtain ⟨x, hx⟩ := I.al i hLi hn
            obtain ⟨_, _, o', _, _, _, _, _, _, ho', hc', _⟩ := I.ex i x hx
            obtain ⟨oi, hoi, hci⟩ := hfl i hi
            rw [hoi] at ho'; cases ho'
            rw [hci] at hc'; cases hc'
          rw [her.on i d hd hLi]
          exact I.fz i hi hDi
        obtain ⟨sz, t, c, vv, hfr, hopg⟩ := fresh_run (S := S) (ty := o.type) hC hal hfo ((hAl k o ho hal).1 er)
        unfold wpOp
        simp only [ho]
        rw [if_pos (by simp [Region.wanted, hg])]
        refine .inl (hopg.oper hs I.holds ?_)
        rintro v S' w' hh _ ⟨b, rfl, rfl⟩
        refine ih _ _ _ r pend e S D (updV val k (vv b)) ((k, ⟨b, sz, t, c⟩) :: ext) ?_ hcnt
        have her' := her.put O.dist hnL (vv b)
        rw [hdst] at her'
        refine ⟨by simpa using I.lsz, ⟨_, hs.put hdlt _, her'.sets fun i _ => (Lst_set hksz).symm⟩, I.ec.vals fun j hj => updV_ne _ _ fun h => hD (h ▸ hj), ?_, I.sub, I.dr, I.suf, I.rem, I.dlt, hclosed, I.dclosed, ?_, ?_, ?_, ?_, ?_⟩
        · exact hh.perm2 rfl (by simpa using List.perm_middle.symm)
        · intro i hi hnd
          rcases (Lst_set hksz).1 hi with h | rfl
          · obtain ⟨x, hx⟩ := I.al i h hnd; exact ⟨x, by simp [hx]⟩
          · exact ⟨_, List.mem_cons_self⟩
        · intro i x hx
          rcases List.mem_cons.1 hx with h | h
          · simp only [Prod.mk.injEq] at h
            obtain ⟨rfl, rfl⟩ := h
            exact ⟨(Lst_set hksz).2 (.inr rfl), hD, o, Lst listed, er, sz, t, c, vv, ho, hal, hfr, her.vals fun j hj => updV_ne _ _ fun h => hnL (h ▸ hj), hanc, hnanc, fun j hj => (Lst_set hksz).2 (.inl hj), rfl, by rw [updV_same]⟩
          · obtain ⟨h1, h2, o2, Di, ei, sz2, t2, c2, v2, h3, h4, h5, h6, h7, h8, h9, h10, h11⟩ := I.ex i x h
            have hik : i ≠ k := fun h => hnL (h ▸ h1)
            exact ⟨(Lst_set hksz).2 (.inl h1), h2, o2, Di, ei, sz2, t2, c2, v2, h3, h4, h5, h6.vals fun j hj => updV_ne _ _ fun h => hnL (h ▸ h9 j hj), h7, h8, fun j hj => (Lst_set hksz).2 (.inl (h9 j hj)), h10, by rw [updV_ne _ _ hik]; exact h11⟩
        · intro i hi hd
          have hik : i ≠ k := fun h => hD (h ▸ hd)
          rw [updV_ne _ _ hik]
          exact I.fz i hi hd
        · rw [List.pairwise_cons]
          exact ⟨fun p hp hpk => hnL (by have := (I.ex p.1 p.2 hp).1; have hpk' : k = p.1 := hpk; rw [hpk']; exact this), I.exnd⟩
        · intro i hi hnl
          obtain ⟨oj, Dj, ej, h1, h2, h3, h4, h5, h6⟩ := I.qu i hi fun h => hnl ((Lst_set hksz).2 (.inl h))
          have hik : i ≠ k := fun h => hD (h ▸ hi)
          refine ⟨oj, Dj, ej, h1, h2.vals fun j hj => updV_ne _ _ fun h => hD (h ▸ h3 j hj), h3, h4, h5, ?_⟩
          rw [updV_ne _ _ hik]; exact h6
      · have hmem : k ∈ r := Classical.byContradiction fun h => hD ((I.rem k hlt).2 h)
        obtain ⟨r1, r2, rfl⟩ := List.append_of_mem hmem
        obtain ⟨pend, e, S, D, val, ext, I⟩ := Inv.toHead hC O hfl ho hal hrd I.closed r1 r2 pend e S D val ext I
        by_cases hq : opClass o.op = 0
        · obtain ⟨pend', e', val', I', _⟩ := I.quiet hC O ho hq
          exact caseA _ _ _ _ _ _ _ I' (.inr rfl)
        · have hsuf := suf_of I.suf
          have hnD : ¬ D k := fun h => (I.rem k hlt).1 h (by simp)
          obtain ⟨er, hs, her⟩ := I.er
          have hda : ∀ j, Anc msk k j → D j := fun j ha => by
            have hj := anc_lt O _ j hlt ha
            exact (I.rem j (by omega)).2 fun hm => hsuf.anc j hm ha
          have hag : ∀ t ∈ o.looksAt ops, e t = er t := agree_looks O ho I.ec her hda hanc (fun j ha hj => hnD (I.dclosed j _ hj ha)) hnanc
          have hwant := wanted_wantE hs (O.ok k o ho)
          rw [← looks_want hag] at hwant
          have hdr := I.dr
          unfold drawE at hdr
          rw [ho] at hdr
          -- what holds behind it
          have next : ∀ (v : Value) (S' : St) (w' : World), Holds S' (F.app (ext.map (·.2))) w' → Sub S.I S'.I → drawE C ops msk rd fl K r2 pend (put e o.dst v) S' →
              (∀ i ei oi, (i, ei, val i) ∈ pend → ops[i]? = some oi → ¬ Anc msk k i → QuV C.P oi.op oi.type ei S (val i) → QuV C.P oi.op oi.type ei S' (val i)) →
              wpAny C.P .any ops Q fuel (listed.setIfInBounds k true) (a.put o.dst v) w' := by
            intro v S' w' hh hsub hd hst
            refine ih _ _ _ r2 pend (put e o.dst v) S' (fun j => D j ∨ j = k) (updV val k v) ext ?_ hcnt
            have her' := her.put O.dist hnL v
            have hec' := I.ec.put O.dist hnD v
            rw [hdst] at her' hec'
            refine ⟨by simpa using I.lsz, ⟨_, hs.put hdlt _, her'.sets fun i _ => (Lst_set hksz).symm⟩, hec', hh, I.sub.trans hsub, hd, hsuf.tl, ?_, ?_, hclosed, ?_, ?_, ?_, ?_, I.exnd, ?_⟩
            · intro j hj
              have := I.rem j hj
              by_cases hji : j = k
              · subst hji; exact ⟨fun _ => hsuf.nd, fun _ => .inr rfl⟩
              · simp only [List.mem_cons, not_or] at this
                constructor
                · rintro (h | h)
                  · exact (this.1 h).2
                  · exact absurd h hji
                · exact fun h => .inl (this.2 ⟨hji, h⟩)
            · rintro j (h | rfl)
              · exact I.dlt j h
              · exact hlt
            · rintro j i (h | rfl) ha
              · exact .inl (I.dclosed j i h ha)
              · exact .inl (hda i ha)
            · intro i hi hnd
              rcases (Lst_set hksz).1 hi with h | rfl
              · exact I.al i h fun h' => hnd (.inl h')
              · exact absurd (.inr rfl) hnd
            · intro i x hx
              obtain ⟨h1, h2, o2, Di, ei, sz2, t2, c2, v2, h3, h4, h5, h6, h7, h8, h9, h10, h11⟩ := I.ex i x hx
              have hik : i ≠ k := fun h => hnL (h ▸ h1)
              exact ⟨(Lst_set hksz).2 (.inl h1), fun h => h.elim h2 hik, o2, Di, ei, sz2, t2, c2, v2, h3, h4, h5, h6.vals fun j hj => updV_ne _ _ fun h => hnL (h ▸ h9 j hj), h7, h8, fun j hj => (Lst_set hksz).2 (.inl (h9 j hj)), h10, by rw [updV_ne _ _ hik]; exact h11⟩
            · intro i hi hd
              have hik : i ≠ k := fun h => by
                subst h
                obtain ⟨oi, hoi, hci⟩ := hfl i hi
                rw [ho] at hoi; cases hoi
                exact hq hci
              rw [updV_ne _ _ hik]
              exact I.fz i hi (hd.elim id fun h => absurd h hik)
            · rintro i (hi | rfl) hnl
              · have hnli : ¬ Lst listed i := fun h => hnl ((Lst_set hksz).2 (.inl h))
                obtain ⟨oj, Dj, ej, h1, h2, h3, h4, h5, h6⟩ := I.qu i hi hnli
                have hik : i ≠ k := fun h => hnD (h ▸ hi)
                refine ⟨oj, Dj, ej, h1, h2.vals fun j hj => updV_ne _ _ fun h => hnD (h ▸ h3 j hj), fun j hj => .inl (h3 j hj), h4, h5, ?_⟩
                rw [updV_ne _ _ hik]
                rcases h6 with ⟨hw, h | ⟨h, h'⟩⟩ | h
                · exact .inl ⟨hw, .inl h⟩
                · exact .inl ⟨hw, .inr ⟨h, hst i ej oj h h1 (fun ha => hnli (hanc i ha)) h'⟩⟩
                · exact .inr h
              · exact absurd ((Lst_set hksz).2 (.inr rfl)) hnl
          have hdr' : guardW ops e o (fun e => opE C o.op o.type e S fun v S' => stillE C.P ops S' (pend.filter fun p => !(msk.getD k 0).testBit p.1) (drawE C ops msk rd fl K r2 pend (put e o.dst v) S')) (fun e => drawE C ops msk rd fl K r2 pend (put e o.dst undef) S) := by
            simp only at hdr
            split at hdr
            · rename_i h; exact absurd h hq
            · rename_i h; exact absurd h hq
            · rename_i h; exact absurd h hal
            · exact hdr
          unfold wpOp
          simp only [ho]
          rcases guardW_cases hdr' with ⟨hw, hx⟩ | ⟨hw, hx⟩
          · rw [hwant, hw, if_pos rfl]
            refine .inl (((opE_sound hC hx).env (O.sel k o · · ho) hag).oper hs I.holds ?_)
            intro v S' w' hh hsub hst
            obtain ⟨hd, hst⟩ := still_mem _ hst
            refine next v S' w' hh hsub hd fun i ei oi hm hoi hna _ => hst i ei (val i) oi ?_ hoi
            refine List.mem_filter.2 ⟨hm, ?_⟩
            unfold Anc at hna
            simpa using hna
          · rw [hwant, hw, if_neg (by simp)]
            exact next undef S w I.holds (.refl _) hx fun i ei oi _ _ _ h => h

theorem ord_of {ord : List Nat} (h : drawOk n ops msk ord = true) : OrdOk n ops msk ∧ suffB ops msk ord = true ∧ (∀ i, i < ops.size → i ∈ ord) := by
  simp only [drawOk, Bool.and_eq_true] at h
  obtain ⟨⟨⟨⟨⟨⟨⟨h1, h2⟩, h3⟩, h4⟩, h5⟩, h6⟩, h7⟩, h8⟩ := h
  have hsl := List.all_eq_true.1 h7
  have hlt : ∀ i d, dstOf ops i = some d → i < ops.size := by
    intro i d hi
    unfold dstOf at hi
    rcases Nat.lt_or_ge i ops.size with h | h
    · exact h
    · simp [Array.getElem?_eq_none h] at hi
  have hsl2 : ∀ i k d o, dstOf ops i = some d → ops[k]? = some o → (k = i ∨ dstOf ops k ≠ some d) ∧ (d ∈ o.looksAt ops → k ≠ i ∧ (Anc msk k i ∨ Anc msk i k)) := by
    intro i k d o hi hk
    have := hsl i (List.mem_range.2 (hlt i d hi))
    rw [hi] at this
    have := List.all_eq_true.1 this k (List.mem_range.2 (Array.getElem?_eq_some_iff.1 hk).1)
    simp only [hk, Bool.and_eq_true, Bool.or_eq_true, beq_iff_eq, bne_iff_ne, Bool.not_eq_true', tmpsOf] at this
    refine ⟨this.1, fun hd => ?_⟩
    rcases this.2 with h | h
    · have : (o.looksAt ops).contains d = true := by simpa using hd
      rw [h] at this; cases this
    · exact h
  refine ⟨⟨fun i o ho => ?_, fun i o cs b ho => Region.noSelect_spec h2 i o cs b ho, by simpa using h3, fun i k d hi hk => ?_, fun i k d o hi hk hd => (hsl2 i k d o hi hk).2 hd, fun i o k ho hk => ?_⟩, h6, fun i hi => ?_⟩
  · exact List.all_eq_true.1 h1 o (by simpa using Array.mem_of_getElem? ho)
  · have hk' := hlt k d hk
    rcases (hsl2 i k d ops[k] hi (Array.getElem?_eq_getElem hk')).1 with h | h
    · exact h.symm
    · exact absurd hk h
  · have := List.all_eq_true.1 h8 i (List.mem_range.2 (Array.getElem?_eq_some_iff.1 ho).1)
    rw [ho] at this
    have := List.all_eq_true.1 this k hk
    simpa [Nat.blt_eq] using this
  · have := List.all_eq_true.1 h4 i (List.mem_range.2 hi)
    simpa using this

theorem okB_spec (h : okB C.D ops msk fl = true) : (∀ i ∈ fl, ∃ o : Oper, ops[i]? = some o ∧ opClass o.op = 0) ∧ ∀ (k : Nat) (o : Oper), ops[k]? = some o → opClass o.op = 1 → (∀ e, ∃ q, fresh C o.op e = some q) ∧ ∀ e : Env, (∀ i ∈ fl, Anc msk k i → ∀ d, dstOf ops i = some d → (e d).cells.size = 1) → freshOk C o.op e := by
  unfold okB at h
  rw [Bool.and_eq_true] at h
  obtain ⟨h1, h2⟩ := h
  refine ⟨fun i hi => ?_, fun k o ho hc => ?_⟩
  · have := List.all_eq_true.1 h2 i hi
    split at this
    · rename_i o ho; exact ⟨o, ho, by simpa using this⟩
    · cases this
  · have hk := List.all_eq_true.1 h1 k (List.mem_range.2 (Array.getElem?_eq_some_iff.1 ho).1)
    rw [ho] at hk
    simp only at hk
    generalize o.op = op at hc hk ⊢
    unfold opClass at hc
    split at hk
    · rename_i t
      obtain ⟨ti, hti⟩ := Option.isSome_iff_exists.1 hk
      exact ⟨fun e => ⟨_, by simp only [fresh, hti]; rfl⟩, fun e _ => trivial⟩
    · rename_i t len parts
      split at hk
      · rename_i i hi
        split at hk
        · rename_i j hj
          simp only [Bool.and_eq_true, beq_iff_eq, Nat.blt_eq, Nat.ble_eq, List.all_eq_true] at hk
          obtain ⟨⟨⟨⟨k4, j1⟩, l0⟩, l1⟩, hp⟩ := hk
          refine ⟨fun e => ⟨_, by simp only [fresh, hi, hj, k4]; rfl⟩, fun e he => ?_⟩
          simp only [freshOk, hi, hj, j1, Nat.mul_one]
          refine ⟨⟨l0, by omega⟩, ?_⟩
          have : ∀ l : List (Nat × Operand), (∀ p ∈ l, p ∈ parts.toList) → fillOk len (l.map fun p => (p.1, 1, ev e p.2)) := by
            intro l
            induction l with
            | nil => intro _; trivial
            | cons p l ih =>
              intro hl
              refine ⟨⟨?_, ?_⟩, ih fun q hq => hl q (List.mem_cons_of_mem _ hq)⟩
              · have hq := (hp p (hl p List.mem_cons_self)).2
                split at hq
                · rename_i v hv; rw [hv]; show v.cells.size = 1; simpa using hq
                · rename_i d hd
                  rw [hd]
                  obtain ⟨i2, hi2, hq2⟩ := List.any_eq_true.1 hq
                  rw [Bool.and_eq_true, beq_iff_eq] at hq2
                  exact he i2 hi2 hq2.2 d hq2.1
                · cases hq
              · have := (hp p (hl p List.mem_cons_self)).1
                omega
          exact this _ fun p hp => hp
        · cases hk
      · cases hk
    · rename_i h3 h4
      exfalso
      split at hc
      · exact h4 _ _ _ rfl
      · unfold HL.opClass at hc
        split at hc <;> first | (cases hc; done) | exact h3 _ rfl

/-- **A region that draws its order, run in one order.** -/
theorem W.drawB (id : Nat) (hC : C.Ok) {Q : HPost} (msk ord rd fl : List Nat) (hok : drawOk n ops msk ord = true) (hal : okB C.D ops msk fl = true)
    (h : drawE C ops msk rd fl (fun e S => Q .normal e S) ord [] e S) : GW C.P n (.region id ops true) e S Q := by
  obtain ⟨O, hsuf, hall⟩ := ord_of hok
  refine ⟨fun F a w hs hw => wp_region_any hC.mixed ?_⟩
  obtain ⟨hfl, hAl⟩ := okB_spec hal
  have hnl : ∀ i, ¬ Lst (Array.replicate ops.size false) i := by
    intro i hi
    unfold Lst at hi
    simp only [Array.getD_eq_getD_getElem?, Array.getElem?_replicate] at hi
    split at hi <;> simp at hi
  refine Inv.run (rd := rd) (fl := fl) (e0 := e) (S0 := S) (F := F) (K := fun e S => Q .normal e S) hC O hfl hAl ?_ ops.size _ a _ ord [] e S (fun i => i < ops.size ∧ i ∉ ord) (fun _ => undef) [] ?_ ?_
  · intro e' S' a' w' h1 h2 h3 h4; exact ⟨e', S', h1, h2, h3, h4⟩
  · refine ⟨by simp, ⟨e, hs, ⟨fun i d _ hi => absurd hi (hnl i), fun _ _ _ _ => rfl, fun _ _ => rfl⟩⟩, ⟨fun i d _ hi => absurd (hall i hi.1) hi.2, fun _ _ _ _ => rfl, fun _ _ => rfl⟩, hw.drew rfl rfl rfl rfl, .refl _, h, hsuf, ?_, fun i hi => hi.1,
      fun i o _ hi => absurd hi (hnl i), fun i j hi => absurd (hall i hi.1) hi.2, fun i hi => absurd hi (hnl i), fun i x hx => by simp at hx, fun i _ hi => absurd (hall i hi.1) hi.2, by simp, fun i hi => absurd (hall i hi.1) hi.2⟩
    intro i hi
    exact ⟨fun h => h.2, fun h => ⟨hi, h⟩⟩
  · have : ∀ m, cnt (Array.replicate ops.size false) m ≤ m := by
      intro m; induction m with
      | zero => simp [cnt]
      | succ m ih => simp only [cnt]; split <;> omega
    exact this _
end
end Go.HB
