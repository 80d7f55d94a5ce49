import Derived.Test.YgvafwGreatY67
import Derived.Test.YgvafwGreatY40
import Derived.Test.YgvafwGreatY41b
import Derived.Test.YgvafwGreatY23
set_option exponentiation.threshold 1000
set_option maxRecDepth 100000
set_option maxHeartbeats 4000000
set_option linter.unusedVariables false
set_option linter.unusedSimpArgs false
-- v2
-- v4
-- v5
-- v6
-- v7
namespace Go.Proofs.YgvafwGreat
open Go.HL Go.Proofs

/-- yp.State.refusal, whole -/
theorem yRefN {I : Ent → Prop} {G : List Ent} {sb ssz fb fsz pc gas o : Nat} {Ts Tf : TypeId} {cs cf : Nat → Value} {K : YK} {w : YW} {s mem : List Nat} {M : List Ent} (hsz : 11 ≤ ssz) (hfz : 60 ≤ fsz) (hC : CsI I cs cf K w pc gas s) (hM : MemO (cf 9) mem M) (hret : cs 10 = .slice none 0 0) (ho : o < 256) (h16 : famN o ≠ 16 ∨ s.length < (arN o).1) :
    CallG Hvaf.prog 68 #[ptr sb 0, ptr fb 0, .int .u8 (o : Nat)] ⟨I, ⟨sb, ssz, Ts, cs⟩ :: ⟨fb, fsz, Tf, cf⟩ :: G⟩ (RefP I (⟨sb, ssz, Ts, cs⟩ :: ⟨fb, fsz, Tf, cf⟩ :: G) (refN K w s gas mem.length o) (costN K w s mem.length o)) := by
  have hb : (arN o).1 < 20 ∧ (arN o).2.1 < 20 ∧ (arN o).2.2 = decide (famN o ≠ 0) := (by decide +kernel : ∀ o, o < 256 → (arN o).1 < 20 ∧ (arN o).2.1 < 20 ∧ (arN o).2.2 = decide (famN o ≠ 0)) o ho
  by_cases hf : famN o = 0
  · have e : refN K w s gas mem.length o = 5 := by unfold refN; rw [if_pos hf]
    rw [e]; exact yRef0 (by omega) hfz hC ho hb hf
  by_cases h1 : s.length < (arN o).1
  · have e : refN K w s gas mem.length o = 3 := by unfold refN; rw [if_neg hf, if_pos h1]
    rw [e]; exact yRef1 (by omega) hfz hC ho hb hf h1
  by_cases h2 : 64 < s.length - (arN o).1 + (arN o).2.1
  · have e : refN K w s gas mem.length o = 4 := by unfold refN; rw [if_neg hf, if_neg h1, if_pos h2]
    rw [e]; exact yRef2 (by omega) hfz hC ho hb hf h1 h2
  replace h16 : famN o ≠ 16 := h16.resolve_right h1
  have hk : opOk o = true := by simp [opOk, hf, h16, ho]
  have hb' : (arN o).1 < 20 ∧ (arN o).2.1 < 20 ∧ (arN o).2.2 = true := ⟨hb.1, hb.2.1, by rw [hb.2.2]; simp [hf]⟩
  by_cases c62 : o = 62
  · subst c62
    by_cases hz0 : argN s 1 + argN s 2 = 0
    · by_cases hg : gas < costN K w s mem.length 62
      · have e : refN K w s gas mem.length 62 = 2 := by unfold refN; rw [if_neg hf, if_neg h1, if_neg h2, if_neg (by omega), if_pos hg]
        rw [e]; exact yRef62g hsz hfz hC hM hret h1 hz0 hg
      · have e : refN K w s gas mem.length 62 = 0 := by unfold refN; rw [if_neg hf, if_neg h1, if_neg h2, if_neg (by omega), if_neg hg, if_neg (fun h => absurd h.1 (by decide)), if_neg (fun h => absurd h.1 (by decide)), if_neg (fun h => absurd h.1 (by decide))]
        rw [e]; exact yRef62 hsz hfz hC hM hret h1 hz0 hg
    · have e : refN K w s gas mem.length 62 = 8 := by unfold refN; rw [if_neg hf, if_neg h1, if_neg h2, if_pos ⟨rfl, hz0⟩]
      rw [e]; exact yRef62b hsz hfz hC hM hret h1 hz0
  have c62' : ¬ (o = 62 ∧ argN s 1 + argN s 2 ≠ 0) := fun h => c62 h.1
  by_cases c85 : o = 85
  · subst c85
    by_cases hg : gas < costN K w s mem.length 85
    · have e : refN K w s gas mem.length 85 = 2 := by unfold refN; rw [if_neg hf, if_neg h1, if_neg h2, if_neg c62', if_pos hg]
      rw [e]; exact yRef85g hsz hfz hC hM hret h1 hg
    · by_cases hl : gas ≤ 2300
      · have e : refN K w s gas mem.length 85 = 2 := by unfold refN; rw [if_neg hf, if_neg h1, if_neg h2, if_neg c62', if_neg hg, if_pos ⟨rfl, hl⟩]
        rw [e]; exact yRef85b hsz hfz hC hM hret h1 hg hl
      · have e : refN K w s gas mem.length 85 = 0 := by unfold refN; rw [if_neg hf, if_neg h1, if_neg h2, if_neg c62', if_neg hg, if_neg (fun h => hl h.2), if_neg (fun h => absurd h.1 (by decide)), if_neg (fun h => absurd h.1 (by decide))]
        rw [e]; exact yRef85 hsz hfz hC hM hret h1 hg hl
  have c85' : ¬ (o = 85 ∧ gas ≤ 2300) := fun h => c85 h.1
  by_cases c86 : o = 86
  · subst c86
    by_cases hg : gas < costN K w s mem.length 86
    · have e : refN K w s gas mem.length 86 = 2 := by unfold refN; rw [if_neg hf, if_neg h1, if_neg h2, if_neg c62', if_pos hg]
      rw [e]; exact yRef86g hsz hfz hC hM hret h1 hg
    · cases hd : destN K.code (argN s 0)
      · have e : refN K w s gas mem.length 86 = 6 := by unfold refN; rw [if_neg hf, if_neg h1, if_neg h2, if_neg c62', if_neg hg, if_neg c85', if_pos ⟨rfl, hd⟩]
        rw [e]; exact yRef86b hsz hfz hC hM hret h1 hg hd
      · have e : refN K w s gas mem.length 86 = 0 := by unfold refN; rw [if_neg hf, if_neg h1, if_neg h2, if_neg c62', if_neg hg, if_neg c85', if_neg (fun h => by rw [hd] at h; exact absurd h.2 (by decide)), if_neg (fun h => absurd h.1 (by decide))]
        rw [e]; exact yRef86 hsz hfz hC hM hret h1 hg hd
  have c86' : ¬ (o = 86 ∧ destN K.code (argN s 0) = false) := fun h => c86 h.1
  by_cases c87 : o = 87
  · subst c87
    by_cases hg : gas < costN K w s mem.length 87
    · have e : refN K w s gas mem.length 87 = 2 := by unfold refN; rw [if_neg hf, if_neg h1, if_neg h2, if_neg c62', if_pos hg]
      rw [e]; exact yRef87g hsz hfz hC hM hret h1 hg
    · by_cases hz0 : argN s 1 = 0
      · have e : refN K w s gas mem.length 87 = 0 := by unfold refN; rw [if_neg hf, if_neg h1, if_neg h2, if_neg c62', if_neg hg, if_neg c85', if_neg c86', if_neg (fun h => h.2.1 hz0)]
        rw [e]; exact yRef87z hsz hfz hC hM hret h1 hg hz0
      · cases hd : destN K.code (argN s 0)
        · have e : refN K w s gas mem.length 87 = 6 := by unfold refN; rw [if_neg hf, if_neg h1, if_neg h2, if_neg c62', if_neg hg, if_neg c85', if_neg c86', if_pos ⟨rfl, hz0, hd⟩]
          rw [e]; exact yRef87b hsz hfz hC hM hret h1 hg hz0 hd
        · have e : refN K w s gas mem.length 87 = 0 := by unfold refN; rw [if_neg hf, if_neg h1, if_neg h2, if_neg c62', if_neg hg, if_neg c85', if_neg c86', if_neg (fun h => by rw [hd] at h; exact absurd h.2.2 (by decide))]
          rw [e]; exact yRef87 hsz hfz hC hM hret h1 hg hz0 hd
  have c87' : ¬ (o = 87 ∧ argN s 1 ≠ 0 ∧ destN K.code (argN s 0) = false) := fun h => c87 h.1
  have n5 : o ≠ 240 := by rintro rfl; exact h16 (by decide +kernel)
  have n6 : o ≠ 245 := by rintro rfl; exact h16 (by decide +kernel)
  by_cases hg : gas < costN K w s mem.length o
  · have e : refN K w s gas mem.length o = 2 := by unfold refN; rw [if_neg hf, if_neg h1, if_neg h2, if_neg c62', if_pos hg]
    rw [e]; exact yRefPg hsz hfz hC hM hret ho hk hb' h1 h2 c62 c85 c86 c87 n5 n6 hg
  · have e : refN K w s gas mem.length o = 0 := by unfold refN; rw [if_neg hf, if_neg h1, if_neg h2, if_neg c62', if_neg hg, if_neg c85', if_neg c86', if_neg c87']
    rw [e]; exact yRefP hsz hfz hC hM hret ho hk hb' h1 h2 c62 c85 c86 c87 n5 n6 hg
theorem refN_ge {K : YK} {w : YW} {s : List Nat} {gas m o : Nat} (h : refN K w s gas m o ≠ 0) : 2 ≤ refN K w s gas m o ∧ refN K w s gas m o < 256 := by
  unfold refN at h ⊢
  repeat' split
  all_goals first | (exact ⟨by decide, by decide⟩) | skip
  all_goals (exfalso; apply h; simp_all)
/-- yp.Frame.grow behind the state -/
theorem yGrow2 {I : Ent → Prop} {M ML : List Ent} {fb sz to : Nat} {T : TypeId} {c : Nat → Value} {mem : List Nat} {v : Value} {x : Ent} (hsz : 60 ≤ sz) (hm : MemO (c 9) mem M) (hN : NatI I v to) (hto : to < 2 ^ 29) :
    CallG Hvaf.prog 70 #[ptr fb 0, v] ⟨I, x :: ⟨fb, sz, T, c⟩ :: (M ++ ML)⟩ fun r S' => ∃ J w M', S' = ⟨J, x :: ⟨fb, sz, T, upd c 9 w⟩ :: (M' ++ ML)⟩ ∧ MemO w (growL mem ((to + 31) / 32)) M' := by
  refine CallG.perm (x :: ⟨fb, sz, T, c⟩ :: (ML ++ M)) (.cons _ (.cons _ List.perm_append_comm)) ?_
  refine CallG.post ?_
  refine CallG.behind [x] (yGrow (G := ML) hsz hm hN hto) ?_
  rintro r J _ hs ⟨J2, w, M', e, hm'⟩
  cases e
  exact Rel.perm (x :: ⟨fb, sz, T, upd c 9 w⟩ :: (M' ++ ML)) [] (by rw [List.append_nil]; exact .cons _ (.cons _ List.perm_append_comm)) ⟨_, w, M', rfl, hm'⟩
theorem MemO.isl {v : Value} {mem : List Nat} {M : List Ent} (h : MemO v mem M) : one v = true := by
  rcases h.out with ⟨rfl, _⟩ | ⟨b, c, rfl, _⟩ <;> rfl
theorem YF.paid {I J : Ent → Prop} {cf : Nat → Value} {K : YK} {pc gas gas' : Nat} {s : List Nat} {gv mv : Value} (h0 : YF I cf K pc gas s) (hs : Sub I J) (hg : NatI J gv gas') : YF J (upd (upd cf 4 gv) 9 mv) K pc gas' s := by
  have h := h0.up hs
  have e : ∀ k, 10 ≤ k → upd (upd cf 4 gv) 9 mv k = cf k := fun k hk => by rw [upd_ne (by omega), upd_ne (by omega)]
  have e52 : (fun k => upd (upd cf 4 gv) 9 mv (52 + k)) = fun k => cf (52 + k) := funext fun k => e _ (by omega)
  exact ⟨h.fk, h.fn, h.fs, h.fpc, hg, h.fval, h.fstk, h.fb, h.fl, h.fcode, h.finp, Row.keep h.fself fun k hk => e k (by omega), Row.keep h.fcall fun k hk => e k (by omega), e52.symm ▸ h.fsave, h.fsl⟩
/-- The gas cell alone. -/
theorem YF.gas {I J : Ent → Prop} {cf : Nat → Value} {K : YK} {pc gas gas' : Nat} {s : List Nat} {gv : Value} (h0 : YF I cf K pc gas s) (hs : Sub I J) (hg : NatI J gv gas') : YF J (upd cf 4 gv) K pc gas' s := by
  have h := h0.up hs
  have e : ∀ k, 10 ≤ k → upd cf 4 gv k = cf k := fun k hk => by rw [upd_ne (by omega)]
  have e52 : (fun k => upd cf 4 gv (52 + k)) = fun k => cf (52 + k) := funext fun k => e _ (by omega)
  exact ⟨h.fk, h.fn, h.fs, h.fpc, hg, h.fval, h.fstk, h.fb, h.fl, h.fcode, h.finp, Row.keep h.fself fun k hk => e k (by omega), Row.keep h.fcall fun k hk => e k (by omega), e52.symm ▸ h.fsave, h.fsl⟩
theorem YI.paid {I J : Ent → Prop} {fb o : Nat} {cs cf : Nat → Value} {K : YK} {σ : NS} {M M' ML : List Ent} {gv mv : Value} (h : YI I fb cs cf K σ M ML) (hs : Sub I J) (hg : NatI J gv (paidN K σ o).gas) (hm : MemO mv (paidN K σ o).mem M') :
    YI J fb cs (upd (upd cf 4 gv) 9 mv) K (paidN K σ o) M' ML := by
  refine ⟨⟨h.c.W.up hs, h.c.F.paid hs hg, h.c.S.up hs, h.c.B, h.c.KB⟩, h.e.up hs, hm, h.l.up hs, h.fr, fun k hk => ?_⟩
  unfold upd
  split
  · exact hm.isl
  · split
    · exact NatI.isl hg
    · exact h.o1 k hk
/-- What Step leaves where the frame ends. -/
structure EndY (J : Ent → Prop) (cs cs' : Nat → Value) (e : NE) (ML' : List Ent) : Prop where
  w : YWI J cs' e.w
  l : LogO J (cs' 4) e.w.lg ML'
  fr : cs' 9 = .slice none 0 0
  rt : Byt ⟨J, []⟩ (cs' 10) e.out
  ph : cs' 11 = .int .u8 2
  st : cs' 12 = .int .u8 (e.st : Nat)
  gs : NatI J (cs' 16) e.gas
  rs : ∀ k, 12 < k → k ≠ 16 → cs' k = cs k
  r8 : cs' 8 = cs 8
def StY (sb ssz fb fsz : Nat) (Ts Tf : TypeId) (cs : Nat → Value) (K : YK) : NS ⊕ NE → St → Prop
  | .inl σ', S' => PlY sb ssz fb fsz Ts Tf cs K σ' S'
  | .inr e, S' => ∃ J cs' R ML', S' = ⟨J, ⟨sb, ssz, Ts, cs'⟩ :: (R ++ ML')⟩ ∧ EndY J cs cs' e ML'
theorem LogO.none (I : Ent → Prop) : LogO I (.slice none 0 0) [] [] := ⟨[], ⟨by simp, .inl ⟨rfl, rfl, rfl⟩⟩, L2.nil _ _⟩
/-- the frame has failed -/
theorem endF {J : Ent → Prop} {fb st : Nat} {cs cs' cf : Nat → Value} {K : YK} {σ : NS} {M ML : List Ent} (h : YI J fb cs cf K σ M ML) (h0 : K.w0.lg = []) (hv : LvP cs cs' (fun k => cf (52 + k)) (.slice none 0 0) (.slice none 0 0) st) : EndY J cs cs' ⟨st, 0, [], K.w0⟩ [] :=
  ⟨YWI.congr h.c.F.fsave fun k hk => hv.nw k hk, by
    show LogO J (cs' 4) K.w0.lg []
    rw [hv.nw 4 (by decide), h0, h.c.F.fsl]; exact LogO.none J, hv.fr, by rw [hv.rt]; exact Byt.nil _, hv.ph, hv.st, by rw [hv.gs]; exact NatI.zero J, hv.rs, hv.r8⟩
/-- the frame has reverted -/
theorem endR {J : Ent → Prop} {fb : Nat} {cs cs' cf : Nat → Value} {K : YK} {σ : NS} {M ML : List Ent} {ov : Value} {out : List Nat} (h : YI J fb cs cf K σ M ML) (h0 : K.w0.lg = []) (ho : Byt ⟨J, []⟩ ov out) (hv : LvP cs cs' (fun k => cf (52 + k)) ov (cf 4) 1) : EndY J cs cs' ⟨1, σ.gas, out, K.w0⟩ [] :=
  ⟨YWI.congr h.c.F.fsave fun k hk => hv.nw k hk, by
    show LogO J (cs' 4) K.w0.lg []
    rw [hv.nw 4 (by decide), h0, h.c.F.fsl]; exact LogO.none J, hv.fr, by rw [hv.rt]; exact ho, hv.ph, hv.st, by rw [hv.gs]; exact h.c.F.fgas, hv.rs, hv.r8⟩
/-- the frame has ended well -/
theorem endS {J : Ent → Prop} {fb : Nat} {cs cs' cf : Nat → Value} {K : YK} {σ : NS} {M ML : List Ent} {ov : Value} {out : List Nat} (h : YI J fb cs cf K σ M ML) (ho : Byt ⟨J, []⟩ ov out) (hv : LvP cs cs' cs ov (cf 4) 0) : EndY J cs cs' ⟨0, σ.gas, out, σ.w⟩ ML :=
  ⟨YWI.congr h.c.W fun k hk => hv.nw k hk, by
    show LogO J (cs' 4) σ.w.lg ML
    rw [hv.nw 4 (by decide)]; exact h.l, hv.fr, by rw [hv.rt]; exact ho, hv.ph, hv.st, by rw [hv.gs]; exact h.c.F.fgas, hv.rs, hv.r8⟩
end Go.Proofs.YgvafwGreat
