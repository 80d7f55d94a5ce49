import Derived.Test.YgvafwGreatV6a
import Derived.Test.YgvafwGreatV6c
import Derived.Test.YgvafwGreatV6d
set_option exponentiation.threshold 1000
set_option maxRecDepth 100000
set_option maxHeartbeats 4000000
set_option linter.unusedVariables false
set_option linter.unusedSimpArgs false
-- v2
-- v4
-- v5
-- v6
-- v7
namespace Go.Proofs.YgvafwGreat
open Go.HL Go.Proofs

theorem VI.perm {I : Ent → Prop} {c : Nat → Value} {V : Vl} {G G' : List Ent} (h : VI I c V G) (hp : G'.Perm G) : VI I c V G' := by
  obtain ⟨MA, MS, MJ, ML, MT, MH, hq, hb⟩ := h.own
  exact ⟨⟨MA, MS, MJ, ML, MT, MH, hp.trans hq, hb⟩, h.ta, h.ts, h.mrk, h.nm, h.rf, h.cd⟩
theorem _root_.Go.HL.CallG.samePerm {P : Program} {f : FuncId} {args : Array Value} {I : Ent → Prop} {G1 G2 : List Ent} {x : Ent} {v : Value} (hp : G2.Perm G1) (h : CallG P f args ⟨I, x :: G1⟩ fun r S' => ⟨I, x :: G1⟩ = S' ∧ r = v) : CallG P f args ⟨I, x :: G2⟩ fun r S' => ⟨I, x :: G2⟩ = S' ∧ r = v := by
  refine CallG.perm (x :: G1) (hp.cons x) ?_
  refine CallG.post (h.mono ?_)
  rintro r _ - ⟨rfl, rfl⟩
  exact Rel.perm (x :: G2) [] (by simpa using hp.symm.cons x) ⟨rfl, rfl⟩
/-- Cells outside the vault. -/
def Out (c c' : Nat → Value) : Prop := ∀ k, (k < 2435 ∨ 27018 < k) → c' k = c k
theorem Out.refl (c : Nat → Value) : Out c c := fun _ _ => rfl
theorem Out.trans {a b c : Nat → Value} (h : Out a b) (h' : Out b c) : Out a c := fun k hk => (h' k hk).trans (h k hk)
def newA (a : List Nat) : VA := ⟨a, 0, 0, .slice none 0 0, [], false, false, false⟩
def Vl.hasA (V : Vl) (a : List Nat) : Bool := decide (V.ix a < V.ac.length)
/-- The vault with the account entered. -/
def Vl.ent (V : Vl) (a : List Nat) (t : Nat → Int) : Vl := if V.ix a < V.ac.length then V else { V with ac := V.ac ++ [newA a], ta := t }
theorem perm_ac {R G MA X : List Ent} (hp : G.Perm (MA ++ X)) : (R ++ G).Perm ((R ++ X) ++ MA) := by
  rw [List.append_assoc]
  exact (hp.trans List.perm_append_comm).append_left R
theorem row_eq {c : Nat → Value} {o : Nat} {l l' : List Value} (h : l = l') (r : Row c o l) : Row c o l' := h ▸ r
theorem vT2 {a b a' b' : Value} (h : a = a') (h' : b = b') : Value.tuple #[a, b] = .tuple #[a', b'] := by rw [h, h']
theorem VA.enc_one {x : VA} (h : one x.cv = true) : ∀ u ∈ x.enc, one u = true := by
  intro u hu
  rcases List.mem_append.1 hu with hu | hu
  · exact one_bvs _ u hu
  · simp only [wcs, List.mem_cons, List.cons_append, List.nil_append, List.not_mem_nil, or_false] at hu
    rcases hu with rfl | rfl | rfl | rfl | rfl | rfl | rfl | rfl | rfl <;> first | rfl | exact h
theorem st_app {I : Ent → Prop} {x : Ent} {X R Y M : List Ent} (hX : R ++ Y = X) : (⟨I, x :: (X ++ M)⟩ : St) = ⟨I, x :: (R ++ (Y ++ M))⟩ := by subst hX; rw [List.append_assoc]
theorem wcs0 : wcs 0 = [.int .u64 ((0 : Nat) : Int), .int .u64 ((0 : Nat) : Int), .int .u64 ((0 : Nat) : Int), .int .u64 ((0 : Nat) : Int)] := by simp [wcs]
theorem build_newA {a : List Nat} (h : AdOk a) : cellsFrom (fillC z177 [(0, 20, bytesV a)]) 0 29 = (newA a).enc := by
  apply List.ext_getElem?
  intro i
  show (cellsFrom (HL.updN z177 0 (bvs a)) 0 29)[i]? = _
  by_cases hi : i < 29
  · rw [cellsFrom_get _ _ _ _ hi, Nat.zero_add]
    simp only [HL.updN, Nat.zero_add, h.bv, Nat.zero_le, true_and, Nat.sub_zero]
    by_cases h20 : i < 20
    · rw [if_pos h20, VA.enc, List.getElem?_append_left (by show i < (bvs a).length; rw [h.bv]; exact h20), List.getD_eq_getElem?_getD]
      show _ = (bvs a)[i]?
      rw [List.getElem?_eq_getElem (by rw [h.bv]; exact h20)]; rfl
    · rw [if_neg h20, VA.enc, List.getElem?_append_right (by show (bvs a).length ≤ i; rw [h.bv]; omega)]
      show _ = _[i - (bvs a).length]?
      rw [h.bv]
      have : i = 20 ∨ i = 21 ∨ i = 22 ∨ i = 23 ∨ i = 24 ∨ i = 25 ∨ i = 26 ∨ i = 27 ∨ i = 28 := by omega
      show _ = (Value.int .u64 ((0 : Nat) : Int) :: (wcs 0 ++ [.slice none 0 0, .bool false, .bool false, .bool false]))[i - 20]?
      rw [wcs0]
      rcases this with rfl | rfl | rfl | rfl | rfl | rfl | rfl | rfl | rfl <;> rfl
  · rw [List.getElem?_eq_none (by simp; omega), List.getElem?_eq_none (by rw [VA.enc_len h.len]; omega)]
theorem VOk.ent {V : Vl} {a : List Nat} {p : Nat} (hO : VOk V) (ha : AdOk a) (hi : ¬ V.ix a < V.ac.length) (hp : FreeAt 4096 V.ta (homeA a) p) (hroom : V.ac.length < 1990) : VOk (V.ent a fun q => if q = p then (V.ac.length : Int) else V.ta q) := by
  rw [Vl.ent, if_neg hi]
  have hm : ∀ {P : VA → Prop}, (∀ x ∈ V.ac, P x) → P (newA a) → ∀ x ∈ V.ac ++ [newA a], P x := by
    intro P h1 h2 x hx
    rcases List.mem_append.1 hx with h | h
    · exact h1 x h
    · obtain rfl := List.mem_singleton.1 h; exact h2
  refine { hO with aok := hm hO.aok ha, anc := hm hO.anc (by show (0 : Nat) < _; decide), abl := hm hO.abl (by show (0 : Nat) < _; decide), acd := hm hO.acd (by show (0 : Nat) < _; decide), and := ?_, ata := ?_, aln := ?_ }
  · show ((V.ac ++ [newA a]).map VA.ad).Nodup
    rw [List.map_append, List.nodup_append]
    refine ⟨hO.and, by simp, ?_⟩
    intro x hx y hy
    obtain rfl := List.mem_singleton.1 hy
    obtain ⟨z, hz, rfl⟩ := List.mem_map.1 hx
    obtain ⟨j, hj, rfl⟩ := List.getElem_of_mem hz
    have := Vl.ixN hi hj
    rw [List.getD_eq_getElem?_getD, List.getElem?_eq_getElem hj, Option.getD_some] at this
    exact this
  · show TabOk 4096 _ (fun i => homeA ((V.ac ++ [newA a]).getD i dVA).ad) (V.ac ++ [newA a]).length
    rw [List.length_append]
    refine hO.ata.add hp (fun i hi' => ?_) ?_
    · show homeA ((V.ac ++ [newA a]).getD i dVA).ad = _
      rw [List.getD_eq_getElem?_getD, List.getElem?_append_left hi', ← List.getD_eq_getElem?_getD]
    · show homeA ((V.ac ++ [newA a]).getD V.ac.length dVA).ad = _
      rw [List.getD_eq_getElem?_getD, List.getElem?_append_right (Nat.le_refl _), Nat.sub_self]; rfl
  · show (V.ac ++ [newA a]).length < 2000
    rw [List.length_append, List.length_singleton]; omega
theorem updNe {c : Nat → Value} {i k : Nat} {v : Value} (h : k ≠ i) : upd c i v k = c k := by simp [upd, h]
theorem updEq {c : Nat → Value} {i : Nat} {v : Value} : upd c i v i = v := by simp [upd]
theorem out_ent {c : Nat → Value} {p : Nat} {v w : Value} (hp : p < 4096) : Out c (upd (upd c 2435 v) (addS 2437 (mulS p 1)) w) := by
  intro k hk'
  have hk : addS 2437 (mulS p 1) = 2437 + p := addS_mulS _ _ _ rfl
  rw [hk, updNe (by omega), updNe (by omega)]
theorem VI.ent {I : Ent → Prop} {c : Nat → Value} {V : Vl} {G MA MS MJ ML MT MH M' : List Ent} {a : List Nat} {p : Nat} {v' : Value} (hV : VI I c V G) (hb : VIB I c V MA MS MJ ML MT MH) (hi : ¬ V.ix a < V.ac.length) (hplt : p < 4096) (hO' : OwnL 177 29 v' (V.ac.map VA.enc ++ [(newA a).enc]) M') :
    VI I (upd (upd c 2435 v') (addS 2437 (mulS p 1)) (.int .i32 (V.ac.length : Nat))) (V.ent a fun q => if q = p then (V.ac.length : Int) else V.ta q) ((MS ++ (MJ ++ (ML ++ (MT ++ MH)))) ++ M') := by
  rw [Vl.ent, if_neg hi]
  have hk : addS 2437 (mulS p 1) = 2437 + p := addS_mulS _ _ _ rfl
  rw [hk]
  have e : ∀ k, (k < 2435 ∨ k = 2436 ∨ 6532 < k) → upd (upd c 2435 v') (2437 + p) (.int .i32 (V.ac.length : Nat)) k = c k := fun k hk' => by rw [updNe (by omega), updNe (by omega)]
  have e0 : upd (upd c 2435 v') (2437 + p) (.int .i32 (V.ac.length : Nat)) 2435 = v' := by rw [updNe (by omega), updEq]
  have e1 : ∀ q, upd (upd c 2435 v') (2437 + p) (.int .i32 (V.ac.length : Nat)) (2437 + q) = if q = p then .int .i32 (V.ac.length : Nat) else c (2437 + q) := fun q => by
    by_cases hqp : q = p
    · subst hqp; rw [if_pos rfl, updEq]
    · rw [if_neg hqp, updNe (by omega), updNe (by omega)]
  generalize upd (upd c 2435 v') (2437 + p) (.int .i32 (V.ac.length : Nat)) = c' at *
  refine ⟨⟨M', MS, MJ, ML, MT, MH, List.perm_append_comm, ?_⟩, fun q hq => ?_, fun q hq => ?_, ?_, ?_, ?_, ?_⟩
  · refine ⟨?_, ?_, ?_, ?_, ?_, ?_⟩
    · show OwnL _ 29 (c' 2435) ((V.ac ++ [newA a]).map VA.enc) M'
      rw [e0, List.map_append]; exact hO'
    · rw [e 2436 (by omega)]; exact hb.os
    · rw [e 10629 (by omega)]; exact hb.oj
    · rw [e 27016 (by omega)]; exact hb.ol
    · rw [e 27017 (by omega)]; exact hb.ot
    · rw [e 27018 (by omega)]; exact hb.oh
  · rw [e1 q]
    split
    · rename_i h; subst h; simp
    · rename_i h; simp only [h, if_false]; exact hV.ta q hq
  · rw [e (6533 + q) (by omega)]; exact hV.ts q hq
  · rw [e 10630 (by omega)]; exact hV.mrk
  · rw [e 27014 (by omega)]; exact hV.nm
  · rw [e 27015 (by omega)]; exact hV.rf
  · intro x hx
    rcases List.mem_append.1 hx with h | h
    · exact hV.cd x h
    · obtain rfl := List.mem_singleton.1 h; exact Byt.nil _
/-- vault.Vault.acct, where the account is not there -/
theorem vAcctN {I : Ent → Prop} {R G : List Ent} {cb sz : Nat} {T : TypeId} {c : Nat → Value} {V : Vl} {a : List Nat} (hsz : 27019 ≤ sz) (hV : VI I c V G) (hO : VOk V) (ha : AdOk a) (hi : ¬ V.ix a < V.ac.length) (hroom : V.ac.length < 1990) :
    CallG Hvaf.prog 92 #[ptr cb 2435, bytesV a] ⟨I, ⟨cb, sz, T, c⟩ :: (R ++ G)⟩ fun r S' => r = .tuple #[.int .i32 (V.ix a : Nat), .bool true] ∧ ∃ c' G' t, S' = ⟨I, ⟨cb, sz, T, c'⟩ :: (R ++ G')⟩ ∧ VI I c' (V.ent a t) G' ∧ VOk (V.ent a t) ∧ Out c c' := by
  have hal := ha.len
  have hab := ha.bv
  have hixe : V.ix a = V.ac.length := Nat.le_antisymm List.findIdx_le_length (by omega)
  obtain ⟨p, hp, hfn⟩ := vFindN (R := R) (cb := cb) (T := T) hsz hV hO ha hi
  have hplt := hp.lt
  obtain ⟨MA, MS, MJ, ML, MT, MH, hpm, hb⟩ := hV.own
  have hpm2 := perm_ac (R := R) hpm
  obtain ⟨⟨ad, cap, hf⟩, -⟩ := hV.acc
  have hoa := hb.oa
  rw [hf] at hoa
  refine CallG.perm (⟨cb, sz, T, c⟩ :: ((R ++ (MS ++ (MJ ++ (ML ++ (MT ++ MH))))) ++ MA)) (hpm2.cons _) ?_
  replace hfn := CallG.samePerm hpm2.symm hfn
  generalize hX : R ++ (MS ++ (MJ ++ (ML ++ (MT ++ MH)))) = X at *
  rw [hixe]
  refine CallG.start (C := mkC Hvaf.prog) cok (args := [ptr cb 2435, bytesV a]) Hvaf.func92 rfl Hvaf.ntmps92 (by simp) (by kernel_rfl) ?_
  intro xb
  repeat (first | (refine QuG.keep ?_; first | refine QuG.boxL cok 0 rfl rfl rfl rfl rfl (by assumption) ?_) | refine SeqS.go cok ?_)
  refine CallG.sameL [_] hfn ?_
  repeat (first | (refine QuG.keep ?_; first | refine QuG.l1E cok 1 rfl rfl rfl rfl rfl (by first | exact Nat.le_of_ble_eq_true rfl | omega | (dsimp only; omega) | (simp only [addS_eq, mulS_eq]; omega)) (by assumption) ?_ | refine QuG.boxL cok 0 rfl rfl rfl rfl rfl (by assumption) ?_) | refine And.intro ⟨⟨by assumption, Nat.le_of_ble_eq_true rfl⟩, trivial⟩ ?_ | refine SeqS.go cok ?_ | refine GuardS.yes rfl ?_ | refine CondS.f rfl ?_ | refine And.intro (fillOk_of (Eq.refl true)) ?_ | refine And.intro (Eq.refl true) ?_ | refine And.intro (by dsimp only; omega) ?_ | (refine ValS.keep ?_; first | (with_reducible refine ValS.kI32 ?_; first | (with_reducible refine ValS.convI32 ?_ ?_ ; omega))) | refine W.drawI 7 cok [0, 0, 2, 6, 14, 0, 32, 96, 254, 511, 1023, 2047] [0, 1, 2, 3, 4, 5, 6, 7, 8, 9, 10, 11] [4, 5] (by kernel_rfl) (by kernel_rfl) ?_ | (refine CondS.keep ?_; first | refine CondS.d0 rfl (by omega) ?_))
  intro tb
  repeat (first | (refine still_in ?_; first | refine still_nil ?_ | refine still_drop (by decide) ?_ | (refine still_keep (by decide) rfl ?_ ?_; first | exact QuV.l1 cok 2 rfl rfl rfl rfl rfl (by first | exact Nat.le_of_ble_eq_true rfl | omega | (dsimp only; omega) | (simp only [addS_eq, mulS_eq]; omega)) (by assumption))))
  refine OpG.keep ?_
  refine OpG.app1 cok (L := _ :: _ :: X) (M := MA) (vss := V.ac.map VA.enc) (el := (newA a).enc) rfl rfl rfl rfl rfl rfl rfl rfl rfl ?_ ?_ ?_ ?_ ?_ ?_
  · exact hoa
  · exact row_eq (build_newA ha) (Row.updN2 _ 0 _)
  · exact VA.enc_len hal
  · exact VA.enc_one rfl
  · rw [List.length_map]; omega
  intro v' M' hO'
  have hone' := hO'.one
  repeat (first | (refine OpG.keep ?_; first | refine OpG.s1 cok 1 rfl rfl rfl rfl rfl (by first | exact Nat.le_of_ble_eq_true rfl | omega | (dsimp only; omega) | (simp only [addS_eq, mulS_eq]; omega)) rfl (by assumption) ?_) | refine SeqS.go cok ?_ | refine And.intro (by omega) ?_ | (refine NatS.keep ?_; first | with_reducible refine NatS.nat ?_) | (refine still_in ?_; first | refine still_drop (by decide) ?_) | (refine OpG.keep ?_; first | refine OpG.s1 cok 1 rfl rfl rfl rfl rfl (by first | exact Nat.le_of_ble_eq_true rfl | omega | (dsimp only; omega) | (simp only [addS_eq, mulS_eq]; omega)) rfl rfl ?_))
  exact Fin.drop (⟨cb, sz, T, _⟩ :: (X ++ M')) [_] ⟨rfl, _, (MS ++ (MJ ++ (ML ++ (MT ++ MH)))) ++ M', fun q => if q = p then (V.ac.length : Int) else V.ta q, st_app hX, VI.ent hV hb hi hplt hO', VOk.ent hO ha hi hp hroom, out_ent hplt⟩
end Go.Proofs.YgvafwGreat
