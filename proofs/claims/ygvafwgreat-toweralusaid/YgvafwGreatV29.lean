import Derived.Test.YgvafwGreatV23
import Derived.Test.YgvafwGreatV21
import Derived.Test.YgvafwGreatL9
import Derived.Test.YgvafwGreatY76
import Derived.Test.YgvafwGreatE29
import Derived.Test.YgvafwGreatY70
set_option exponentiation.threshold 1000
set_option maxRecDepth 100000
set_option maxHeartbeats 40000000
set_option linter.unusedVariables false
set_option linter.unusedSimpArgs false
-- v2
-- v4
-- v5
-- v6
-- v7
-- plus: (refine QuG.keep ?_; fail "none")
-- still: exact QuV.of (QuG.elF cok hE (by first | exact hrx _ | exact hrx2 _) rfl rfl rfl rfl elO hix (by decide) l53 rfl)
-- still: exact QuV.of (QuG.elS cok hE (by first | exact hrx _ | exact hrx2 _) rfl rfl rfl rfl elO hix (by decide) l21 rfl)
-- still: exact QuV.of (QuG.elF cok hE (by first | exact hrx _ | exact hrx2 _) rfl rfl rfl rfl elO hix (by decide) l20 rfl)
namespace Go.Proofs.YgvafwGreat
open Go.HL Go.Proofs

theorem callOpen {I : Ent → Prop} {cb sz b0 cap0 : Nat} {T : TypeId} {c : Nat → Value} {V : Vl} {G : List Ent} {v : Value} {ds : List Nat} {K : Post} (hV : VI I c V G) (hl : 0 < V.ac.length) (hb : Byt ⟨I, []⟩ v ds) (hsl : c 2435 = HL.sl b0 0 V.ac.length cap0)
    (k : ∀ oa oc J ca Y MJ, HL.Sub I J → Byt ⟨J, []⟩ (.slice oa ds.length oc) ds → AO J c V b0 cap0 ca Y MJ → K (.slice oa ds.length oc) ⟨J, ⟨cb, sz, T, c⟩ :: ⟨b0, mulS cap0 29, 177, ca⟩ :: (Y ++ MJ)⟩) : CallG Hvaf.prog 87 #[v] ⟨I, ⟨cb, sz, T, c⟩ :: G⟩ K := by
  refine CallG.post ((vCopied (Byt.ext hb)).mono ?_)
  rintro r ⟨J, _⟩ hs ⟨rfl, hB⟩
  obtain ⟨oa, oc, rfl, -⟩ := hB.form
  obtain ⟨b, cap, ca, Y, MJ, hp, hA⟩ := (hV.up hs).openA hl
  have e := hsl.symm.trans hA.sl
  obtain ⟨rfl, rfl⟩ : b0 = b ∧ cap0 = cap := by
    simp only [HL.sl, Value.slice.injEq, Option.some.injEq] at e
    obtain ⟨h1, _, h2⟩ := e
    exact ⟨by injection h1, h2⟩
  exact Rel.perm (⟨cb, sz, T, c⟩ :: ⟨b0, mulS cap0 29, 177, ca⟩ :: (Y ++ MJ)) [] (by rw [List.append_nil]; exact hp.cons _) (k oa oc J ca Y MJ hs hB hA)
theorem getD_last {α : Type} {L : List α} {x d : α} {i : Nat} (h : L.length = i) : (L ++ [x]).getD i d = x := by
  rw [List.getD_eq_getElem?_getD, List.getElem?_append_right (by omega), h, Nat.sub_self]; rfl
theorem set_last {α : Type} {L : List α} {x y : α} {i : Nat} (h : L.length = i) : (L ++ [x]).set i y = L ++ [y] := by
  rw [List.set_append_right _ _ (by omega), h, Nat.sub_self]; rfl
theorem VOk.last {V : Vl} {L : List VA} {x y : VA} (hO : VOk V) (hac : V.ac = L ++ [x]) (had : y.ad = x.ad) (hn : y.nonce < 2 ^ 64) (hb : y.bal < 2 ^ 256) (hc : y.code.length < 2 ^ 20) : VOk { V with ac := L ++ [y] } := by
  have hmem : ∀ {z : VA}, z ∈ L ++ [y] → z ∈ V.ac ∨ z = y := fun h => by
    rcases List.mem_append.1 h with h | h
    · exact .inl (hac ▸ List.mem_append_left _ h)
    · exact .inr (List.mem_singleton.1 h)
  have hx : x ∈ V.ac := hac ▸ List.mem_append_right _ (List.mem_singleton_self x)
  refine { hO with aok := ?_, anc := ?_, abl := ?_, acd := ?_, and := ?_, ata := ?_, aln := ?_ }
  · intro z hz
    rcases hmem hz with h | rfl
    · exact hO.aok z h
    · rw [had]; exact hO.aok x hx
  · intro z hz
    rcases hmem hz with h | rfl
    · exact hO.anc z h
    · exact hn
  · intro z hz
    rcases hmem hz with h | rfl
    · exact hO.abl z h
    · exact hb
  · intro z hz
    rcases hmem hz with h | rfl
    · exact hO.acd z h
    · exact hc
  · have := hO.and
    rw [hac] at this
    show ((L ++ [y]).map VA.ad).Nodup
    rw [List.map_append] at this ⊢
    rw [List.map_cons, List.map_nil, had]; exact this
  · have h1 := hO.ata
    have h2 : (fun i => homeA ((L ++ [y]).getD i dVA).ad) = fun i => homeA (V.ac.getD i dVA).ad := by
      funext i
      rw [hac]
      by_cases hi : i < L.length
      · rw [List.getD_eq_getElem?_getD, List.getD_eq_getElem?_getD, List.getElem?_append_left hi, List.getElem?_append_left hi]
      · by_cases hi2 : i = L.length
        · rw [getD_last hi2.symm, getD_last hi2.symm, had]
        · rw [List.getD_eq_getElem?_getD, List.getD_eq_getElem?_getD, List.getElem?_eq_none (by simp; omega), List.getElem?_eq_none (by simp; omega)]
    show TabOk 4096 V.ta (fun i => homeA ((L ++ [y]).getD i dVA).ad) (L ++ [y]).length
    rw [h2, show (L ++ [y]).length = V.ac.length by rw [hac]; simp]
    exact h1
  · have := hO.aln
    rw [hac] at this
    show (L ++ [y]).length < 2000
    simp at this ⊢; omega
theorem fillA {a : List Nat} {nn n : Nat} (h : a.length = 20) : setN ((newA a).enc.set 20 (.int .u64 (nn : Nat))) 21 (wcs n) = ({ newA a with nonce := nn, bal := n } : VA).enc := by
  have hb : (bvs a).length = 20 := by rw [bvs_len']; exact h
  have e1 : (newA a).enc.set 20 (.int .u64 (nn : Nat)) = ({ newA a with nonce := nn } : VA).enc := by
    exact set_app (A := bvs a) (n := 20) (k := 0) (B := .int .u64 ((0 : Nat) : Int) :: (wcs 0 ++ [.slice none 0 0, .bool false, .bool false, .bool false])) (u := .int .u64 (nn : Nat)) hb
  rw [e1]
  exact setBal (x := { newA a with nonce := nn }) h
theorem fillB {a cd : List Nat} {nn n : Nat} {v : Value} (h : a.length = 20) : (({ newA a with nonce := nn, bal := n } : VA).enc).set 25 v = (⟨a, nn, n, v, cd, false, false, false⟩ : VA).enc := by
  have hb : (bvs a).length = 20 := by rw [bvs_len']; exact h
  exact set_app (A := bvs a) (n := 20) (k := 5) (B := .int .u64 (nn : Nat) :: (wcs n ++ [.slice none 0 0, .bool false, .bool false, .bool false])) (u := v) hb
/-- The empty vault. -/
def vl0 : Vl := ⟨[], [], [], 0, 0, 0, [], [], fun _ => -1, fun _ => -1, fun _ => -1⟩
theorem vl0_ok : VOk vl0 :=
  { aok := by simp [vl0], anc := by simp [vl0], abl := by simp [vl0], acd := by simp [vl0], and := by simp [vl0], ata := TabOk.empty _ _, aln := by decide, sky := by simp [vl0], sbd := by simp [vl0], snd := by simp [vl0], sts := TabOk.empty _ _, sln := by decide, tky := by simp [vl0], tbd := by simp [vl0], tnd := by simp [vl0], ttt := TabOk.empty _ _, tln := by decide, jln := by decide, jrw := by simp [vl0], lln := by decide, rfl' := by decide }
/-- A vault's cells that are zero. -/
structure FZ (c : Nat → Value) : Prop where
  a : c 2435 = .slice none 0 0
  s : c 2436 = .slice none 0 0
  j : c 10629 = .slice none 0 0
  m : c 10630 = .int .i32 ((0 : Nat) : Int)
  n : c 27014 = .int .i32 ((0 : Nat) : Int)
  r : c 27015 = .int .u64 ((0 : Nat) : Int)
  l : c 27016 = .slice none 0 0
  t : c 27017 = .slice none 0 0
  h : c 27018 = .slice none 0 0
theorem vl0_vi {I : Ent → Prop} {c c' : Nat → Value} (h : FZ c) (hk : ∀ k, (k < 2437 ∨ 10629 ≤ k) → c' k = c k) (h1 : ∀ p, p < 4096 → c' (2437 + p) = .int .i32 (-1) ∧ c' (6533 + p) = .int .i32 (-1)) : VI I c' vl0 [] := by
  refine ⟨⟨[], [], [], [], [], [], by simp, ?_, ?_, ?_, ?_, ?_, ?_⟩, fun p hp => (h1 p hp).1, fun p hp => (h1 p hp).2, ?_, ?_, ?_, by simp [vl0]⟩
  · rw [hk _ (by omega), h.a]; exact OwnL.nil _ _
  · rw [hk _ (by omega), h.s]; exact OwnL.nil _ _
  · rw [hk _ (by omega), h.j]; exact OwnL.nil _ _
  · rw [hk _ (by omega), h.l]; exact LogO.none _
  · rw [hk _ (by omega), h.t]; exact OwnL.nil _ _
  · exact .inl ⟨by rw [hk _ (by omega), h.h], rfl, rfl⟩
  · rw [hk _ (by omega), h.m]; rfl
  · rw [hk _ (by omega), h.n]; rfl
  · rw [hk _ (by omega), h.r]; rfl
/-- The accounts laid so far. -/
def FP (code : List Nat) (i : Nat) (V : Vl) : Prop := ∃ v1 v2, V.ac = ([⟨adNo 1, 1, 0, v1, code, false, false, false⟩, ⟨adNo 240, 0, 2 ^ 128, v2, [], false, false, false⟩] : List VA).take i ∧ V.sl = [] ∧ V.jr = [] ∧ V.nm = 0 ∧ V.rf = 0 ∧ V.lg = [] ∧ V.tp = [] ∧ VOk V
theorem updSelf {c : Nat → Value} {i : Nat} (k : Nat) : c k = upd c i (c i) k := by
  by_cases h : k = i
  · subst h; exact updEq.symm
  · exact (updNe h).symm
theorem fillEnd {J J2 : Ent → Prop} {c' c2 : Nat → Value} {V : Vl} {G' : List Ent} {code a bs cd : List Nat} {nn i b cap2 oc : Nat} {oa : Option Addr} {t : Nat → Int} {ca5 ca6 : Nat → Value} {Y2 MJ2 : List Ent} (hs2 : HL.Sub J J2) (hV : VI J c' V G') (hO2 : VOk (V.ent a t)) (hent : (V.ent a t).ac = V.ac ++ [newA a]) (hsl0 : V.sl = []) (hjr0 : V.jr = []) (hnm : V.nm = 0) (hrf : V.rf = 0) (hlg : V.lg = []) (htp : V.tp = [])
    (hfp : ∀ v, ∃ v1' v2', V.ac ++ [(⟨a, nn, bev bs, v, cd, false, false, false⟩ : VA)] = ([⟨adNo 1, 1, 0, v1', code, false, false, false⟩, ⟨adNo 240, 0, 2 ^ 128, v2', [], false, false, false⟩] : List VA).take (i + 1)) (ha : AdOk a) (hnn : nn < 2 ^ 64) (hbs : bs.length = 32) (hbb : ∀ d ∈ bs, d < 256) (hcdl : cd.length ≤ 256) (hB2 : Byt ⟨J2, []⟩ (.slice oa cd.length oc) cd)
    (hA2 : AO J2 c2 { V.ent a t with ac := V.ac ++ [({ newA a with nonce := nn, bal := bev bs } : VA)], jr := (V.ent a t).jr } b cap2 ca5 Y2 MJ2) (hE6 : Els ⟨b, mulS cap2 29, 177, ca6⟩ 0 29 (V.ac.map VA.enc ++ [(({ newA a with nonce := nn, bal := bev bs } : VA).enc).set 25 (.slice oa cd.length oc)])) (hix : ¬ V.ix a < V.ac.length) :
    VI J2 c2 { V.ent a t with ac := V.ac ++ [(⟨a, nn, bev bs, .slice oa cd.length oc, cd, false, false, false⟩ : VA)], jr := (V.ent a t).jr } (⟨b, mulS cap2 29, 177, ca6⟩ :: (Y2 ++ MJ2)) ∧ FP code (i + 1) { V.ent a t with ac := V.ac ++ [(⟨a, nn, bev bs, .slice oa cd.length oc, cd, false, false, false⟩ : VA)], jr := (V.ent a t).jr } := by
  have hE0 : V.ent a t = { V with ac := V.ac ++ [newA a], ta := t } := by unfold Vl.ent; rw [if_neg hix]
  obtain ⟨v1', v2', hf5⟩ := hfp (.slice oa cd.length oc)
  rw [fillB (cd := cd) ha.len, show V.ac.map VA.enc ++ [(⟨a, nn, bev bs, .slice oa cd.length oc, cd, false, false, false⟩ : VA).enc] = (V.ac ++ [(⟨a, nn, bev bs, .slice oa cd.length oc, cd, false, false, false⟩ : VA)]).map VA.enc by rw [List.map_append]; rfl] at hE6
  have hcd5 : ∀ y ∈ V.ac ++ [(⟨a, nn, bev bs, .slice oa cd.length oc, cd, false, false, false⟩ : VA)], Byt ⟨J2, []⟩ y.cv y.code := by
    intro y hy
    rcases List.mem_append.1 hy with hy | hy
    · exact (hV.cd y hy).mono hs2 (by simp)
    · rw [List.mem_singleton.1 hy]; exact hB2
  have hO6 := hO2.last hent (y := ⟨a, nn, bev bs, .slice oa cd.length oc, cd, false, false, false⟩) rfl hnn (bev_256 hbb (by omega)) (by show cd.length < _; omega)
  refine ⟨VI.congr (c' := c2) (hA2.close ca6 (c2 10629) _ (V.ent a t).jr MJ2 hE6 (by show (V.ac ++ [_]).length = (V.ac ++ [_]).length; simp) hA2.jr hcd5) (fun k _ _ => updSelf k), ⟨v1', v2', hf5, ?_, ?_, ?_, ?_, ?_, ?_, hO6⟩⟩
  · show (V.ent a t).sl = []; rw [hE0]; exact hsl0
  · show (V.ent a t).jr = []; rw [hE0]; exact hjr0
  · show (V.ent a t).nm = 0; rw [hE0]; exact hnm
  · show (V.ent a t).rf = 0; rw [hE0]; exact hrf
  · show (V.ent a t).lg = []; rw [hE0]; exact hlg
  · show (V.ent a t).tp = []; rw [hE0]; exact htp
/-- vault.Vault.Fill -/
theorem vFill {I : Ent → Prop} {cb sz n cc : Nat} {T : TypeId} {c : Nat → Value} {w : Value} {ca : Option Addr} {code : List Nat} (hsz : 27019 ≤ sz) (hz : FZ c) (hR : RowI I 55 w [el1 (.slice ca code.length cc), el2]) (hb : Byt ⟨I, []⟩ (.slice ca code.length cc) code) (hcl : code.length ≤ 256) :
    CallG Hvaf.prog 38 #[ptr cb 2435, w] ⟨I, [⟨cb, sz, T, c⟩]⟩ fun r S' => r = .bool true ∧ ∃ J c' G' V, S' = ⟨J, ⟨cb, sz, T, c'⟩ :: G'⟩ ∧ VI J c' V G' ∧ FP code 2 V ∧ ∀ k, (k < 2435 ∨ 27018 < k) → c' k = c k := by
  have hwo := fun G => lWorldOK (G := G) hR hcl
  obtain ⟨x, o, cap, rfl, hcap, hxI, hE⟩ : ∃ x o cap, w = HL.sl x.b o 2 cap ∧ 2 ≤ cap ∧ I x ∧ Els x o 55 [el1 (.slice ca code.length cc), el2] := by
    rcases hR.2 with ⟨_, h2⟩ | ⟨x, o, cap, h1, h2, h3, h4⟩
    · cases h2
    · exact ⟨x, o, cap, h1, h2, h3, h4⟩
  refine CallG.start (C := mkC Hvaf.prog) cok (args := [ptr cb 2435, HL.sl x.b o 2 cap]) Hvaf.func38 rfl Hvaf.ntmps38 (by simp) (by kernel_rfl) ?_
  repeat (first | refine SeqS.go cok ?_)
  refine (hwo _).mono ?_
  rintro r _ - ⟨rfl, rfl⟩
  repeat (first | refine SeqS.go cok ?_ | refine CondS.f rfl ?_)
  refine W.loopF cok (by kernel_rfl) 0 (fun (i : Nat) e' S' => (∃ c', S' = ⟨I, [⟨cb, sz, T, c'⟩]⟩ ∧ (∀ k, (k < 2437 ∨ 10629 ≤ k) → c' k = c k) ∧ ∀ p, p < i → c' (2437 + p) = .int .i32 (-1) ∧ c' (6533 + p) = .int .i32 (-1)) ∧ i ≤ 4096 ∧ slots [(0, ptr cb 2435), (1, HL.sl x.b o 2 cap), (16, .int .i64 (i : Nat))] e') (fun i => 4096 - i) 0
    (Rel.same ⟨⟨c, rfl, fun _ _ => rfl, fun p hp => absurd hp (by omega)⟩, Nat.zero_le _, rfl, rfl, rfl, trivial⟩) (fun e' S' => (∃ c', S' = ⟨I, [⟨cb, sz, T, c'⟩]⟩ ∧ VI I c' vl0 [] ∧ ∀ k, (k < 2435 ∨ 27018 < k) → c' k = c k) ∧ slots [(0, ptr cb 2435), (1, HL.sl x.b o 2 cap)] e') ?_ ?_
  · rintro e' S2 - ⟨⟨c1, rfl, hV1, hk1⟩, hsl⟩
    refine SeqS.slots cok _ hsl fun e => ?_
    repeat (first | refine SeqS.go cok ?_)
    refine W.loopF cok (by kernel_rfl) 2 (fun (i : Nat) e' S' => (∃ J c' G' V, HL.Sub I J ∧ S' = ⟨J, ⟨cb, sz, T, c'⟩ :: G'⟩ ∧ VI J c' V G' ∧ FP code i V ∧ ∀ k, (k < 2435 ∨ 27018 < k) → c' k = c k) ∧ i ≤ 2 ∧ slots [(0, ptr cb 2435), (1, HL.sl x.b o 2 cap), (31, .int .i64 2), (32, .int .i64 (i : Nat))] e') (fun i => 2 - i) 0
      (Rel.same ⟨⟨I, c1, [], vl0, fun _ h => h, rfl, hV1, ⟨.slice none 0 0, .slice none 0 0, rfl, rfl, rfl, rfl, rfl, rfl, rfl, vl0_ok⟩, hk1⟩, Nat.zero_le _, rfl, rfl, rfl, rfl, trivial⟩) (fun e' S' => ∃ J c' G' V, HL.Sub I J ∧ S' = ⟨J, ⟨cb, sz, T, c'⟩ :: G'⟩ ∧ VI J c' V G' ∧ FP code 2 V ∧ ∀ k, (k < 2435 ∨ 27018 < k) → c' k = c k) ?_ ?_
    · rintro e' S2 - ⟨J, c', G', V, hs, rfl, hV, hF, hk⟩
      repeat (first | refine SeqS.go cok ?_)
      exact Fin.same ⟨rfl, J, c', G', V, rfl, hV, hF, hk⟩
    · rintro i e' S2 - ⟨⟨J, c', G', V, hs, rfl, hV, ⟨v1, v2, hac, hsl0, hjr0, hnm, hrf, hlg, htp, hO⟩, hk⟩, hi, hsl⟩
      refine W.slots _ hsl fun e => ?_
      by_cases hlt : i < 2
      · obtain ⟨a, nn, bs, xa, xc, cd, hel, hixa, hfp, ha, hnn, hbs, hbb, hBx, hcdl⟩ : ∃ (a : List Nat) (nn : Nat) (bs : List Nat) (xa : Option Addr) (xc : Nat) (cd : List Nat), [el1 (.slice ca code.length cc), el2].getD i [] = bvs a ++ (.int .u64 (nn : Nat) :: (bvs bs ++ [.slice xa cd.length xc, .slice none 0 0])) ∧ V.ix a = i ∧ (∀ v, ∃ v1' v2', V.ac ++ [(⟨a, nn, bev bs, v, cd, false, false, false⟩ : VA)] = ([⟨adNo 1, 1, 0, v1', code, false, false, false⟩, ⟨adNo 240, 0, 2 ^ 128, v2', [], false, false, false⟩] : List VA).take (i + 1)) ∧ AdOk a ∧ nn < 2 ^ 64 ∧ bs.length = 32 ∧ (∀ d ∈ bs, d < 256) ∧ Byt ⟨I, []⟩ (.slice xa cd.length xc) cd ∧ cd.length ≤ 256 := by
          have : i = 0 ∨ i = 1 := by omega
          rcases this with rfl | rfl
          · exact ⟨adNo 1, 1, z32, ca, cc, code, rfl, by unfold Vl.ix; rw [hac]; rfl, fun v => ⟨v, v2, by rw [hac]; rfl⟩, ⟨rfl, by decide⟩, by decide, rfl, by decide, hb, hcl⟩
          · exact ⟨adNo 240, 0, w15, none, 0, [], rfl, by unfold Vl.ix; rw [hac]; rfl, fun v => ⟨v1, v, by rw [hac]; rfl⟩, ⟨rfl, by decide⟩, by decide, rfl, by decide, Byt.nil _, by decide⟩
        have hab := ha.bv
        have hrx : ∀ G, Rd ⟨J, G⟩ x := fun _ => .inl (hs _ hxI)
        have hix : i < ([el1 (.slice ca code.length cc), el2] : List (List Value)).length := hlt
        have l0 : (([el1 (.slice ca code.length cc), el2].getD i []).drop 0).take 20 = bvs a := by rw [hel, List.drop_zero, ← hab, List.take_left]
        have l20 : ([el1 (.slice ca code.length cc), el2].getD i []).getD 20 undef = .int .u64 (nn : Nat) := by
          rw [hel, List.getD_eq_getElem?_getD, List.getElem?_append_right (by omega), hab]; rfl
        have hbl : (bvs bs).length = 32 := by rw [bvs_len']; exact hbs
        have l21 : (([el1 (.slice ca code.length cc), el2].getD i []).drop 21).take 32 = bvs bs := by
          rw [hel, show 21 = (bvs a).length + 1 by omega, ← List.drop_drop, List.drop_left, List.drop_succ_cons, List.drop_zero, ← hbl, List.take_left]
        have l53 : ([el1 (.slice ca code.length cc), el2].getD i []).getD 53 undef = .slice xa cd.length xc := by
          rw [hel, List.getD_eq_getElem?_getD, List.getElem?_append_right (by omega), hab, List.getElem?_cons_succ, List.getElem?_append_right (by omega), hbl]; rfl
        have l54 : ([el1 (.slice ca code.length cc), el2].getD i []).getD 54 undef = .slice none 0 0 := by
          rw [hel, List.getD_eq_getElem?_getD, List.getElem?_append_right (by omega), hab, List.getElem?_cons_succ, List.getElem?_append_right (by omega), hbl]; rfl
        have hroom : V.ac.length < 1990 := by rw [hac]; simp; omega
        have hao := vAcctO (R := []) (cb := cb) (T := T) hsz hV hO ha hroom
        rw [hixa] at hao
        repeat (first | (refine QuG.keep ?_; first | refine QuG.elS cok hE (hrx _) rfl rfl rfl rfl elO hix (by decide) l0 ?_) | refine SeqS.go cok ?_ | refine And.intro (by omega) ?_ | (refine NatS.keep ?_; first | with_reducible refine NatS.nat ?_) | (refine CondS.keep ?_; first | refine CondS.d1 rfl (by omega) ?_))
        refine hao.mono ?_
        rintro r _ - ⟨c2, b, cap2, ca2, Y, MJ, t, rfl, rfl, hA, hV2, hO2, hout⟩
        have hVl : V.ac.length = i := by rw [hac]; simp; omega
        have hent : (V.ent a t).ac = V.ac ++ [newA a] := by unfold Vl.ent; rw [if_neg (by omega)]
        have hejr : (V.ent a t).jr = [] := by rw [Vl.ent_jr]; exact hjr0
        have hE2 := hA.els
        rw [hent, List.map_append, List.map_cons, List.map_nil] at hE2
        have hml : (V.ac.map VA.enc).length = i := by rw [List.length_map]; exact hVl
        have hi2 : i < (V.ac.map VA.enc ++ [(newA a).enc]).length := by rw [List.length_append, hml]; simp
        have hsl2 : c2 2435 = HL.sl b 0 (i + 1) cap2 := by rw [hA.sl, hent, List.length_append, hVl]; rfl
        have hfb := fun S => FromBytes_spec (S := S) hbs hbb
        repeat (first | (refine OpG.keep ?_; refine OpG.elF cok 1 rfl hE2 rfl rfl rfl rfl elO hi2 (by decide) (u := .int .u64 (nn : Nat)) rfl rfl ?_) | (refine QuG.keep ?_; first | refine QuG.l1E cok 0 rfl rfl rfl rfl rfl (by first | exact Nat.le_of_ble_eq_true rfl | omega | (dsimp only; omega) | (simp only [addS_eq, mulS_eq]; omega)) (by assumption) ?_) | (refine QuG.keep ?_; first | refine QuG.elF cok hE (hrx _) rfl rfl rfl rfl elO hix (by decide) l20 ?_) | refine SeqS.go cok ?_ | refine And.intro (by omega) ?_ | (refine NatS.keep ?_; first | with_reducible refine NatS.nat ?_) | refine W.drawI 13 cok [0, 1, 3, 7, 0, 0, 0, 96, 224, 480, 1023, 2047, 4095] [0, 1, 2, 3, 4, 5, 6, 7, 8, 9, 10, 11, 12] [3, 9] (by kernel_rfl) (by kernel_rfl) ?_)
        intro ca3 hE3
        rw [getD_last hml, set_last hml] at hE3
        have hi3 : i < (V.ac.map VA.enc ++ [(newA a).enc.set 20 (.int .u64 (nn : Nat))]).length := by rw [List.length_append, hml]; simp
        repeat (first | (refine QuG.keep ?_; first | refine QuG.l1E cok 0 rfl rfl rfl rfl rfl (by first | exact Nat.le_of_ble_eq_true rfl | omega | (dsimp only; omega) | (simp only [addS_eq, mulS_eq]; omega)) (by assumption) ?_) | (refine QuG.keep ?_; first | refine QuG.elS cok hE (hrx _) rfl rfl rfl rfl elO hix (by decide) l21 ?_) | refine SeqS.go cok ?_ | refine And.intro (by omega) ?_ | (refine NatS.keep ?_; first | with_reducible refine NatS.nat ?_) | (refine still_in ?_; first | refine still_drop (by decide) ?_) | refine W.drawI 14 cok [0, 1, 3, 7, 0, 0, 0, 96, 224, 480, 992, 2047, 4095, 8191] [0, 1, 2, 3, 4, 5, 6, 7, 8, 9, 10, 11, 12, 13] [3, 9] (by kernel_rfl) (by kernel_rfl) ?_)
        refine (hfb _).mono ?_
        rintro r _ - ⟨rfl, rfl⟩
        repeat (first | (refine OpG.keep ?_; refine OpG.elS cok 1 rfl hE3 rfl rfl rfl elO hi3 (vs := wcs (bev bs)) rfl rfl (Nat.le_of_ble_eq_true rfl) (wcs_one _) ?_) | refine And.intro (by omega) ?_ | (refine NatS.keep ?_; first | with_reducible refine NatS.nat ?_) | (refine still_in ?_; first | refine still_drop (by decide) ?_ | (refine still_keep (by decide) rfl ?_ ?_; first | exact QuV.l1 cok 0 rfl rfl rfl rfl rfl (by first | exact Nat.le_of_ble_eq_true rfl | omega | (dsimp only; omega) | (simp only [addS_eq, mulS_eq]; omega)) (by assumption))))
        intro ca4 hE4
        rw [getD_last hml, set_last hml] at hE4
        have hen4 : setN ((newA a).enc.set 20 (.int .u64 (nn : Nat))) 21 (wcs (bev bs)) = ({ newA a with nonce := nn, bal := bev bs } : VA).enc := fillA ha.len
        rw [hen4, show V.ac.map VA.enc ++ [({ newA a with nonce := nn, bal := bev bs } : VA).enc] = (V.ac ++ [{ newA a with nonce := nn, bal := bev bs }]).map VA.enc by rw [List.map_append]; rfl] at hE4
        have hl4 : (V.ac ++ [({ newA a with nonce := nn, bal := bev bs } : VA)]).length = (V.ent a t).ac.length := by rw [hent]; simp
        have hcd4 : ∀ y ∈ V.ac ++ [({ newA a with nonce := nn, bal := bev bs } : VA)], Byt ⟨J, []⟩ y.cv y.code := by
          intro y hy
          rcases List.mem_append.1 hy with hy | hy
          · exact hV.cd y hy
          · rw [List.mem_singleton.1 hy]; exact Byt.nil _
        have hV4 := VI.congr (c' := c2) (hA.close ca4 (c2 10629) _ (V.ent a t).jr MJ hE4 hl4 hA.jr hcd4) (fun k _ _ => updSelf k)
        have hp4 : 0 < (V.ac ++ [({ newA a with nonce := nn, bal := bev bs } : VA)]).length := by rw [List.length_append]; simp
        repeat (first | (refine QuG.keep ?_; first | refine QuG.l1E cok 0 rfl rfl rfl rfl rfl (by first | exact Nat.le_of_ble_eq_true rfl | omega | (dsimp only; omega) | (simp only [addS_eq, mulS_eq]; omega)) (by assumption) ?_) | (refine QuG.keep ?_; first | refine QuG.elF cok hE (hrx _) rfl rfl rfl rfl elO hix (by decide) l53 ?_) | refine SeqS.go cok ?_ | refine And.intro (by omega) ?_ | (refine NatS.keep ?_; first | with_reducible refine NatS.nat ?_) | (refine still_in ?_; first | refine still_drop (by decide) ?_) | refine W.drawI 15 cok [0, 1, 3, 7, 0, 0, 0, 96, 224, 480, 992, 2047, 4095, 8191] [0, 1, 2, 3, 4, 5, 6, 7, 8, 9, 10, 11, 12, 13] [3, 9] (by kernel_rfl) (by kernel_rfl) ?_)
        refine callOpen hV4 hp4 (hBx.mono hs (by simp)) (by show c2 2435 = HL.sl b 0 (V.ac ++ [({ newA a with nonce := nn, bal := bev bs } : VA)]).length cap2; rw [hsl2, List.length_append, hVl]; rfl) fun oa oc J2 ca5 Y2 MJ2 hs2 hB2 hA2 => ?_
        have hrx2 : ∀ G, Rd ⟨J2, G⟩ x := fun _ => .inl (hs2 _ (hs _ hxI))
        have hE5 := hA2.els
        rw [show ({ V.ent a t with ac := V.ac ++ [({ newA a with nonce := nn, bal := bev bs } : VA)], jr := (V.ent a t).jr } : Vl).ac.map VA.enc = V.ac.map VA.enc ++ [({ newA a with nonce := nn, bal := bev bs } : VA).enc] by show (V.ac ++ [({ newA a with nonce := nn, bal := bev bs } : VA)]).map VA.enc = _; rw [List.map_append]; rfl] at hE5
        have hi5 : i < (V.ac.map VA.enc ++ [({ newA a with nonce := nn, bal := bev bs } : VA).enc]).length := by rw [List.length_append, hml]; simp
        repeat (first | (refine OpG.keep ?_; refine OpG.elF cok 1 rfl hE5 rfl rfl rfl rfl elO hi5 (by decide) (u := .slice oa cd.length oc) rfl rfl ?_) | refine And.intro (by omega) ?_ | (refine NatS.keep ?_; first | with_reducible refine NatS.nat ?_) | (refine still_in ?_; first | refine still_drop (by decide) ?_ | (refine still_keep (by decide) rfl ?_ ?_; first | exact QuV.l1 cok 0 rfl rfl rfl rfl rfl (by first | exact Nat.le_of_ble_eq_true rfl | omega | (dsimp only; omega) | (simp only [addS_eq, mulS_eq]; omega)) (by assumption))))
        intro ca6 hE6
        rw [getD_last hml, set_last hml] at hE6
        repeat (first | (refine QuG.keep ?_; refine QuG.elF cok hE (hrx2 _) rfl rfl rfl rfl elO hix (by decide) l54 ?_) | refine SeqS.go cok ?_ | refine And.intro (by omega) ?_ | (refine NatS.keep ?_; first | with_reducible refine NatS.nat ?_) | (refine still_in ?_; first | refine still_drop (by decide) ?_))
        refine W.rounds cok (by kernel_rfl) 1 ?_
        repeat (first | refine SeqS.go cok ?_ | refine CondS.f rfl ?_ | (refine ValS.keep ?_; first | (with_reducible refine ValS.kI64 ?_; first | (with_reducible refine ValS.addI64_L ?_ ?_ ; omega))))
        have hend := fillEnd (hs2 := hs2) hV hO2 hent hsl0 hjr0 hnm hrf hlg htp hfp ha hnn hbs hbb hcdl hB2 hA2 hE6 (by omega)
        exact ⟨i + 1, Rel.same ⟨⟨J2, c2, _, _, hs.trans hs2, rfl, hend.1, hend.2, fun k hk2 => (hout k hk2).trans (hk k hk2)⟩, hlt, rfl, rfl, rfl, rfl, trivial⟩, by show 2 - (i + 1) < 2 - i; omega⟩
      · obtain rfl : i = 2 := by omega
        repeat (first | refine SeqS.go cok ?_ | refine CondS.f rfl ?_)
        exact ⟨J, c', G', V, hs, rfl, hV, ⟨v1, v2, hac, hsl0, hjr0, hnm, hrf, hlg, htp, hO⟩, hk⟩
  · rintro i e' S2 - ⟨⟨c', rfl, hk, h1⟩, hi, hsl⟩
    refine W.slots _ hsl fun e => ?_
    by_cases hlt : i < 4096
    · repeat (first | refine SeqS.go cok ?_ | refine And.intro (by omega) ?_ | (refine NatS.keep ?_; first | with_reducible refine NatS.nat ?_) | (refine ValS.keep ?_; first | (with_reducible refine ValS.kI64 ?_; first | (with_reducible refine ValS.addI64_L ?_ ?_ ; omega))) | (refine OpG.keep ?_; first | refine OpG.s1 cok 0 rfl rfl rfl rfl rfl (by first | exact Nat.le_of_ble_eq_true rfl | omega | (dsimp only; omega) | (simp only [addS_eq, mulS_eq]; omega)) rfl rfl ?_) | (refine CondS.keep ?_; first | refine CondS.d1 rfl (by omega) ?_))
      refine ⟨i + 1, Rel.same ⟨⟨_, rfl, fun k hk2 => ?_, fun p hp => ?_⟩, hlt, rfl, rfl, rfl, trivial⟩, by show 4096 - (i + 1) < 4096 - i; omega⟩
      · refine (updNe ?_).trans ((updNe ?_).trans (hk k hk2))
        · show k ≠ addS 6533 (mulS i 1)
          rw [addS_eq, mulS_eq]; omega
        · show k ≠ addS 2437 (mulS i 1)
          rw [addS_eq, mulS_eq]; omega
      · show upd (upd c' (addS 2437 (mulS i 1)) (.int .i32 (-1))) (addS 6533 (mulS i 1)) (.int .i32 (-1)) (2437 + p) = _ ∧ upd (upd c' (addS 2437 (mulS i 1)) (.int .i32 (-1))) (addS 6533 (mulS i 1)) (.int .i32 (-1)) (6533 + p) = _
        rw [addS_eq, addS_eq, mulS_eq, Nat.mul_one]
        by_cases hpi : p = i
        · subst hpi
          exact ⟨(updNe (by omega)).trans updEq, updEq⟩
        · rw [updNe (by omega), updNe (by omega), updNe (by omega), updNe (by omega)]
          exact h1 p (by omega)
    · obtain rfl : i = 4096 := by omega
      repeat (first | refine SeqS.go cok ?_ | refine CondS.f rfl ?_)
      exact ⟨⟨c', rfl, vl0_vi hz hk h1, fun k hk2 => hk k (by omega)⟩, rfl, rfl, trivial⟩
end Go.Proofs.YgvafwGreat
