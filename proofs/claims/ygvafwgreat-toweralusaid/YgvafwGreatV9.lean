import Derived.Test.YgvafwGreatV8
set_option exponentiation.threshold 1000
set_option maxRecDepth 100000
set_option maxHeartbeats 4000000
set_option linter.unusedVariables false
set_option linter.unusedSimpArgs false
-- v2
-- v4
-- v5
-- v6
-- v7
-- still: exact QuV.of (QuG.elS cok (by assumption) (by first | assumption | exact ‹∀ L, Rd ⟨_, L ++ _⟩ _› [_, _]) rfl rfl rfl rfl elO (by assumption) (by decide) (by assumption) rfl)
namespace Go.Proofs.YgvafwGreat
open Go.HL Go.Proofs

theorem eW (kd pl w : Nat) : cellsFrom (fillC z228 [(0, 1, .int .u8 (kd : Nat)), (1, 1, .int .i32 (pl : Nat)), (3, 4, .agg (wcs w).toArray)]) 0 9 = (VE.mk kd pl 0 w false).enc := rfl
theorem eN (kd pl n : Nat) : cellsFrom (fillC z228 [(0, 1, .int .u8 (kd : Nat)), (1, 1, .int .i32 (pl : Nat)), (2, 1, .int .u64 (n : Nat))]) 0 9 = (VE.mk kd pl n 0 false).enc := by
  show _ = .int .u8 (kd : Nat) :: .int .i32 (pl : Nat) :: .int .u64 (n : Nat) :: (wcs 0 ++ [.slice none 0 0, .bool false])
  rw [wcs0]; rfl
theorem eF (kd pl : Nat) (f : Bool) : cellsFrom (fillC z228 [(0, 1, .int .u8 (kd : Nat)), (1, 1, .int .i32 (pl : Nat)), (8, 1, .bool f)]) 0 9 = (VE.mk kd pl 0 0 f).enc := by
  show _ = .int .u8 (kd : Nat) :: .int .i32 (pl : Nat) :: .int .u64 ((0 : Nat) : Int) :: (wcs 0 ++ [.slice none 0 0, .bool f])
  rw [wcs0]; rfl
theorem VE.enc_one (x : VE) : ∀ u ∈ x.enc, one u = true := by
  intro u hu
  simp only [VE.enc, wcs, List.mem_cons, List.cons_append, List.nil_append, List.not_mem_nil, or_false] at hu
  rcases hu with rfl | rfl | rfl | rfl | rfl | rfl | rfl | rfl | rfl <;> rfl
theorem VOk.setA {V : Vl} (hO : VOk V) {i : Nat} {x : VA} {e : VE} (hi : i < V.ac.length) (had : x.ad = (V.ac.getD i dVA).ad) (hn : x.nonce < 2 ^ 64) (hb : x.bal < 2 ^ 256) (hc : x.code.length < 2 ^ 20) (hj : V.jr.length < 59990) (he : e.w < 2 ^ 256 ∧ e.kd < 11 ∧ e.pl < 2147483648 ∧ e.n < 2 ^ 64) : VOk { V with ac := V.ac.set i x, jr := V.jr ++ [e] } := by
  have hm : ∀ {P : VA → Prop}, (∀ x ∈ V.ac, P x) → P x → ∀ y ∈ V.ac.set i x, P y := by
    intro P h1 h2 y hy
    rcases List.mem_or_eq_of_mem_set hy with h | h
    · exact h1 y h
    · rw [h]; exact h2
  have hmap : (V.ac.set i x).map VA.ad = V.ac.map VA.ad := by
    rw [List.map_set, had]
    have h1 : i < (V.ac.map VA.ad).length := by rw [List.length_map]; exact hi
    have h2 : (V.ac.getD i dVA).ad = (V.ac.map VA.ad)[i] := by rw [List.getD_eq_getElem?_getD, List.getElem?_eq_getElem hi]; simp
    rw [h2, List.set_getElem_self]
  have hlen : (V.ac.set i x).length = V.ac.length := List.length_set
  have hg : ∀ j, ((V.ac.set i x).getD j dVA).ad = (V.ac.getD j dVA).ad := by
    intro j
    by_cases hij : i = j
    · subst hij; rw [_root_.Go.HL.getD_set_eq hi, had]
    · rw [_root_.Go.HL.getD_set_ne hij]
  refine { hO with aok := hm hO.aok (by rw [had]; exact hO.aok _ (getD_mem hi)), anc := hm hO.anc hn, abl := hm hO.abl hb, acd := hm hO.acd hc, and := ?_, ata := ?_, aln := ?_, jln := ?_, jrw := ?_ }
  · show ((V.ac.set i x).map VA.ad).Nodup
    rw [hmap]; exact hO.and
  · show TabOk 4096 V.ta (fun j => homeA ((V.ac.set i x).getD j dVA).ad) (V.ac.set i x).length
    rw [hlen]
    simp only [hg]
    exact hO.ata
  · show (V.ac.set i x).length < 2000
    rw [hlen]; exact hO.aln
  · show (V.jr ++ [e]).length < 60000
    rw [List.length_append, List.length_singleton]; omega
  · intro y hy
    rcases List.mem_append.1 hy with h | h
    · exact hO.jrw y h
    · obtain rfl := List.mem_singleton.1 h; exact he
/-- The vault with account a changed to x and the entry e behind the journal. -/
def Vl.setA (V : Vl) (a : List Nat) (t : Nat → Int) (x : VA) (e : VE) : Vl := { V.ent a t with ac := (V.ent a t).ac.set (V.ix a) x, jr := V.jr ++ [e] }
theorem Vl.ent_jr {V : Vl} {a : List Nat} {t : Nat → Int} : (V.ent a t).jr = V.jr := by unfold Vl.ent; split <;> rfl
theorem Vl.ent_acc {V : Vl} {a : List Nat} {t : Nat → Int} : (V.ent a t).ac.getD (V.ix a) dVA = if V.ix a < V.ac.length then V.acc a else newA a := by
  unfold Vl.ent
  split
  · rfl
  · rename_i h
    have : V.ix a = V.ac.length := Nat.le_antisymm List.findIdx_le_length (by omega)
    show (V.ac ++ [newA a]).getD (V.ix a) dVA = _
    rw [this, List.getD_eq_getElem?_getD, List.getElem?_append_right (Nat.le_refl _), Nat.sub_self]; rfl
/-- The account with its own address, zeros if there is none. -/
def Vl.acc' (V : Vl) (a : List Nat) : VA := if V.ix a < V.ac.length then V.acc a else newA a
theorem perm_s3 {x y c s : Ent} {R Y M : List Ent} : (x :: y :: c :: s :: ((R ++ Y) ++ M)).Perm ((c :: (R ++ (s :: (Y ++ M)))) ++ [x, y]) := by
  refine perm_sum fun f => ?_
  simp only [sumE, sumE_append]; omega
theorem perm_s2 {x c s : Ent} {R Y M : List Ent} : (x :: c :: s :: ((R ++ Y) ++ M)).Perm ((c :: (R ++ (s :: (Y ++ M)))) ++ [x]) := by
  refine perm_sum fun f => ?_
  simp only [sumE, sumE_append]; omega
/-- What a setter of an account leaves. -/
def SetAP (I : Ent → Prop) (R : List Ent) (cb sz : Nat) (T : TypeId) (c : Nat → Value) (V : Vl) (a : List Nat) (x : VA) (e : VE) : Post := fun r S' =>
  r = .bool true ∧ ∃ c' G' t, S' = ⟨I, ⟨cb, sz, T, c'⟩ :: (R ++ G')⟩ ∧ VI I c' (V.setA a t x e) G' ∧ VOk (V.setA a t x e) ∧ Out c c'
theorem out10629 {c : Nat → Value} {v : Value} : Out c (upd c 10629 v) := fun k hk => updNe (by omega)
theorem closeA {I : Ent → Prop} {c1 : Nat → Value} {V : Vl} {a : List Nat} {t : Nat → Int} {b cap i : Nat} {ca ca' : Nat → Value} {Y MJ M' : List Ent} {v' : Value} {x : VA} {e : VE} {l : List Value} (hA : AO I c1 (V.ent a t) b cap ca Y MJ) (hV1 : VI I c1 (V.ent a t) (⟨b, mulS cap 29, 177, ca⟩ :: (Y ++ MJ))) (hix : V.ix a = i)
    (hE : Els ⟨b, mulS cap 29, 177, ca'⟩ 0 29 (((V.ent a t).ac.map VA.enc).set i l)) (hl : l = x.enc) (hj : OwnL 228 9 v' ((V.ent a t).jr.map VE.enc ++ [e.enc]) M') (hx : Byt ⟨I, []⟩ x.cv x.code) : VI I (upd c1 10629 v') (V.setA a t x e) (⟨b, mulS cap 29, 177, ca'⟩ :: (Y ++ M')) := by
  have := hA.close ca' v' ((V.ent a t).ac.set i x) ((V.ent a t).jr ++ [e]) M' (by rw [List.map_set, ← hl]; exact hE) List.length_set (by rw [List.map_append]; exact hj) (by
    intro y hy
    rcases List.mem_or_eq_of_mem_set hy with h | h
    · exact hV1.cd y h
    · rw [h]; exact hx)
  rw [Vl.ent_jr] at this
  unfold Vl.setA
  rw [hix]; exact this
theorem okA {V : Vl} {a : List Nat} {t : Nat → Int} {i : Nat} {x : VA} {e : VE} (hO : VOk (V.ent a t)) (hix : V.ix a = i) (had : x.ad = (V.acc' a).ad) (hn : x.nonce < 2 ^ 64) (hb : x.bal < 2 ^ 256) (hc : x.code.length < 2 ^ 20) (hj : V.jr.length < 59990) (he : e.w < 2 ^ 256 ∧ e.kd < 11 ∧ e.pl < 2147483648 ∧ e.n < 2 ^ 64) : VOk (V.setA a t x e) := by
  have := hO.setA (i := V.ix a) (x := x) (e := e) Vl.ent_ix (by rw [Vl.ent_acc]; exact had) hn hb hc (by rw [Vl.ent_jr]; exact hj) he
  rw [Vl.ent_jr] at this
  exact this
theorem setBal {x : VA} {v : Nat} (h : x.ad.length = 20) : setN x.enc 21 (wcs v) = ({ x with bal := v } : VA).enc := by
  unfold setN VA.enc
  rw [List.take_append, List.take_of_length_le (by rw [bvs_len]; omega), bvs_len, h, List.drop_append, List.drop_of_length_le (by rw [bvs_len, h]; show 20 ≤ 21 + 4; decide), bvs_len, h]
  simp [wcs]
/-- vault.Vault.PutBalance -/
theorem vPutBalance {I : Ent → Prop} {R G : List Ent} {cb sz v : Nat} {T : TypeId} {c : Nat → Value} {V : Vl} {a : List Nat} (hsz : 27019 ≤ sz) (hV : VI I c V G) (hO : VOk V) (ha : AdOk a) (hroom : V.ac.length < 1990) (hj : V.jr.length < 59990) (hv : v < 115792089237316195423570985008687907853269984665640564039457584007913129639936) :
    CallG Hvaf.prog 107 #[ptr cb 2435, bytesV a, .agg (wcs v).toArray] ⟨I, ⟨cb, sz, T, c⟩ :: (R ++ G)⟩ (SetAP I R cb sz T c V a { V.acc' a with bal := v } ⟨0, V.ix a, 0, (V.acc' a).bal, false⟩) := by
  have hal := ha.len
  have hab := ha.bv
  have hln := hO.aln
  have hixl : V.ix a ≤ V.ac.length := List.findIdx_le_length
  have hvl : (wcs v).length = 4 := rfl
  have hvo := wcs_one v
  have hrm := vRoom (R := R) (cb := cb) (T := T) hsz hV hO
  have hac := vAcctO (R := R) (cb := cb) (T := T) hsz hV hO ha hroom
  generalize hix : V.ix a = i at *
  refine CallG.start (C := mkC Hvaf.prog) cok (args := [ptr cb 2435, bytesV a, .agg (wcs v).toArray]) Hvaf.func107 rfl Hvaf.ntmps107 (by simp) (by kernel_rfl) ?_
  intro xb kb
  repeat (first | refine SeqS.go cok ?_)
  refine CallG.sameL [_, _] hrm ?_
  repeat (first | (refine QuG.keep ?_; first | refine QuG.boxL cok 1 rfl rfl rfl rfl rfl (by assumption) ?_) | refine SeqS.go cok ?_ | refine CondS.f rfl ?_)
  refine CallG.behind [_, _] hac ?_
  rintro r J G1 hs ⟨c1, b, cap, ca, Y, MJ, t, rfl, hS, hA, hV1, hO1, hout⟩
  cases hS
  have hiL : i < (V.ent a t).ac.length := hix ▸ Vl.ent_ix
  have hi' : i < ((V.ent a t).ac.map VA.enc).length := by rw [List.length_map]; exact hiL
  have hgd : (V.ent a t).ac.getD i dVA = V.acc' a := by rw [← hix]; exact Vl.ent_acc
  have hm : V.acc' a ∈ (V.ent a t).ac := hgd ▸ getD_mem hiL
  have hmap : ((V.ent a t).ac.map VA.enc).getD i [] = (V.acc' a).enc := by rw [getD_map (d := dVA) hiL, hgd]
  have hen : ((((V.ent a t).ac.map VA.enc).getD i []).drop 21).take 4 = wcs (V.acc' a).bal := by
    rw [hmap, VA.enc, List.drop_append, List.drop_of_length_le (by rw [bvs_len, (hO1.aok _ hm).len]; decide), bvs_len, (hO1.aok _ hm).len]; rfl
  have q0 := (hO1.aok _ hm).len
  have q1 := hV1.cd _ hm
  have q2 := hO1.anc _ hm
  have q3 := hO1.acd _ hm
  have q4 := hO1.abl _ hm
  have hE := hA.els
  have hsl := hA.sl
  have hjr := hA.jr
  obtain ⟨jad, jcap, hjf⟩ := hjr.form
  rw [List.length_map] at hjf
  rw [hjf] at hjr
  have hrd : ∀ L, Rd ⟨I, L ++ (⟨cb, sz, T, c1⟩ :: ⟨b, mulS cap 29, 177, ca⟩ :: ((R ++ Y) ++ MJ))⟩ ⟨b, mulS cap 29, 177, ca⟩ := fun L => .inr (by simp)
  repeat (first | (refine QuG.keep ?_; refine QuG.elS cok hE (hrd [_, _]) rfl rfl rfl rfl elO hi' (by decide) hen ?_) | (refine QuG.keep ?_; first | refine QuG.l1E cok 2 rfl rfl rfl rfl rfl (by first | exact Nat.le_of_ble_eq_true rfl | omega | (dsimp only; omega) | (simp only [addS_eq, mulS_eq]; omega)) (by assumption) ?_) | refine SeqS.go cok ?_ | refine CondS.f rfl ?_ | refine And.intro (fillOk_of (Eq.refl true)) ?_ | refine And.intro (Eq.refl true) ?_ | refine And.intro (by omega) ?_ | refine And.intro (by dsimp only; omega) ?_ | (refine NatS.keep ?_; first | with_reducible refine NatS.nat ?_) | refine W.drawI 6 cok [0, 0, 2, 6, 14, 0, 0, 64, 192, 448, 0, 1984, 4032, 8128, 16352, 32736, 65534, 131071, 262143, 524287] [0, 1, 2, 3, 4, 5, 6, 7, 8, 9, 10, 11, 12, 13, 14, 15, 16, 17, 18, 19] [4, 9, 13] (by kernel_rfl) (by kernel_rfl) ?_)
  intro tb
  repeat (first | (refine still_in ?_; first | refine still_nil ?_ | refine still_drop (by decide) ?_ | (refine still_keep (by decide) rfl ?_ ?_; first | exact QuV.l1 cok 3 rfl rfl rfl rfl rfl (by first | exact Nat.le_of_ble_eq_true rfl | omega | (dsimp only; omega) | (simp only [addS_eq, mulS_eq]; omega)) (by assumption))))
  refine OpG.keep ?_
  refine OpG.app1 cok (L := _ :: _ :: _ :: _ :: (R ++ Y)) (M := MJ) (vss := (V.ent a t).jr.map VE.enc) (el := (VE.mk 0 i 0 (V.acc' a).bal false).enc) rfl rfl rfl rfl rfl rfl rfl rfl rfl ?_ ?_ ?_ ?_ ?_ ?_
  · exact hjr
  · exact row_eq (eW 0 i _) (Row.updN2 _ 0 _)
  · rfl
  · exact VE.enc_one _
  · rw [List.length_map, Vl.ent_jr]; omega
  intro v' M' hO'
  have hone' := hO'.one
  have hsl2 : upd c1 10629 v' 2435 = sl b 0 (V.ent a t).ac.length cap := (updNe (by decide)).trans hsl
  repeat (first | (refine QuG.keep ?_; first | refine QuG.l1E cok 2 rfl rfl rfl rfl rfl (by first | exact Nat.le_of_ble_eq_true rfl | omega | (dsimp only; omega) | (simp only [addS_eq, mulS_eq]; omega)) (by assumption) ?_ | refine QuG.boxL cok 0 rfl rfl rfl rfl rfl (by assumption) ?_) | (refine OpG.keep ?_; first | refine OpG.s1 cok 2 rfl rfl rfl rfl rfl (by first | exact Nat.le_of_ble_eq_true rfl | omega | (dsimp only; omega) | (simp only [addS_eq, mulS_eq]; omega)) rfl (by assumption) ?_) | refine SeqS.go cok ?_ | refine And.intro (by omega) ?_ | (refine NatS.keep ?_; first | with_reducible refine NatS.nat ?_) | (refine still_in ?_; first | refine still_drop (by decide) ?_) | refine W.drawI 7 cok [0, 1, 3, 7, 0, 0, 63, 127, 255] [0, 1, 2, 3, 4, 5, 6, 7, 8] [3, 5] (by kernel_rfl) (by kernel_rfl) ?_)
  refine OpG.keep ?_
  refine OpG.elS cok 3 (vs := wcs v) rfl hE rfl rfl rfl elO hi' rfl hvl (by show 21 + 4 ≤ 29; decide) hvo ?_
  intro ca' hE'
  repeat (first | refine SeqS.go cok ?_ | (refine still_in ?_; first | refine still_drop (by decide) ?_))
  exact Fin.perm [_, _] (⟨cb, sz, T, _⟩ :: (R ++ (⟨b, mulS cap 29, 177, ca'⟩ :: (Y ++ M')))) perm_s3 ⟨rfl, _, _, t, rfl, closeA hA hV1 hix hE' (by rw [hmap]; exact setBal q0) hO' q1, okA hO1 hix rfl q2 hv q3 hj ⟨q4, by show 0 < 11; decide, by show i < _; omega, by show 0 < 2 ^ 64; decide⟩, hout.trans out10629⟩
end Go.Proofs.YgvafwGreat
