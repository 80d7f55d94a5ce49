import Derived.Test.YgvafwGreatV9
set_option exponentiation.threshold 1000
set_option maxRecDepth 100000
set_option maxHeartbeats 4000000
set_option linter.unusedVariables false
set_option linter.unusedSimpArgs false
-- v2
-- v4
-- v5
-- v6
-- v7
-- still: exact QuV.of (QuG.elF cok (by assumption) (by first | assumption | exact ‹∀ L, Rd ⟨_, L ++ _⟩ _› [_]) rfl rfl rfl rfl elO (by assumption) (by decide) (by assumption) rfl)
namespace Go.Proofs.YgvafwGreat
open Go.HL Go.Proofs

theorem setAt {x : VA} (p : Nat) {v : Value} (h : x.ad.length = 20) : x.enc.set (20 + p) v = bvs x.ad ++ ((.int .u64 (x.nonce : Nat) :: (wcs x.bal ++ [x.cv, .bool x.warm, .bool x.made, .bool x.gone])).set p v) := by
  rw [VA.enc, List.set_append_right _ _ (by rw [bvs_len]; omega), bvs_len, h, Nat.add_sub_cancel_left]
theorem setNonce {x : VA} {v : Nat} (h : x.ad.length = 20) : x.enc.set 20 (.int .u64 (v : Nat)) = ({ x with nonce := v } : VA).enc := setAt 0 h
theorem setWarm {x : VA} (h : x.ad.length = 20) : x.enc.set 26 (.bool true) = ({ x with warm := true } : VA).enc := setAt 6 h
theorem setMade {x : VA} (h : x.ad.length = 20) : x.enc.set 27 (.bool true) = ({ x with made := true } : VA).enc := setAt 7 h
theorem setGone {x : VA} (h : x.ad.length = 20) : x.enc.set 28 (.bool true) = ({ x with gone := true } : VA).enc := setAt 8 h
/-- vault.Vault.PutNonce -/
theorem vPutNonce {I : Ent → Prop} {R G : List Ent} {cb sz v : Nat} {T : TypeId} {c : Nat → Value} {V : Vl} {a : List Nat} (hsz : 27019 ≤ sz) (hV : VI I c V G) (hO : VOk V) (ha : AdOk a) (hroom : V.ac.length < 1990) (hj : V.jr.length < 59990) (hv : v < 18446744073709551616) :
    CallG Hvaf.prog 106 #[ptr cb 2435, bytesV a, .int .u64 (v : Nat)] ⟨I, ⟨cb, sz, T, c⟩ :: (R ++ G)⟩ (SetAP I R cb sz T c V a { V.acc' a with nonce := v } ⟨1, V.ix a, (V.acc' a).nonce, 0, false⟩) := by
  have hal := ha.len
  have hab := ha.bv
  have hln := hO.aln
  have hixl : V.ix a ≤ V.ac.length := List.findIdx_le_length
  have hrm := vRoom (R := R) (cb := cb) (T := T) hsz hV hO
  have hac := vAcctO (R := R) (cb := cb) (T := T) hsz hV hO ha hroom
  generalize hix : V.ix a = i at *
  refine CallG.start (C := mkC Hvaf.prog) cok (args := [ptr cb 2435, bytesV a, .int .u64 (v : Nat)]) Hvaf.func106 rfl Hvaf.ntmps106 (by simp) (by kernel_rfl) ?_
  intro xb
  repeat (first | refine SeqS.go cok ?_)
  refine CallG.sameL [_] hrm ?_
  repeat (first | (refine QuG.keep ?_; first | refine QuG.boxL cok 0 rfl rfl rfl rfl rfl (by assumption) ?_) | refine SeqS.go cok ?_ | refine CondS.f rfl ?_)
  refine CallG.behind [_] hac ?_
  rintro r J G1 hs ⟨c1, b, cap, ca, Y, MJ, t, rfl, hS, hA, hV1, hO1, hout⟩
  cases hS
  have hiL : i < (V.ent a t).ac.length := hix ▸ Vl.ent_ix
  have hi' : i < ((V.ent a t).ac.map VA.enc).length := by rw [List.length_map]; exact hiL
  have hgd : (V.ent a t).ac.getD i dVA = V.acc' a := by rw [← hix]; exact Vl.ent_acc
  have hm : V.acc' a ∈ (V.ent a t).ac := hgd ▸ getD_mem hiL
  have hmap : ((V.ent a t).ac.map VA.enc).getD i [] = (V.acc' a).enc := by rw [getD_map (d := dVA) hiL, hgd]
  have hen : (((V.ent a t).ac.map VA.enc).getD i []).getD 20 undef = .int .u64 ((V.acc' a).nonce : Nat) := by rw [hmap]; exact VA.enc_get _ (hO1.aok _ hm).len 0
  have q0 := (hO1.aok _ hm).len
  have q1 := hV1.cd _ hm
  have q2 := hO1.anc _ hm
  have q3 := hO1.acd _ hm
  have q4 := hO1.abl _ hm
  have hE := hA.els
  have hsl := hA.sl
  have hjr := hA.jr
  obtain ⟨jad, jcap, hjf⟩ := hjr.form
  rw [List.length_map] at hjf
  rw [hjf] at hjr
  have hrd : ∀ L, Rd ⟨I, L ++ (⟨cb, sz, T, c1⟩ :: ⟨b, mulS cap 29, 177, ca⟩ :: ((R ++ Y) ++ MJ))⟩ ⟨b, mulS cap 29, 177, ca⟩ := fun L => .inr (by simp)
  repeat (first | (refine QuG.keep ?_; refine QuG.elF cok hE (hrd [_]) rfl rfl rfl rfl elO hi' (by decide) hen ?_) | (refine QuG.keep ?_; first | refine QuG.l1E cok 1 rfl rfl rfl rfl rfl (by first | exact Nat.le_of_ble_eq_true rfl | omega | (dsimp only; omega) | (simp only [addS_eq, mulS_eq]; omega)) (by assumption) ?_) | refine SeqS.go cok ?_ | refine CondS.f rfl ?_ | refine And.intro (fillOk_of (Eq.refl true)) ?_ | refine And.intro (Eq.refl true) ?_ | refine And.intro (by omega) ?_ | refine And.intro (by dsimp only; omega) ?_ | (refine NatS.keep ?_; first | with_reducible refine NatS.nat ?_) | refine W.drawI 6 cok [0, 0, 2, 6, 14, 0, 0, 64, 192, 448, 0, 1984, 4032, 8128, 16352, 32736, 65534, 131071, 262143, 524287] [0, 1, 2, 3, 4, 5, 6, 7, 8, 9, 10, 11, 12, 13, 14, 15, 16, 17, 18, 19] [4, 9, 13] (by kernel_rfl) (by kernel_rfl) ?_)
  intro tb
  repeat (first | (refine still_in ?_; first | refine still_nil ?_ | refine still_drop (by decide) ?_ | (refine still_keep (by decide) rfl ?_ ?_; first | exact QuV.l1 cok 2 rfl rfl rfl rfl rfl (by first | exact Nat.le_of_ble_eq_true rfl | omega | (dsimp only; omega) | (simp only [addS_eq, mulS_eq]; omega)) (by assumption))))
  refine OpG.keep ?_
  refine OpG.app1 cok (L := _ :: _ :: _ :: (R ++ Y)) (M := MJ) (vss := (V.ent a t).jr.map VE.enc) (el := (VE.mk 1 i (V.acc' a).nonce 0 false).enc) rfl rfl rfl rfl rfl rfl rfl rfl rfl ?_ ?_ ?_ ?_ ?_ ?_
  · exact hjr
  · exact row_eq (eN 1 i _) (Row.updN2 _ 0 _)
  · rfl
  · exact VE.enc_one _
  · rw [List.length_map, Vl.ent_jr]; omega
  intro v' M' hO'
  have hone' := hO'.one
  have hsl2 : upd c1 10629 v' 2435 = sl b 0 (V.ent a t).ac.length cap := (updNe (by decide)).trans hsl
  repeat (first | (refine QuG.keep ?_; first | refine QuG.l1E cok 1 rfl rfl rfl rfl rfl (by first | exact Nat.le_of_ble_eq_true rfl | omega | (dsimp only; omega) | (simp only [addS_eq, mulS_eq]; omega)) (by assumption) ?_) | (refine OpG.keep ?_; first | refine OpG.s1 cok 1 rfl rfl rfl rfl rfl (by first | exact Nat.le_of_ble_eq_true rfl | omega | (dsimp only; omega) | (simp only [addS_eq, mulS_eq]; omega)) rfl (by assumption) ?_) | refine SeqS.go cok ?_ | refine And.intro (by omega) ?_ | (refine NatS.keep ?_; first | with_reducible refine NatS.nat ?_) | (refine still_in ?_; first | refine still_drop (by decide) ?_))
  refine OpG.keep ?_
  refine OpG.elF cok 2 rfl hE rfl rfl rfl rfl elO hi' (by decide) (u := .int .u64 (v : Nat)) rfl rfl ?_
  intro ca' hE'
  repeat (first | refine SeqS.go cok ?_)
  exact Fin.perm [_] (⟨cb, sz, T, _⟩ :: (R ++ (⟨b, mulS cap 29, 177, ca'⟩ :: (Y ++ M')))) perm_s2 ⟨rfl, _, _, t, rfl, closeA hA hV1 hix hE' (by rw [hmap]; exact setNonce q0) hO' q1, okA hO1 hix rfl hv q4 q3 hj ⟨by show 0 < 2 ^ 256; decide, by show 1 < 11; decide, by show i < _; omega, q2⟩, hout.trans out10629⟩
/-- vault.Vault.WarmAcct -/
theorem vWarmAcct {I : Ent → Prop} {R G : List Ent} {cb sz : Nat} {T : TypeId} {c : Nat → Value} {V : Vl} {a : List Nat} (hsz : 27019 ≤ sz) (hV : VI I c V G) (hO : VOk V) (ha : AdOk a) (hroom : V.ac.length < 1990) (hj : V.jr.length < 59990) :
    CallG Hvaf.prog 183 #[ptr cb 2435, bytesV a] ⟨I, ⟨cb, sz, T, c⟩ :: (R ++ G)⟩ (SetAP I R cb sz T c V a { V.acc' a with warm := true } ⟨4, V.ix a, 0, 0, (V.acc' a).warm⟩) := by
  have hal := ha.len
  have hab := ha.bv
  have hln := hO.aln
  have hixl : V.ix a ≤ V.ac.length := List.findIdx_le_length
  have hrm := vRoom (R := R) (cb := cb) (T := T) hsz hV hO
  have hac := vAcctO (R := R) (cb := cb) (T := T) hsz hV hO ha hroom
  generalize hix : V.ix a = i at *
  refine CallG.start (C := mkC Hvaf.prog) cok (args := [ptr cb 2435, bytesV a]) Hvaf.func183 rfl Hvaf.ntmps183 (by simp) (by kernel_rfl) ?_
  intro xb
  repeat (first | refine SeqS.go cok ?_)
  refine CallG.sameL [_] hrm ?_
  repeat (first | (refine QuG.keep ?_; first | refine QuG.boxL cok 0 rfl rfl rfl rfl rfl (by assumption) ?_) | refine SeqS.go cok ?_ | refine CondS.f rfl ?_)
  refine CallG.behind [_] hac ?_
  rintro r J G1 hs ⟨c1, b, cap, ca, Y, MJ, t, rfl, hS, hA, hV1, hO1, hout⟩
  cases hS
  have hiL : i < (V.ent a t).ac.length := hix ▸ Vl.ent_ix
  have hi' : i < ((V.ent a t).ac.map VA.enc).length := by rw [List.length_map]; exact hiL
  have hgd : (V.ent a t).ac.getD i dVA = V.acc' a := by rw [← hix]; exact Vl.ent_acc
  have hm : V.acc' a ∈ (V.ent a t).ac := hgd ▸ getD_mem hiL
  have hmap : ((V.ent a t).ac.map VA.enc).getD i [] = (V.acc' a).enc := by rw [getD_map (d := dVA) hiL, hgd]
  have hen : (((V.ent a t).ac.map VA.enc).getD i []).getD 26 undef = .bool (V.acc' a).warm := by rw [hmap]; exact VA.enc_get _ (hO1.aok _ hm).len 6
  have q0 := (hO1.aok _ hm).len
  have q1 := hV1.cd _ hm
  have q2 := hO1.anc _ hm
  have q3 := hO1.acd _ hm
  have q4 := hO1.abl _ hm
  have hE := hA.els
  have hsl := hA.sl
  have hjr := hA.jr
  obtain ⟨jad, jcap, hjf⟩ := hjr.form
  rw [List.length_map] at hjf
  rw [hjf] at hjr
  have hrd : ∀ L, Rd ⟨I, L ++ (⟨cb, sz, T, c1⟩ :: ⟨b, mulS cap 29, 177, ca⟩ :: ((R ++ Y) ++ MJ))⟩ ⟨b, mulS cap 29, 177, ca⟩ := fun L => .inr (by simp)
  repeat (first | (refine QuG.keep ?_; refine QuG.elF cok hE (hrd [_]) rfl rfl rfl rfl elO hi' (by decide) hen ?_) | (refine QuG.keep ?_; first | refine QuG.l1E cok 1 rfl rfl rfl rfl rfl (by first | exact Nat.le_of_ble_eq_true rfl | omega | (dsimp only; omega) | (simp only [addS_eq, mulS_eq]; omega)) (by assumption) ?_) | refine SeqS.go cok ?_ | refine CondS.f rfl ?_ | refine And.intro (fillOk_of (Eq.refl true)) ?_ | refine And.intro (Eq.refl true) ?_ | refine And.intro (by omega) ?_ | refine And.intro (by dsimp only; omega) ?_ | (refine NatS.keep ?_; first | with_reducible refine NatS.nat ?_) | refine W.drawI 6 cok [0, 0, 2, 6, 14, 0, 0, 64, 192, 448, 0, 1984, 4032, 8128, 16352, 32736, 65534, 131071, 262143, 524287] [0, 1, 2, 3, 4, 5, 6, 7, 8, 9, 10, 11, 12, 13, 14, 15, 16, 17, 18, 19] [4, 9, 13] (by kernel_rfl) (by kernel_rfl) ?_)
  intro tb
  repeat (first | (refine still_in ?_; first | refine still_nil ?_ | refine still_drop (by decide) ?_ | (refine still_keep (by decide) rfl ?_ ?_; first | exact QuV.l1 cok 2 rfl rfl rfl rfl rfl (by first | exact Nat.le_of_ble_eq_true rfl | omega | (dsimp only; omega) | (simp only [addS_eq, mulS_eq]; omega)) (by assumption))))
  refine OpG.keep ?_
  refine OpG.app1 cok (L := _ :: _ :: _ :: (R ++ Y)) (M := MJ) (vss := (V.ent a t).jr.map VE.enc) (el := (VE.mk 4 i 0 0 (V.acc' a).warm).enc) rfl rfl rfl rfl rfl rfl rfl rfl rfl ?_ ?_ ?_ ?_ ?_ ?_
  · exact hjr
  · exact row_eq (eF 4 i _) (Row.updN2 _ 0 _)
  · rfl
  · exact VE.enc_one _
  · rw [List.length_map, Vl.ent_jr]; omega
  intro v' M' hO'
  have hone' := hO'.one
  have hsl2 : upd c1 10629 v' 2435 = sl b 0 (V.ent a t).ac.length cap := (updNe (by decide)).trans hsl
  repeat (first | (refine QuG.keep ?_; first | refine QuG.l1E cok 1 rfl rfl rfl rfl rfl (by first | exact Nat.le_of_ble_eq_true rfl | omega | (dsimp only; omega) | (simp only [addS_eq, mulS_eq]; omega)) (by assumption) ?_) | (refine OpG.keep ?_; first | refine OpG.s1 cok 1 rfl rfl rfl rfl rfl (by first | exact Nat.le_of_ble_eq_true rfl | omega | (dsimp only; omega) | (simp only [addS_eq, mulS_eq]; omega)) rfl (by assumption) ?_) | refine SeqS.go cok ?_ | refine And.intro (by omega) ?_ | (refine NatS.keep ?_; first | with_reducible refine NatS.nat ?_) | (refine still_in ?_; first | refine still_drop (by decide) ?_))
  refine OpG.keep ?_
  refine OpG.elF cok 2 rfl hE rfl rfl rfl rfl elO hi' (by decide) (u := .bool true) rfl rfl ?_
  intro ca' hE'
  repeat (first | refine SeqS.go cok ?_)
  exact Fin.perm [_] (⟨cb, sz, T, _⟩ :: (R ++ (⟨b, mulS cap 29, 177, ca'⟩ :: (Y ++ M')))) perm_s2 ⟨rfl, _, _, t, rfl, closeA hA hV1 hix hE' (by rw [hmap]; exact setWarm q0) hO' q1, okA hO1 hix rfl q2 q4 q3 hj ⟨by show 0 < 2 ^ 256; decide, by show 4 < 11; decide, by show i < _; omega, by show 0 < 2 ^ 64; decide⟩, hout.trans out10629⟩
/-- vault.Vault.MarkMade -/
theorem vMarkMade {I : Ent → Prop} {R G : List Ent} {cb sz : Nat} {T : TypeId} {c : Nat → Value} {V : Vl} {a : List Nat} (hsz : 27019 ≤ sz) (hV : VI I c V G) (hO : VOk V) (ha : AdOk a) (hroom : V.ac.length < 1990) (hj : V.jr.length < 59990) :
    CallG Hvaf.prog 191 #[ptr cb 2435, bytesV a] ⟨I, ⟨cb, sz, T, c⟩ :: (R ++ G)⟩ (SetAP I R cb sz T c V a { V.acc' a with made := true } ⟨9, V.ix a, 0, 0, (V.acc' a).made⟩) := by
  have hal := ha.len
  have hab := ha.bv
  have hln := hO.aln
  have hixl : V.ix a ≤ V.ac.length := List.findIdx_le_length
  have hrm := vRoom (R := R) (cb := cb) (T := T) hsz hV hO
  have hac := vAcctO (R := R) (cb := cb) (T := T) hsz hV hO ha hroom
  generalize hix : V.ix a = i at *
  refine CallG.start (C := mkC Hvaf.prog) cok (args := [ptr cb 2435, bytesV a]) Hvaf.func191 rfl Hvaf.ntmps191 (by simp) (by kernel_rfl) ?_
  intro xb
  repeat (first | refine SeqS.go cok ?_)
  refine CallG.sameL [_] hrm ?_
  repeat (first | (refine QuG.keep ?_; first | refine QuG.boxL cok 0 rfl rfl rfl rfl rfl (by assumption) ?_) | refine SeqS.go cok ?_ | refine CondS.f rfl ?_)
  refine CallG.behind [_] hac ?_
  rintro r J G1 hs ⟨c1, b, cap, ca, Y, MJ, t, rfl, hS, hA, hV1, hO1, hout⟩
  cases hS
  have hiL : i < (V.ent a t).ac.length := hix ▸ Vl.ent_ix
  have hi' : i < ((V.ent a t).ac.map VA.enc).length := by rw [List.length_map]; exact hiL
  have hgd : (V.ent a t).ac.getD i dVA = V.acc' a := by rw [← hix]; exact Vl.ent_acc
  have hm : V.acc' a ∈ (V.ent a t).ac := hgd ▸ getD_mem hiL
  have hmap : ((V.ent a t).ac.map VA.enc).getD i [] = (V.acc' a).enc := by rw [getD_map (d := dVA) hiL, hgd]
  have hen : (((V.ent a t).ac.map VA.enc).getD i []).getD 27 undef = .bool (V.acc' a).made := by rw [hmap]; exact VA.enc_get _ (hO1.aok _ hm).len 7
  have q0 := (hO1.aok _ hm).len
  have q1 := hV1.cd _ hm
  have q2 := hO1.anc _ hm
  have q3 := hO1.acd _ hm
  have q4 := hO1.abl _ hm
  have hE := hA.els
  have hsl := hA.sl
  have hjr := hA.jr
  obtain ⟨jad, jcap, hjf⟩ := hjr.form
  rw [List.length_map] at hjf
  rw [hjf] at hjr
  have hrd : ∀ L, Rd ⟨I, L ++ (⟨cb, sz, T, c1⟩ :: ⟨b, mulS cap 29, 177, ca⟩ :: ((R ++ Y) ++ MJ))⟩ ⟨b, mulS cap 29, 177, ca⟩ := fun L => .inr (by simp)
  repeat (first | (refine QuG.keep ?_; refine QuG.elF cok hE (hrd [_]) rfl rfl rfl rfl elO hi' (by decide) hen ?_) | (refine QuG.keep ?_; first | refine QuG.l1E cok 1 rfl rfl rfl rfl rfl (by first | exact Nat.le_of_ble_eq_true rfl | omega | (dsimp only; omega) | (simp only [addS_eq, mulS_eq]; omega)) (by assumption) ?_) | refine SeqS.go cok ?_ | refine CondS.f rfl ?_ | refine And.intro (fillOk_of (Eq.refl true)) ?_ | refine And.intro (Eq.refl true) ?_ | refine And.intro (by omega) ?_ | refine And.intro (by dsimp only; omega) ?_ | (refine NatS.keep ?_; first | with_reducible refine NatS.nat ?_) | refine W.drawI 6 cok [0, 0, 2, 6, 14, 0, 0, 64, 192, 448, 0, 1984, 4032, 8128, 16352, 32736, 65534, 131071, 262143, 524287] [0, 1, 2, 3, 4, 5, 6, 7, 8, 9, 10, 11, 12, 13, 14, 15, 16, 17, 18, 19] [4, 9, 13] (by kernel_rfl) (by kernel_rfl) ?_)
  intro tb
  repeat (first | (refine still_in ?_; first | refine still_nil ?_ | refine still_drop (by decide) ?_ | (refine still_keep (by decide) rfl ?_ ?_; first | exact QuV.l1 cok 2 rfl rfl rfl rfl rfl (by first | exact Nat.le_of_ble_eq_true rfl | omega | (dsimp only; omega) | (simp only [addS_eq, mulS_eq]; omega)) (by assumption))))
  refine OpG.keep ?_
  refine OpG.app1 cok (L := _ :: _ :: _ :: (R ++ Y)) (M := MJ) (vss := (V.ent a t).jr.map VE.enc) (el := (VE.mk 9 i 0 0 (V.acc' a).made).enc) rfl rfl rfl rfl rfl rfl rfl rfl rfl ?_ ?_ ?_ ?_ ?_ ?_
  · exact hjr
  · exact row_eq (eF 9 i _) (Row.updN2 _ 0 _)
  · rfl
  · exact VE.enc_one _
  · rw [List.length_map, Vl.ent_jr]; omega
  intro v' M' hO'
  have hone' := hO'.one
  have hsl2 : upd c1 10629 v' 2435 = sl b 0 (V.ent a t).ac.length cap := (updNe (by decide)).trans hsl
  repeat (first | (refine QuG.keep ?_; first | refine QuG.l1E cok 1 rfl rfl rfl rfl rfl (by first | exact Nat.le_of_ble_eq_true rfl | omega | (dsimp only; omega) | (simp only [addS_eq, mulS_eq]; omega)) (by assumption) ?_) | (refine OpG.keep ?_; first | refine OpG.s1 cok 1 rfl rfl rfl rfl rfl (by first | exact Nat.le_of_ble_eq_true rfl | omega | (dsimp only; omega) | (simp only [addS_eq, mulS_eq]; omega)) rfl (by assumption) ?_) | refine SeqS.go cok ?_ | refine And.intro (by omega) ?_ | (refine NatS.keep ?_; first | with_reducible refine NatS.nat ?_) | (refine still_in ?_; first | refine still_drop (by decide) ?_))
  refine OpG.keep ?_
  refine OpG.elF cok 2 rfl hE rfl rfl rfl rfl elO hi' (by decide) (u := .bool true) rfl rfl ?_
  intro ca' hE'
  repeat (first | refine SeqS.go cok ?_)
  exact Fin.perm [_] (⟨cb, sz, T, _⟩ :: (R ++ (⟨b, mulS cap 29, 177, ca'⟩ :: (Y ++ M')))) perm_s2 ⟨rfl, _, _, t, rfl, closeA hA hV1 hix hE' (by rw [hmap]; exact setMade q0) hO' q1, okA hO1 hix rfl q2 q4 q3 hj ⟨by show 0 < 2 ^ 256; decide, by show 9 < 11; decide, by show i < _; omega, by show 0 < 2 ^ 64; decide⟩, hout.trans out10629⟩
/-- vault.Vault.MarkGone -/
theorem vMarkGone {I : Ent → Prop} {R G : List Ent} {cb sz : Nat} {T : TypeId} {c : Nat → Value} {V : Vl} {a : List Nat} (hsz : 27019 ≤ sz) (hV : VI I c V G) (hO : VOk V) (ha : AdOk a) (hroom : V.ac.length < 1990) (hj : V.jr.length < 59990) :
    CallG Hvaf.prog 324 #[ptr cb 2435, bytesV a] ⟨I, ⟨cb, sz, T, c⟩ :: (R ++ G)⟩ (SetAP I R cb sz T c V a { V.acc' a with gone := true } ⟨10, V.ix a, 0, 0, (V.acc' a).gone⟩) := by
  have hal := ha.len
  have hab := ha.bv
  have hln := hO.aln
  have hixl : V.ix a ≤ V.ac.length := List.findIdx_le_length
  have hrm := vRoom (R := R) (cb := cb) (T := T) hsz hV hO
  have hac := vAcctO (R := R) (cb := cb) (T := T) hsz hV hO ha hroom
  generalize hix : V.ix a = i at *
  refine CallG.start (C := mkC Hvaf.prog) cok (args := [ptr cb 2435, bytesV a]) Hvaf.func324 rfl Hvaf.ntmps324 (by simp) (by kernel_rfl) ?_
  intro xb
  repeat (first | refine SeqS.go cok ?_)
  refine CallG.sameL [_] hrm ?_
  repeat (first | (refine QuG.keep ?_; first | refine QuG.boxL cok 0 rfl rfl rfl rfl rfl (by assumption) ?_) | refine SeqS.go cok ?_ | refine CondS.f rfl ?_)
  refine CallG.behind [_] hac ?_
  rintro r J G1 hs ⟨c1, b, cap, ca, Y, MJ, t, rfl, hS, hA, hV1, hO1, hout⟩
  cases hS
  have hiL : i < (V.ent a t).ac.length := hix ▸ Vl.ent_ix
  have hi' : i < ((V.ent a t).ac.map VA.enc).length := by rw [List.length_map]; exact hiL
  have hgd : (V.ent a t).ac.getD i dVA = V.acc' a := by rw [← hix]; exact Vl.ent_acc
  have hm : V.acc' a ∈ (V.ent a t).ac := hgd ▸ getD_mem hiL
  have hmap : ((V.ent a t).ac.map VA.enc).getD i [] = (V.acc' a).enc := by rw [getD_map (d := dVA) hiL, hgd]
  have hen : (((V.ent a t).ac.map VA.enc).getD i []).getD 28 undef = .bool (V.acc' a).gone := by rw [hmap]; exact VA.enc_get _ (hO1.aok _ hm).len 8
  have q0 := (hO1.aok _ hm).len
  have q1 := hV1.cd _ hm
  have q2 := hO1.anc _ hm
  have q3 := hO1.acd _ hm
  have q4 := hO1.abl _ hm
  have hE := hA.els
  have hsl := hA.sl
  have hjr := hA.jr
  obtain ⟨jad, jcap, hjf⟩ := hjr.form
  rw [List.length_map] at hjf
  rw [hjf] at hjr
  have hrd : ∀ L, Rd ⟨I, L ++ (⟨cb, sz, T, c1⟩ :: ⟨b, mulS cap 29, 177, ca⟩ :: ((R ++ Y) ++ MJ))⟩ ⟨b, mulS cap 29, 177, ca⟩ := fun L => .inr (by simp)
  repeat (first | (refine QuG.keep ?_; refine QuG.elF cok hE (hrd [_]) rfl rfl rfl rfl elO hi' (by decide) hen ?_) | (refine QuG.keep ?_; first | refine QuG.l1E cok 1 rfl rfl rfl rfl rfl (by first | exact Nat.le_of_ble_eq_true rfl | omega | (dsimp only; omega) | (simp only [addS_eq, mulS_eq]; omega)) (by assumption) ?_) | refine SeqS.go cok ?_ | refine CondS.f rfl ?_ | refine And.intro (fillOk_of (Eq.refl true)) ?_ | refine And.intro (Eq.refl true) ?_ | refine And.intro (by omega) ?_ | refine And.intro (by dsimp only; omega) ?_ | (refine NatS.keep ?_; first | with_reducible refine NatS.nat ?_) | refine W.drawI 6 cok [0, 0, 2, 6, 14, 0, 0, 64, 192, 448, 0, 1984, 4032, 8128, 16352, 32736, 65534, 131071, 262143, 524287] [0, 1, 2, 3, 4, 5, 6, 7, 8, 9, 10, 11, 12, 13, 14, 15, 16, 17, 18, 19] [4, 9, 13] (by kernel_rfl) (by kernel_rfl) ?_)
  intro tb
  repeat (first | (refine still_in ?_; first | refine still_nil ?_ | refine still_drop (by decide) ?_ | (refine still_keep (by decide) rfl ?_ ?_; first | exact QuV.l1 cok 2 rfl rfl rfl rfl rfl (by first | exact Nat.le_of_ble_eq_true rfl | omega | (dsimp only; omega) | (simp only [addS_eq, mulS_eq]; omega)) (by assumption))))
  refine OpG.keep ?_
  refine OpG.app1 cok (L := _ :: _ :: _ :: (R ++ Y)) (M := MJ) (vss := (V.ent a t).jr.map VE.enc) (el := (VE.mk 10 i 0 0 (V.acc' a).gone).enc) rfl rfl rfl rfl rfl rfl rfl rfl rfl ?_ ?_ ?_ ?_ ?_ ?_
  · exact hjr
  · exact row_eq (eF 10 i _) (Row.updN2 _ 0 _)
  · rfl
  · exact VE.enc_one _
  · rw [List.length_map, Vl.ent_jr]; omega
  intro v' M' hO'
  have hone' := hO'.one
  have hsl2 : upd c1 10629 v' 2435 = sl b 0 (V.ent a t).ac.length cap := (updNe (by decide)).trans hsl
  repeat (first | (refine QuG.keep ?_; first | refine QuG.l1E cok 1 rfl rfl rfl rfl rfl (by first | exact Nat.le_of_ble_eq_true rfl | omega | (dsimp only; omega) | (simp only [addS_eq, mulS_eq]; omega)) (by assumption) ?_) | (refine OpG.keep ?_; first | refine OpG.s1 cok 1 rfl rfl rfl rfl rfl (by first | exact Nat.le_of_ble_eq_true rfl | omega | (dsimp only; omega) | (simp only [addS_eq, mulS_eq]; omega)) rfl (by assumption) ?_) | refine SeqS.go cok ?_ | refine And.intro (by omega) ?_ | (refine NatS.keep ?_; first | with_reducible refine NatS.nat ?_) | (refine still_in ?_; first | refine still_drop (by decide) ?_))
  refine OpG.keep ?_
  refine OpG.elF cok 2 rfl hE rfl rfl rfl rfl elO hi' (by decide) (u := .bool true) rfl rfl ?_
  intro ca' hE'
  repeat (first | refine SeqS.go cok ?_)
  exact Fin.perm [_] (⟨cb, sz, T, _⟩ :: (R ++ (⟨b, mulS cap 29, 177, ca'⟩ :: (Y ++ M')))) perm_s2 ⟨rfl, _, _, t, rfl, closeA hA hV1 hix hE' (by rw [hmap]; exact setGone q0) hO' q1, okA hO1 hix rfl q2 q4 q3 hj ⟨by show 0 < 2 ^ 256; decide, by show 10 < 11; decide, by show i < _; omega, by show 0 < 2 ^ 64; decide⟩, hout.trans out10629⟩
end Go.Proofs.YgvafwGreat
