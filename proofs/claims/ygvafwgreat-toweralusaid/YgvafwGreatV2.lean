import Derived.Test.YgvafwGreatE1
import Derived.Test.YgvafwGreatV1
import Derived.Test.YgvafwGreatP1
set_option exponentiation.threshold 1000
set_option maxRecDepth 100000
set_option maxHeartbeats 4000000
set_option linter.unusedVariables false
set_option linter.unusedSimpArgs false
-- v2
-- v4
-- v5
-- v6
-- v7
-- still: exact QuV.of (QuG.elS cok (by assumption) (by assumption) rfl rfl rfl rfl (by simp only [addS_eq, mulS_eq]) (by assumption) (by decide) (by assumption) rfl)
-- still: exact QuV.of (QuG.boxL cok 0 rfl rfl rfl rfl rfl (by assumption) rfl)
namespace Go.Proofs.YgvafwGreat
open Go.HL Go.Proofs

/-! ### The vault, as it is laid -/
structure VA where
  ad : List Nat
  nonce : Nat
  bal : Nat
  cv : Value
  code : List Nat
  warm : Bool
  made : Bool
  gone : Bool
abbrev dVA : VA := ⟨[], 0, 0, .slice none 0 0, [], false, false, false⟩
def VA.enc (x : VA) : List Value := bvs x.ad ++ (.int .u64 (x.nonce : Nat) :: (wcs x.bal ++ [x.cv, .bool x.warm, .bool x.made, .bool x.gone]))
structure VSl where
  key : Nat
  val : Nat
  orig : Nat
  warm : Bool
abbrev dVS : VSl := ⟨0, 0, 0, false⟩
def VSl.enc (x : VSl) : List Value := .int .i32 ((0 : Nat) : Int) :: (wcs x.key ++ (wcs x.val ++ (wcs x.orig ++ [.bool x.warm])))
structure VTp where
  key : Nat
  val : Nat
abbrev dVT : VTp := ⟨0, 0⟩
def VTp.enc (x : VTp) : List Value := .int .i32 ((0 : Nat) : Int) :: (wcs x.key ++ wcs x.val)
structure VE where
  kd : Nat
  pl : Nat
  n : Nat
  w : Nat
  fl : Bool
abbrev dVE : VE := ⟨0, 0, 0, 0, false⟩
def VE.enc (x : VE) : List Value := .int .u8 (x.kd : Nat) :: .int .i32 (x.pl : Nat) :: .int .u64 (x.n : Nat) :: (wcs x.w ++ [.slice none 0 0, .bool x.fl])
structure Vl where
  ac : List VA
  sl : List VSl
  jr : List VE
  nm : Nat
  mq : Nat
  rf : Nat
  lg : List LG
  tp : List VTp
  ta : Nat → Int
  ts : Nat → Int
  tt : Nat → Int
/-- The transient table with its block. -/
def TTabO (v : Value) (tp : List VTp) (tt : Nat → Int) (M : List Ent) : Prop :=
  (v = .slice none 0 0 ∧ tp = [] ∧ M = []) ∨ ∃ b c, v = sl b 0 16384 16384 ∧ M = [⟨b, 16384, 21, c⟩] ∧ ∀ p, p < 16384 → c p = .int .i32 (tt p)
structure VIB (I : Ent → Prop) (c : Nat → Value) (V : Vl) (MA MS MJ ML MT MH : List Ent) : Prop where
  oa : OwnL 177 29 (c 2435) (V.ac.map VA.enc) MA
  os : OwnL 186 14 (c 2436) (V.sl.map VSl.enc) MS
  oj : OwnL 228 9 (c 10629) (V.jr.map VE.enc) MJ
  ol : LogO I (c 27016) V.lg ML
  ot : OwnL 440 9 (c 27017) (V.tp.map VTp.enc) MT
  oh : TTabO (c 27018) V.tp V.tt MH
/-- The vault's cells and blocks. -/
structure VI (I : Ent → Prop) (c : Nat → Value) (V : Vl) (G : List Ent) : Prop where
  own : ∃ MA MS MJ ML MT MH, G.Perm (MA ++ (MS ++ (MJ ++ (ML ++ (MT ++ MH))))) ∧ VIB I c V MA MS MJ ML MT MH
  ta : ∀ p, p < 4096 → c (2437 + p) = .int .i32 (V.ta p)
  ts : ∀ p, p < 4096 → c (6533 + p) = .int .i32 (V.ts p)
  mrk : c 10630 = .int .i32 (V.mq : Nat)
  nm : c 27014 = .int .i32 (V.nm : Nat)
  rf : c 27015 = .int .u64 (V.rf : Nat)
  cd : ∀ x ∈ V.ac, Byt ⟨I, []⟩ x.cv x.code
/-- The vault's law. -/
structure VOk (V : Vl) : Prop where
  aok : ∀ x ∈ V.ac, AdOk x.ad
  anc : ∀ x ∈ V.ac, x.nonce < 2 ^ 64
  abl : ∀ x ∈ V.ac, x.bal < 2 ^ 256
  acd : ∀ x ∈ V.ac, x.code.length < 2 ^ 20
  and : (V.ac.map VA.ad).Nodup
  ata : TabOk 4096 V.ta (fun i => homeA (V.ac.getD i dVA).ad) V.ac.length
  aln : V.ac.length < 2000
  sky : ∀ x ∈ V.sl, x.key < 2 ^ 256
  sbd : ∀ x ∈ V.sl, x.val < 2 ^ 256 ∧ x.orig < 2 ^ 256
  snd : (V.sl.map VSl.key).Nodup
  sts : TabOk 4096 V.ts (fun i => mixN 0 (V.sl.getD i dVS).key % 4096) V.sl.length
  sln : V.sl.length < 2000
  tky : ∀ x ∈ V.tp, x.key < 2 ^ 256
  tbd : ∀ x ∈ V.tp, x.val < 2 ^ 256
  tnd : (V.tp.map VTp.key).Nodup
  ttt : TabOk 16384 V.tt (fun i => mixN 0 (V.tp.getD i dVT).key % 16384) V.tp.length
  tln : V.tp.length < 12000
  jln : V.jr.length < 60000
  jrw : ∀ x ∈ V.jr, x.w < 2 ^ 256 ∧ x.kd < 11 ∧ x.pl < 2147483648 ∧ x.n < 2 ^ 64
  lln : V.lg.length < 2799
  rfl' : V.rf < 2 ^ 40
def Vl.ix (V : Vl) (a : List Nat) : Nat := V.ac.findIdx fun x => x.ad == a
theorem VA.enc_len {x : VA} (h : x.ad.length = 20) : x.enc.length = 29 := by
  simp [VA.enc, bvs, wcs, h]
theorem VSl.enc_len (x : VSl) : x.enc.length = 14 := rfl
theorem VTp.enc_len (x : VTp) : x.enc.length = 9 := rfl
theorem VE.enc_len (x : VE) : x.enc.length = 9 := rfl
theorem getD_map {α β : Type} {f : α → β} {l : List α} {i : Nat} {d : α} {e : β} (h : i < l.length) : (l.map f).getD i e = f (l.getD i d) := by
  simp [List.getD_eq_getElem?_getD, List.getElem?_eq_getElem h]
theorem getD_mem {α : Type} {l : List α} {i : Nat} {d : α} (h : i < l.length) : l.getD i d ∈ l := by
  rw [List.getD_eq_getElem?_getD, List.getElem?_eq_getElem h]; exact List.getElem_mem h
theorem VA.enc_ad (x : VA) (h : x.ad.length = 20) : (x.enc.drop 0).take 20 = bvs x.ad := by
  rw [List.drop_zero, VA.enc, List.take_append_of_le_length (by rw [bvs_len]; omega), List.take_of_length_le (by rw [bvs_len]; omega)]
theorem VA.enc_get (x : VA) (h : x.ad.length = 20) (p : Nat) : x.enc.getD (20 + p) undef = (.int .u64 (x.nonce : Nat) :: (wcs x.bal ++ [x.cv, .bool x.warm, .bool x.made, .bool x.gone])).getD p undef := by
  rw [VA.enc, List.getD_eq_getElem?_getD, List.getElem?_append_right (by rw [bvs_len]; omega), bvs_len, h, Nat.add_sub_cancel_left, ← List.getD_eq_getElem?_getD]
theorem VI.acc {I : Ent → Prop} {c : Nat → Value} {V : Vl} {G : List Ent} (h : VI I c V G) : (∃ ad cap, c 2435 = .slice ad V.ac.length cap) ∧ (0 < V.ac.length → ∃ x cap, x ∈ G ∧ c 2435 = sl x.b 0 V.ac.length cap ∧ Els x 0 29 (V.ac.map VA.enc)) := by
  obtain ⟨MA, MS, MJ, ML, MT, MH, hp, hb⟩ := h.own
  obtain ⟨ad, cap, hf⟩ := hb.oa.form
  rw [List.length_map] at hf
  refine ⟨⟨ad, cap, hf⟩, fun hl => ?_⟩
  obtain ⟨b, cap', c', h1, h2, h3, h4⟩ := hb.oa.some (by rw [List.length_map]; exact hl)
  rw [List.length_map] at h1
  exact ⟨_, cap', hp.symm.subset (by rw [h3]; simp), h1, h4⟩
def Vl.okA (V : Vl) (a : List Nat) (i : Nat) : Bool := (V.ac.getD i dVA).ad == a
/-- vault.Vault.findAcct -/
theorem vFindA0 {I : Ent → Prop} {R G : List Ent} {cb sz : Nat} {T : TypeId} {c : Nat → Value} {V : Vl} {a : List Nat} (hsz : 27019 ≤ sz) (hV : VI I c V G) (hO : VOk V) (ha : AdOk a) :
    CallG Hvaf.prog 169 #[ptr cb 2435, bytesV a] ⟨I, ⟨cb, sz, T, c⟩ :: (R ++ G)⟩ fun r S' => ⟨I, ⟨cb, sz, T, c⟩ :: (R ++ G)⟩ = S' ∧ r = .tuple #[.int .i32 (look V.ta (V.okA a) 4096 (homeA a) 4096).1, .int .i32 (look V.ta (V.okA a) 4096 (homeA a) 4096).2] := by
  have hal := ha.len
  have hab := ha.bv
  have hh := fun (S : St) => vAcctHome (S := S) ha.len ha.b8
  obtain ⟨⟨ad, cap, hf⟩, hsome⟩ := hV.acc
  have hln := hO.aln
  refine CallG.start (C := mkC Hvaf.prog) cok (args := [ptr cb 2435, bytesV a]) Hvaf.func169 rfl Hvaf.ntmps169 (by simp) (by kernel_rfl) ?_
  intro xb
  repeat (first | (refine QuG.keep ?_; first | refine QuG.boxL cok 0 rfl rfl rfl rfl rfl (by assumption) ?_) | refine SeqS.go cok ?_)
  refine (hh _).mono ?_
  rintro r _ - ⟨rfl, rfl⟩
  repeat (first | refine SeqS.go cok ?_)
  generalize hok : V.okA a = ok
  generalize hlk : look V.ta ok 4096 (homeA a) 4096 = L
  have hxl : (bytesV a).cells.size = 20 := by show (bvs a).toArray.size = 20; simp [hal]
  refine W.loopG cok (by kernel_rfl) 0 (fun (s : Nat × Nat) e' => s.1 < 4096 ∧ s.2 ≤ 4096 ∧ look V.ta ok 4096 s.1 (4096 - s.2) = L ∧ slots [(0, ptr cb 2435), (3, ptr xb 0), (6, .int .u32 (s.1 : Nat)), (7, .int .i64 (s.2 : Nat))] e') (fun s => 4096 - s.2) (homeA a, 0)
    ⟨homeA_lt a, by omega, hlk, rfl, rfl, rfl, rfl, trivial⟩ (fun e' => L = (-1, -1)) ?_ ?_
  · rintro e' rfl
    repeat (first | refine SeqS.go cok ?_)
    exact Fin.drop (⟨cb, sz, T, c⟩ :: (R ++ G)) [_] ⟨rfl, rfl⟩
  · rintro ⟨p, k⟩ e' ⟨hp, hk, hl, hsl⟩
    refine W.slots _ hsl fun e => ?_
    dsimp only at hp hk hl
    by_cases hlt : k < 4096
    · rw [show 4096 - k = (4096 - (k + 1)) + 1 by omega] at hl
      have hta : c (addS 2437 (mulS p 1)) = .int .i32 (V.ta p) := by rw [addS_mulS _ _ _ rfl]; exact hV.ta p hp
      rcases hO.ata.rng p hp with hx | ⟨i, hi, hx⟩
      · rw [hx] at hta
        have hL : L = (-1, (p : Int)) := by rw [← hl, look, if_pos (by rw [hx]; decide)]
        subst hL
        repeat (first | (refine QuG.keep ?_; first | refine QuG.l1E cok 1 rfl rfl rfl rfl rfl (by first | exact Nat.le_of_ble_eq_true rfl | omega | (dsimp only; omega) | (simp only [addS_eq, mulS_eq]; omega)) (by assumption) ?_) | refine SeqS.go cok ?_ | refine CondS.t rfl ?_ | refine And.intro (by omega) ?_ | (refine NatS.keep ?_; first | with_reducible refine NatS.nat ?_) | (refine ValS.keep ?_; first | (with_reducible refine ValS.kI32 ?_; first | (with_reducible refine ValS.convI32 ?_ ?_ ; omega))) | (refine CondS.keep ?_; first | refine CondS.d1 rfl (by omega) ?_))
        exact Fin.drop (⟨cb, sz, T, c⟩ :: (R ++ G)) [_] ⟨rfl, rfl⟩
      · rw [hx] at hta
        rw [look, if_neg (by omega), hx, Int.toNat_natCast] at hl
        obtain ⟨x, cap', hxG, hf', hE⟩ := hsome (by omega)
        have hi' : i < (V.ac.map VA.enc).length := by rw [List.length_map]; exact hi
        have hm := getD_mem (d := dVA) hi
        have hen : (((V.ac.map VA.enc).getD i []).drop 0).take 20 = bvs (V.ac.getD i dVA).ad := by
          rw [getD_map (d := dVA) hi, VA.enc_ad _ (hO.aok _ hm).len]
        have hrd : Rd ⟨I, ⟨xb, (bytesV a).cells.size, 31, vc (bytesV a)⟩ :: ⟨cb, sz, T, c⟩ :: (R ++ G)⟩ x := .inr (by simp [hxG])
        have hl20 := (hO.aok _ hm).len
        rw [hf'] at hf
        obtain ⟨rfl, -, rfl⟩ := Value.slice.inj hf
        clear hf
        repeat (first | (refine QuG.keep ?_; refine QuG.elS cok hE hrd rfl rfl rfl rfl (by simp only [addS_eq, mulS_eq]) hi' (by decide) hen ?_) | (refine QuG.keep ?_; first | refine QuG.l1E cok 1 rfl rfl rfl rfl rfl (by first | exact Nat.le_of_ble_eq_true rfl | omega | (dsimp only; omega) | (simp only [addS_eq, mulS_eq]; omega)) (by assumption) ?_ | refine QuG.boxL cok 0 rfl rfl rfl rfl rfl (by assumption) ?_ | refine QuG.eqA cok .u8 rfl rfl rfl rfl rfl (by kernel_rfl) rfl rfl (by assumption) (by assumption) ?_) | refine SeqS.go cok ?_ | refine GuardS.yes rfl ?_ | refine CondS.f rfl ?_ | refine And.intro (by omega) ?_ | (refine NatS.keep ?_; first | with_reducible refine NatS.nat ?_) | (refine ValS.keep ?_; first | (with_reducible refine ValS.kI64 ?_; first | (with_reducible refine ValS.convI64 ?_ ?_ ; omega))) | refine W.drawI 8 cok [0, 1, 0, 4, 12, 28, 60, 127, 255, 511, 1023, 2047, 4095, 511, 16383, 32767, 65535, 511, 262143, 524287] [0, 1, 2, 3, 4, 5, 6, 7, 8, 9, 10, 11, 12, 13, 14, 15, 16, 17, 18, 19] [5, 12, 16, 17] (by kernel_rfl) (by kernel_rfl) ?_ | (refine GuardS.keep ?_; first | refine GuardS.T1 rfl (by omega) ?_) | (refine CondS.keep ?_; first | refine CondS.d1 rfl (by omega) ?_))
        (first | refine CondS.dec rfl (fun heq => ?_) (fun heq => ?_))
        · repeat (first | refine SeqS.go cok ?_)
          refine Fin.drop (⟨cb, sz, T, c⟩ :: (R ++ G)) [_] ⟨rfl, ?_⟩
          have : ok i = true := by rw [← hok]; exact beq_iff_eq.2 heq
          rw [if_pos this] at hl
          rw [← hl]; rfl
        · repeat (first | refine SeqS.go cok ?_ | refine And.intro (by omega) ?_ | (refine ValS.keep ?_; first | (with_reducible refine ValS.kI64 ?_; first | (with_reducible refine ValS.addI64_L ?_ ?_ ; omega)) | (with_reducible refine ValS.kU32 ?_; first | (with_reducible refine ValS.addU32_L ?_ ?_ ; omega) | with_reducible refine ValS.remN_L ?_)))
          refine ⟨((p + 1) % 4096, k + 1), Rel.same ⟨rfl, Nat.mod_lt _ (by decide), hlt, ?_, rfl, rfl, rfl, rfl, trivial⟩, by show 4096 - (k + 1) < 4096 - k; omega⟩
          have : ok i = false := by rw [← hok]; exact beq_eq_false_iff_ne.2 heq
          rw [this, if_neg (by decide)] at hl
          exact hl
    · obtain rfl : k = 4096 := by omega
      repeat (first | refine SeqS.go cok ?_ | refine CondS.f rfl ?_)
      exact ⟨rfl, by rw [← hl]; rfl⟩
end Go.Proofs.YgvafwGreat
