import Derived.Test.YgvafwGreatE33
import Derived.Test.YgvafwGreatV21
import Derived.Test.YgvafwGreatE34
set_option exponentiation.threshold 1000
set_option maxRecDepth 100000
set_option maxHeartbeats 4000000
set_option linter.unusedVariables false
set_option linter.unusedSimpArgs false
-- v2
-- v4
-- v5
-- v6
-- v7
namespace Go.Proofs.YgvafwGreat
open Go.HL Go.Proofs
theorem log_build {a : List Nat} (ha : a.length = 20) {ad : Option Addr} {n cap : Nat} : cellsFrom (fillC z141 [(0, 20, .agg (bvs a).toArray), (21, 1, .slice ad n cap)]) 0 22 = bvs a ++ [Value.slice none 0 0, Value.slice ad n cap] := by
  have hb : (bvs a).length = 20 := by rw [bvs_len]; exact ha
  have e : cellsFrom (fillC z141 [(0, 20, .agg (bvs a).toArray), (21, 1, .slice ad n cap)]) 0 22 = bvs a ++ [.slice none 0 0, .slice ad n cap] := by
    apply List.ext_getElem?
    intro i
    by_cases hi : i < 22
    · rw [cellsFrom_get _ _ _ _ hi, Nat.zero_add]
      show some (updN (updN z141 0 (bvs a)) 21 [.slice ad n cap] i) = _
      unfold updN
      by_cases h1 : i = 21
      · subst h1
        rw [if_pos (by show 21 ≤ 21 ∧ 21 < 21 + 1; omega), List.getElem?_append_right (by omega), hb]; rfl
      · rw [if_neg (by show ¬ (21 ≤ i ∧ i < 21 + 1); omega)]
        by_cases h2 : i = 20
        · subst h2
          rw [if_neg (by omega), List.getElem?_append_right (by omega), hb]; rfl
        · rw [if_pos (by omega), List.getElem?_append_left (by omega), List.getD_eq_getElem?_getD, Nat.sub_zero, List.getElem?_eq_getElem (by omega)]; rfl
    · rw [List.getElem?_eq_none (by simp; omega), List.getElem?_eq_none (by simp [hb]; omega)]
  exact e
theorem log_row20 {c : Nat → Value} {a : List Nat} {tv dv : Value} (ha : a.length = 20) (h : Row c 0 (bvs a ++ [tv, dv])) : c 20 = tv := by
  have hb : (bvs a).length = 20 := by rw [bvs_len]; exact ha
  have := h.get 20 (by simp [hb])
  rw [Nat.zero_add, List.getD_eq_getElem?_getD, List.getElem?_append_right (by omega), hb] at this
  exact this
theorem log_set {c : Nat → Value} {a : List Nat} {tv dv w : Value} (ha : a.length = 20) (h : Row c 0 (bvs a ++ [tv, dv])) : Row (upd c 20 w) 0 (bvs a ++ [w, dv]) := by
  have hb : (bvs a).length = 20 := by rw [bvs_len]; exact ha
  refine ⟨fun i hi => ?_⟩
  have hi2 : i < 22 := by simpa [hb] using hi
  have hg := h.get i (by simp [hb]; omega)
  rw [Nat.zero_add] at hg ⊢
  by_cases h0 : i = 20
  · subst h0; rw [updEq, List.getD_eq_getElem?_getD, List.getElem?_append_right (by omega), hb]; rfl
  · rw [updNe h0, hg, List.getD_eq_getElem?_getD, List.getD_eq_getElem?_getD]
    by_cases h1 : i < 20
    · rw [List.getElem?_append_left (by omega), List.getElem?_append_left (by omega)]
    · obtain rfl : i = 21 := by omega
      rw [List.getElem?_append_right (by omega), List.getElem?_append_right (by omega), hb]; rfl
/-- mach.Machine.OpLog -/
theorem mLog {I : Ent → Prop} {R G : List Ent} {cb sz pc gas o : Nat} {T : TypeId} {c : Nat → Value} {K : YK} {V : Vl} {s mem : List Nat} {M : List Ent} (hV : VI I c V G) (hO : VOk V) (hsz : 27019 ≤ sz) (hA : ArI c mem M) (hMG : ∀ x ∈ M, x ∈ R) (hK : MK I cb c K) (hM : MV c pc gas s) (hpb : pc + 1 < 60000) (ho : K.code.getD pc 0 = o) (ho1 : 160 ≤ o) (ho2 : o ≤ 164) (hs2 : o - 158 ≤ s.length) (hin : argN s 1 = 0 ∨ argN s 0 + argN s 1 ≤ mem.length) (hj : V.jr.length < 59990) (hll : V.lg.length < 2798) (hdl : argN s 1 ≤ 717280) :
    CallG Hvaf.prog 329 #[ptr cb 0] ⟨I, ⟨cb, sz, T, c⟩ :: (R ++ G)⟩ (SetK R cb sz T c (pc + 1) gas (s.take (s.length - (o - 158))) fun V' => V' = { V with jr := V.jr ++ [⟨7, 0, 0, 0, false⟩], lg := V.lg ++ [(K.self, (List.range (o - 160)).map (fun i => argN s (2 + i)), cutL mem (argN s 0) (argN s 1))] }) := by
  have hsz' : 2435 ≤ sz := by omega
  have hrn := mRunning (I := I) (G := R ++ G) (cb := cb) (T := T) hsz' hK
  have hop := mOpcode (I := I) (G := R ++ G) (cb := cb) (T := T) hsz' hK hM
  rw [ho] at hop
  have ha0 := mArg (I := I) (G := R ++ G) (cb := cb) (T := T) (i := 0) hsz' hK.fsb hM (by decide)
  have ha1 := mArg (I := I) (G := R ++ G) (cb := cb) (T := T) (i := 1) hsz' hK.fsb hM (by decide)
  have hb1 : argN s 1 < 115792089237316195423570985008687907853269984665640564039457584007913129639936 := argN_lt hM.sb
  have hrd := mRd (I := I) (G := R ++ G) (cb := cb) (T := T) (off := argN s 0) hsz' hA (fun x h => List.mem_append_left _ (hMG x h)) hb1 hin
  have hmS := hK.mS
  have hrow := hK.fself
  have hAd := hK.kb.kself
  have hwl : (bvs K.self).length = 20 := by rw [bvs_len]; exact hAd.len
  have hfit : 1812 + 20 ≤ sz := by omega
  have hcs : (Value.agg (bvs K.self).toArray).cells.size = 20 := by show (bvs K.self).toArray.size = 20; simp [hAd.len]
  obtain ⟨n, hn⟩ : ∃ n, o - 160 = n := ⟨_, rfl⟩
  have hn5 : n < 5 := by omega
  obtain rfl : o = 160 + n := by omega
  rw [hn]
  have hse2 : 160 + n - 158 = 2 + n := by omega
  have hrd1 : ∀ (J : Ent → Prop), Rd ⟨J, ⟨cb, sz, T, c⟩ :: (R ++ G)⟩ ⟨cb, sz, T, c⟩ := fun J => .inr List.mem_cons_self
  refine CallG.start (C := mkC Hvaf.prog) cok (args := [ptr cb 0]) Hvaf.func329 rfl Hvaf.ntmps329 (by simp) (by kernel_rfl) ?_
  skip
  refine CallG.sameL [] hrn ?_
  repeat (first | refine SeqS.go cok ?_ | refine CondS.f rfl ?_)
  refine CallG.sameL [] hop ?_
  repeat (first | refine SeqS.go cok ?_ | (refine ValS.keep ?_; first | (with_reducible refine ValS.kI64 ?_; first | (with_reducible refine ValS.convI64 ?_ ?_ ; omega)) | (with_reducible refine ValS.kU8 ?_; first | (with_reducible refine ValS.subU8_L ?_ ?_ ?_ ; omega; omega))))
  refine CallG.sameL [] ha0 ?_
  skip
  refine CallG.sameL [] ha1 ?_
  skip
  refine CallG.behind [] hrd ?_
  rintro r J G1 hs ⟨hS, dv, rfl, hB⟩
  cases hS
  obtain ⟨dad, dcap, rfl⟩ := bytLen hB
  repeat (first | (refine QuG.keep ?_; refine QuG.rowE cok hrow (hrd1 J) rfl rfl rfl rfl rfl hwl hfit ?_) | refine And.intro ⟨⟨by assumption, Nat.le_of_ble_eq_true rfl⟩, fillOk_of (Eq.refl true)⟩ ?_ | refine SeqS.go cok ?_ | refine And.intro (Eq.refl true) ?_)
  intro x6
  skip
  refine OpG.keep ?_
  refine OpG.upS cok 0 (o := 0) (vs := bvs K.self ++ [.slice none 0 0, .slice dad (cutL mem (argN s 0) (argN s 1)).length dcap]) rfl rfl rfl rfl ?_ (by simp [hwl]) (by intro u hu; rcases List.mem_append.1 hu with h | h; exact bvs_one _ u h; simp at h; rcases h with rfl | rfl <;> rfl) (by show 0 + 22 ≤ 22; decide) ?_
  · refine congrArg (fun l : List Value => Value.agg l.toArray) (a₁ := cellsFrom (fillC z141 [(0, 20, _), (21, 1, _)]) 0 22) ?_
    refine Eq.trans (b := cellsFrom (fillC z141 [(0, 20, .agg (bvs K.self).toArray), (21, 1, _)]) 0 22) rfl ?_
    exact Eq.trans (b := cellsFrom (fillC z141 [(0, 20, .agg (bvs K.self).toArray), (21, 1, .slice dad (cutL mem (argN s 0) (argN s 1)).length dcap)]) 0 22) rfl (log_build hAd.len)
  repeat (first | refine SeqS.go cok ?_)
  refine W.loopF cok (by kernel_rfl) 0 (fun (i : Nat) e' S' => ∃ tv Mt c6, S' = ⟨J, (⟨x6, 22, 141, c6⟩ :: ⟨cb, sz, T, c⟩ :: (R ++ G)) ++ Mt⟩ ∧ i ≤ n ∧ Row c6 0 (bvs K.self ++ [tv, .slice dad (cutL mem (argN s 0) (argN s 1)).length dcap]) ∧ OwnL 33 32 tv (((List.range i).map fun i => argN s (2 + i)).map fun n => bvs (be32 n)) Mt ∧ slots [(0, ptr cb 0), (2, ptr cb 1803), (3, .int .i64 (n : Nat)), (5, .bool true), (6, ptr x6 0), (7, .int .i64 (i : Nat))] e') (fun i => n - i) 0
    (.same ⟨_, [], _, by rw [List.append_nil]; rfl, Nat.zero_le _, Row.updN2 _ _ _, OwnL.nil _ _, rfl, rfl, congrArg (fun k : Nat => Value.int .i64 (k : Int)) hn, rfl, rfl, rfl, trivial⟩)
    (fun e' S' => ∃ tv Mt c6, S' = ⟨J, (⟨x6, 22, 141, c6⟩ :: ⟨cb, sz, T, c⟩ :: (R ++ G)) ++ Mt⟩ ∧ Row c6 0 (bvs K.self ++ [tv, .slice dad (cutL mem (argN s 0) (argN s 1)).length dcap]) ∧ OwnL 33 32 tv (((List.range n).map fun i => argN s (2 + i)).map fun n => bvs (be32 n)) Mt ∧ slots [(0, ptr cb 0), (2, ptr cb 1803), (3, .int .i64 (n : Nat)), (5, .bool true), (6, ptr x6 0)] e') ?_ ?_
  · rintro e' S2 - ⟨tv, Mt, c6, rfl, h6, hT, hsl⟩
    refine SeqS.rel (S := ⟨J, (⟨x6, 22, 141, c6⟩ :: ⟨cb, sz, T, c⟩ :: (R ++ G)) ++ Mt⟩) ⟨[], Mt, ⟨x6, 22, 141, c6⟩ :: ⟨cb, sz, T, c⟩ :: (R ++ G), fun x => J x ∨ x ∈ Mt, by rw [List.append_nil]; exact List.perm_append_comm, fun _ => .rfl, ?_⟩
    refine SeqS.slots cok _ hsl fun e => ?_
    have hs2' : HL.Sub I fun x => J x ∨ x ∈ Mt := fun x h => .inl (hs x h)
    have hRw : RowI (fun x => J x ∨ x ∈ Mt) 32 tv (((List.range n).map fun i => argN s (2 + i)).map fun n => bvs (be32 n)) := hT.row fun x h => .inr h
    have hpl := vPutLog (R := R) (cb := cb) (T := T) hsz (hV.up hs2') hO hj hll hAd hRw (hB.mono (fun x h => .inl h) (by simp)) (by simp; omega) (by rw [cutL_len]; exact hdl)
    have h6l : (bvs K.self ++ [tv, .slice dad (cutL mem (argN s 0) (argN s 1)).length dcap]).length = 22 := by simp [hwl]
    have hse := fun J2 c1 G1 (h : Out c c1) => mSettleN (I := J2) (G := R ++ G1) (cb := cb) (T := T) (t := 2 + n) (step := 1) (ws := [.int .u64 0, .int .u64 0, .int .u64 0, .int .u64 0]) hsz' (hM.out h) (by omega) hpb rfl
    have h22 : 0 + 22 ≤ 22 := by decide
    generalize cutL mem (argN s 0) (argN s 1) = cs at *
    repeat (first | (refine QuG.keep ?_; refine QuG.rowE cok (x := ⟨x6, 22, 141, c6⟩) h6 (.inr List.mem_cons_self) rfl rfl rfl rfl rfl h6l h22 ?_) | (refine QuG.keep ?_; first | refine QuG.l1E cok 1 rfl rfl rfl rfl rfl (by first | exact Nat.le_of_ble_eq_true rfl | omega | (dsimp only; omega) | (simp only [addS_eq, mulS_eq]; omega)) (by assumption) ?_) | refine GuardS.yes rfl ?_ | refine W.drawI 9 cok [0, 1, 3, 7, 15, 31, 63, 7, 255, 511, 1023] [0, 1, 2, 3, 4, 5, 6, 7, 8, 9, 10] [6, 7] (by kernel_rfl) (by kernel_rfl) ?_)
    refine CallG.behind [_] hpl ?_
    rintro r J2 G1 hs3 ⟨rfl, J3, c1, G2, hS, g1, g2, g3⟩
    cases hS
    repeat (first | refine SeqS.go cok ?_ | refine GuardS.yes rfl ?_ | refine CondS.f rfl ?_ | refine And.intro (fillOk_of (Eq.refl true)) ?_ | (refine ValS.keep ?_; first | (with_reducible refine ValS.kI64 ?_; first | (with_reducible refine ValS.addI64_M ?_ ?_ ; omega)) | (with_reducible refine ValS.kU16 ?_; first | (with_reducible refine ValS.convU16 ?_ ?_ ; omega))) | (refine still_in ?_; first | refine still_drop (by decide) ?_))
    refine CallG.behind [_] (hse _ c1 G2 g3) ?_
    rintro r J4 G1 hs4 ⟨c', hS, k1, k2⟩
    cases hS
    skip
    exact Fin.drop (⟨cb, sz, T, c'⟩ :: (R ++ G2)) [_] ⟨_, c', G2, _, rfl, by rw [hse2]; exact k1, StkV.mk g3 k2, g1.stk k2, g2, rfl⟩
  · rintro i e' S2 - ⟨tv, Mt, c6, rfl, hi, h6, hT, hsl⟩
    refine W.slots _ hsl fun e => ?_
    have h20 := log_row20 hAd.len h6
    by_cases hlt : i < n
    · have ha := mArg (I := J) (G := (R ++ G) ++ Mt) (cb := cb) (T := T) (i := 2 + i) hsz' hK.fsb hM (by omega)
      have hbe := fun S => UBE32_spec (S := S) (n := argN s (2 + i)) (argN_lt hM.sb)
      have hb32 := be32_len (argN s (2 + i))
      have hcs2 : (bytesV (be32 (argN s (2 + i)))).cells.size = 32 := by show (bvs _).toArray.size = 32; simp [hb32]
      have hbo := bvs_one (be32 (argN s (2 + i)))
      have hbl : (bvs (be32 (argN s (2 + i)))).length = 32 := by rw [bvs_len]; exact hb32
      have hnx : ((List.range (i + 1)).map fun i => argN s (2 + i)).map (fun n => bvs (be32 n)) = (((List.range i).map fun i => argN s (2 + i)).map fun n => bvs (be32 n)) ++ [bvs (be32 (argN s (2 + i)))] := by
        rw [List.range_succ, List.map_append, List.map_append]; rfl
      have hvl0 : (((List.range i).map fun i => argN s (2 + i)).map fun n => bvs (be32 n)).length = i := by simp
      generalize argN s (2 + i) = ai at *
      generalize ((List.range i).map fun i => argN s (2 + i)).map (fun n => bvs (be32 n)) = vss at *
      repeat (first | (refine QuG.keep ?_; first | refine QuG.l1E cok 0 rfl rfl rfl rfl rfl (by first | exact Nat.le_of_ble_eq_true rfl | omega | (dsimp only; omega) | (simp only [addS_eq, mulS_eq]; omega)) (by assumption) ?_) | refine SeqS.go cok ?_ | (refine ValS.keep ?_; first | (with_reducible refine ValS.kI64 ?_; first | (with_reducible refine ValS.addI64_M ?_ ?_ ; omega))) | refine W.drawI 8 cok [0, 1, 0, 0, 0, 16, 60, 124, 252, 511, 1023, 2047] [0, 1, 2, 3, 4, 5, 6, 7, 8, 9, 10, 11] [1] (by kernel_rfl) (by kernel_rfl) ?_ | (refine CondS.keep ?_; first | refine CondS.d1 rfl (by omega) ?_))
      refine CallG.sameL [_] ha ?_
      repeat (first | (refine still_in ?_; first | refine still_nil ?_ | (refine still_keep (by decide) rfl ?_ ?_; first | exact QuV.l1 cok 0 rfl rfl rfl rfl rfl (by first | exact Nat.le_of_ble_eq_true rfl | omega | (dsimp only; omega) | (simp only [addS_eq, mulS_eq]; omega)) (by assumption))))
      refine (hbe _).mono ?_
      rintro r _ - ⟨rfl, rfl⟩
      repeat (first | refine And.intro ⟨⟨by assumption, Nat.le_of_ble_eq_true rfl⟩, trivial⟩ ?_ | refine And.intro (by dsimp only; omega) ?_ | (refine still_in ?_; first | (refine still_keep (by decide) rfl ?_ ?_; first | exact QuV.l1 cok 0 rfl rfl rfl rfl rfl (by first | exact Nat.le_of_ble_eq_true rfl | omega | (dsimp only; omega) | (simp only [addS_eq, mulS_eq]; omega)) (by assumption))))
      intro tb
      repeat (first | (refine still_in ?_; first | refine still_nil ?_ | (refine still_keep (by decide) rfl ?_ ?_; first | exact QuV.l1 cok 1 rfl rfl rfl rfl rfl (by first | exact Nat.le_of_ble_eq_true rfl | omega | (dsimp only; omega) | (simp only [addS_eq, mulS_eq]; omega)) (by assumption))))
      refine OpG.keep ?_
      refine OpG.app1 cok (L := _ :: _ :: (R ++ G)) (M := Mt) (vss := vss) (el := bvs (be32 ai)) rfl rfl rfl rfl rfl rfl rfl rfl rfl ?_ ?_ ?_ ?_ ?_ ?_
      · exact hT
      · exact Row.updN2 _ 0 _
      · exact hbl
      · exact hbo
      · have hvl : vss.length = i := hvl0
        omega
      intro w' M' hO'
      have hset := log_set (w := w') hAd.len h6
      have hw1 : one w' = true := by
        obtain ⟨wad, wcap, e⟩ := hO'.form
        rw [e]; rfl
      repeat (first | (refine OpG.keep ?_; refine OpG.s1E cok 0 20 rfl rfl rfl rfl rfl rfl (by decide) rfl hw1 ?_) | refine SeqS.go cok ?_ | (refine ValS.keep ?_; first | (with_reducible refine ValS.kI64 ?_; first | (with_reducible refine ValS.addI64_L ?_ ?_ ; omega))) | (refine still_in ?_; first | refine still_drop (by decide) ?_))
      exact ⟨i + 1, Rel.same ⟨w', M', _, rfl, hlt, hset, by rw [hnx]; exact hO', rfl, rfl, rfl, rfl, rfl, rfl, trivial⟩, by show n - (i + 1) < n - i; omega⟩
    · obtain rfl : i = n := by omega
      repeat (first | refine SeqS.go cok ?_ | (refine CondS.keep ?_; first | refine CondS.d0 rfl (by omega) ?_))
      exact ⟨tv, Mt, c6, rfl, h6, hT, rfl, rfl, rfl, rfl, rfl, trivial⟩
end Go.Proofs.YgvafwGreat
