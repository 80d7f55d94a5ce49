import Derived.Test.YgvafwGreatY58
import Derived.Test.YgvafwGreatY59
import Derived.Test.YgvafwGreatE36
import Derived.Test.YgvafwGreatY65
set_option exponentiation.threshold 1000
set_option maxRecDepth 100000
set_option maxHeartbeats 4000000
set_option linter.unusedVariables false
set_option linter.unusedSimpArgs false
-- v2
-- v4
-- v5
-- v6
-- v7
namespace Go.Proofs.YgvafwGreat
open Go.HL Go.Proofs
theorem _root_.Go.HL.Els.drop2 {x : Ent} {o : Nat} {vss : List (List Value)} (h : Els x o 1 vss) (hl : 2 ≤ vss.length) : Els x (o + 2) 1 (vss.drop 2) := by
  have hf := h.fit
  have hv : vss = vss.take 2 ++ vss.drop 2 := (List.take_append_drop 2 vss).symm
  have hflat : vss.flatten = (vss.take 2).flatten ++ (vss.drop 2).flatten := by rw [← List.flatten_append, List.take_append_drop]
  have htl : (vss.take 2).flatten.length = 2 := by rw [flat_len (k := 1) (fun l hl => h.len l (List.mem_of_mem_take hl)), List.length_take]; omega
  refine ⟨fun l hl => h.len l (List.mem_of_mem_drop hl), ⟨fun j hj => ?_⟩, by rw [List.length_drop]; omega⟩
  have := h.row.get (2 + j) (by rw [hflat, List.length_append, htl]; omega)
  rw [show o + 2 + j = o + (2 + j) by omega, this, hflat, List.getD_eq_getElem?_getD, List.getD_eq_getElem?_getD, List.getElem?_append_right (by omega), htl]
  congr 2; omega
theorem _root_.Go.HL.CallG.behindB {P : Program} {f : FuncId} {args : Array Value} {I : Ent → Prop} {G1 : List Ent} {K : Post} {l : List Nat} (L : List Ent) (h : CallG P f args ⟨I, G1⟩ fun r S' => S'.G = G1 ∧ Byt ⟨S'.I, []⟩ r l)
    (hk : ∀ ad cap J, HL.Sub I J → Byt ⟨J, []⟩ (.slice ad l.length cap) l → K (.slice ad l.length cap) ⟨J, L ++ G1⟩) : CallG P f args ⟨I, L ++ G1⟩ K := by
  refine CallG.behind L h ?_
  rintro dv J G1 hs ⟨rfl, hdv⟩
  obtain ⟨dad, dcap, rfl⟩ := bytLen hdv
  exact hk _ _ _ hs hdv
/-- yp.State.effect at LOG0..LOG4 -/
theorem yEffL160 {I : Ent → Prop} {R ML : List Ent} {sb ssz fb fsz pc gas : Nat} {Ts Tf : TypeId} {cs cf : Nat → Value} {K : YK} {w : YW} {s mem : List Nat} {M : List Ent} {av : Value} {as' : List Nat} (hsz : 179 ≤ ssz) (hfz : 60 ≤ fsz) (hC : CsI I cs cf K w pc gas s) (hM : MemO (cf 9) mem M) (hMG : ∀ x ∈ M, x ∈ R) (hL : LogO I (cs 4) w.lg ML) (hA : StkI I av as') (hlen : as'.length < 10) (h2 : 2 ≤ as'.length) (hb : ∀ x ∈ as', x < 2 ^ 256) (hn : as'.getD 1 0 < 2 ^ 40) :
    CallG Hvaf.prog 163 #[ptr sb 0, ptr fb 0, .int .u8 (160 : Nat), av] ⟨I, ⟨sb, ssz, Ts, cs⟩ :: ⟨fb, fsz, Tf, cf⟩ :: (R ++ ML)⟩ fun r S' => r = .bool true ∧ ∃ J lv ML', S' = ⟨J, ⟨sb, ssz, Ts, upd cs 4 lv⟩ :: ⟨fb, fsz, Tf, cf⟩ :: (R ++ ML')⟩ ∧ LogO J lv (w.lg ++ [(K.self, as'.drop 2, cutL mem (as'.getD 0 0) (as'.getD 1 0))]) ML' := by
  have hb20 := hC.KB.kself.bv
  have hl20 := hC.KB.kself.len
  have hAd := hC.KB.kself
  have hrow := hC.F.fself
  have hml := hM.len
  obtain ⟨vss, hRo, hvl, hel⟩ := hA.out
  obtain ⟨x, o3, cap, rfl, hcap, hx, hE⟩ : ∃ x o3 cap, av = sl x.b o3 vss.length cap ∧ vss.length ≤ cap ∧ I x ∧ Els x o3 1 vss := by
    rcases hRo.2 with ⟨_, h⟩ | h
    · rw [h] at hvl; simp at hvl; omega
    · exact h
  have hE2 := hE.drop2 (by omega)
  have hel2 : ∀ i, i < as'.length - 2 → ∃ u, (vss.drop 2).getD i [] = [u] ∧ NatI I u (as'.getD (2 + i) 0) := by
    intro i hi
    obtain ⟨u, h1, h2⟩ := hel (2 + i) (by omega)
    exact ⟨u, by rw [← h1, List.getD_eq_getElem?_getD, List.getElem?_drop, ← List.getD_eq_getElem?_getD], h2⟩
  have hdl : (vss.drop 2).length = as'.length - 2 := by rw [List.length_drop]; omega
  obtain ⟨lvs, hLO, hLL⟩ := hL.out
  have hlgl := hC.B.lg
  have hlvl := hLL.len
  have hsv : ∃ A, (2 < vss.length → Els x A 1 (vss.drop 2)) ∧ Value.slice (some ⟨x.b, if cap = 2 then o3 else addS o3 (mulS 2 1), none⟩) (vss.length - 2) (cap - 2) = .slice (some ⟨x.b, A, none⟩) (vss.length - 2) (cap - 2) := by
    by_cases hc : cap = 2
    · exact ⟨o3, fun hq => by omega, by rw [if_pos hc]⟩
    · exact ⟨o3 + 2, fun _ => hE2, by rw [if_neg hc, addS_eq, mulS_eq]⟩
  obtain ⟨A, hEA, hsv⟩ := hsv
  have hop0 := fun G => yOperand (G := G) (i := 0) hA (by omega) (by decide)
  have hop1 := fun G => yOperand (G := G) (i := 1) hA (by omega) (by decide)
  have hop2 := fun G => yOperand (G := G) (i := 2) hA (by omega) (by decide)
  have hrd := fun v u (hv : NatI I v (as'.getD 0 0)) (hu : NatI I u (as'.getD 1 0)) => yRead (T := Tf) hfz (hM.byt (I := I) (G := ⟨fb, fsz, Tf, cf⟩ :: (R ++ ML)) (fun z hz => List.mem_cons_of_mem _ (List.mem_append_left _ (hMG z hz)))) hv hu hn (by omega)
  have h4 : 5 ≤ ssz := by omega
  have hv2 : PLift (2 ≤ vss.length) := ⟨by omega⟩
  obtain ⟨n, hnn⟩ : ∃ n, vss.length - 2 = n := ⟨_, rfl⟩
  have htl : (as'.drop 2).length = n := by rw [List.length_drop]; omega
  have hdl2 : (vss.drop 2).length = n := by omega
  have hel3 : ∀ i, i < n → ∃ u, (vss.drop 2).getD i [] = [u] ∧ NatI I u ((as'.drop 2).getD i 0) := by
    intro i hi
    obtain ⟨u, h1, h2⟩ := hel2 i (by omega)
    exact ⟨u, h1, by rw [List.getD_eq_getElem?_getD, List.getElem?_drop, ← List.getD_eq_getElem?_getD]; exact h2⟩
  have hb3 : ∀ i, i < n → (as'.drop 2).getD i 0 < 2 ^ 256 := by
    intro i hi
    rw [List.getD_eq_getElem?_getD, List.getElem?_eq_getElem (by omega)]
    exact hb _ (List.mem_of_mem_drop (List.getElem_mem _))
  replace hsv : Value.slice (some ⟨x.b, if cap = 2 then o3 else addS o3 (mulS 2 1), none⟩) (vss.length - 2) (cap - 2) = .slice (some ⟨x.b, A, none⟩) n (cap - 2) := by rw [hsv, hnn]
  have hEA2 : 0 < n → Els x A 1 (vss.drop 2) := fun h => hEA (by omega)
  have hn8 : n < 8 := by omega
  have hL17 : lvs.length < 2 ^ 17 := by omega
  generalize vss.drop 2 = vs2 at *
  generalize as'.drop 2 = ts at *
  clear hel2 hdl hEA hb hel hRo hA hE hE2 hMG hM hC hml h2 hn hlen hsz
  generalize hdd : cutL mem (as'.getD 0 0) (as'.getD 1 0) = dd at *
  refine CallG.start (C := mkC Hvaf.prog) cok (args := [ptr sb 0, ptr fb 0, .int .u8 ((160 : Nat) : Int), sl x.b o3 vss.length cap]) Hvaf.func163 rfl Hvaf.ntmps163 (by simp) (by kernel_rfl) ?_
  repeat (first | refine SeqS.go cok ?_)
  refine (hop0 _).mono ?_
  rintro v _ - ⟨rfl, hv⟩
  repeat (first | refine SeqS.go cok ?_)
  refine (hop1 _).mono ?_
  rintro u _ - ⟨rfl, hu⟩
  repeat (first | refine SeqS.go cok ?_)
  refine (hop2 _).mono ?_
  rintro y _ - ⟨rfl, hy⟩
  repeat (first | refine SeqS.go cok ?_ | refine GuardS.yes rfl ?_ | refine CondS.t rfl ?_ | refine CondS.f rfl ?_)
  have hwl := hb20
  have hfit : 12 + 20 ≤ fsz := by omega
  have hcs : (Value.agg (bvs K.self).toArray).cells.size = 20 := by show (bvs K.self).toArray.size = 20; simp [hl20]
  have hrd1 : ∀ (J : Ent → Prop), Rd ⟨J, ⟨sb, ssz, Ts, cs⟩ :: ⟨fb, fsz, Tf, cf⟩ :: (R ++ ML)⟩ ⟨fb, fsz, Tf, cf⟩ := fun J => .inr (List.mem_cons_of_mem _ List.mem_cons_self)
  repeat (first | (refine QuG.keep ?_; first | refine QuG.rowA cok 1 rfl rfl rfl rfl rfl (by assumption) (by assumption) (by first | exact Nat.le_of_ble_eq_true rfl | omega | (dsimp only; omega) | (simp only [addS_eq, mulS_eq]; omega)) ?_) | refine W.drawI 26 cok [0, 1, 3, 7, 0, 0, 0, 112, 255, 0, 1023] [0, 1, 2, 3, 4, 5, 6, 7, 8, 9, 10] [3] (by kernel_rfl) (by kernel_rfl) ?_)
  refine CallG.behindB (l := dd) (G1 := ⟨fb, fsz, Tf, cf⟩ :: (R ++ ML)) [⟨sb, ssz, Ts, cs⟩] ?_ ?_
  · show CallG Hvaf.prog 72 #[ptr fb 0, v, u] ⟨I, ⟨fb, fsz, Tf, cf⟩ :: (R ++ ML)⟩ _
    exact hrd v u hv hu
  intro dad dcap J hs hdv
  clear hop0 hop1 hop2 hrd
  repeat (first | refine And.intro ⟨⟨by assumption, Nat.le_of_ble_eq_true rfl⟩, fillOk_of (Eq.refl true)⟩ ?_ | refine And.intro (Eq.refl true) ?_ | (refine still_in ?_; first | (refine still_keep (by decide) rfl ?_ ?_; first | exact QuV.of (QuG.rowA cok 1 rfl rfl rfl rfl rfl (by assumption) (by assumption) (by first | exact Nat.le_of_ble_eq_true rfl | omega | (dsimp only; omega)) rfl))))
  intro x6
  skip
  refine OpG.keep ?_
  refine OpG.upS cok 0 (o := 0) (vs := bvs K.self ++ [.slice none 0 0, .slice dad dd.length dcap]) rfl rfl rfl rfl ?_ (by simp [hwl]) (by intro u hu; rcases List.mem_append.1 hu with h | h; exact bvs_one _ u h; simp at h; rcases h with rfl | rfl <;> rfl) (by show 0 + 22 ≤ 22; decide) ?_
  · refine congrArg (fun l : List Value => Value.agg l.toArray) (a₁ := cellsFrom (fillC z141 [(0, 20, _), (21, 1, _)]) 0 22) ?_
    refine Eq.trans (b := cellsFrom (fillC z141 [(0, 20, .agg (bvs K.self).toArray), (21, 1, _)]) 0 22) rfl ?_
    exact Eq.trans (b := cellsFrom (fillC z141 [(0, 20, .agg (bvs K.self).toArray), (21, 1, .slice dad dd.length dcap)]) 0 22) rfl (log_build hAd.len)
  repeat (first | refine SeqS.go cok ?_ | (refine NatS.keep ?_; first | with_reducible refine NatS.lit ?_) | (refine still_in ?_; first | refine still_drop (by decide) ?_))
  refine ⟨hv2.down, rfl, ?_⟩
  refine ValS.cast hsv ?_
  repeat (first | refine SeqS.go cok ?_)
  clear hsv
  refine W.loopF cok (by kernel_rfl) 1 (fun (i : Nat) e' S' => ∃ tv Mt c6, S' = ⟨J, (⟨x6, 22, 141, c6⟩ :: ⟨sb, ssz, Ts, cs⟩ :: ⟨fb, fsz, Tf, cf⟩ :: (R ++ ML)) ++ Mt⟩ ∧ i ≤ n ∧ Row c6 0 (bvs K.self ++ [tv, .slice dad dd.length dcap]) ∧ OwnL 33 32 tv ((ts.take i).map fun n => bvs (be32 n)) Mt ∧ slots [(0, ptr sb 0), (14, ptr x6 0), (150, .slice (some ⟨x.b, A, none⟩) n (cap - 2)), (151, .int .i64 (n : Nat)), (152, .int .i64 (i : Nat))] e') (fun i => n - i) 0
    (.same ⟨_, [], _, by rw [List.append_nil]; rfl, Nat.zero_le _, Row.updN2 _ _ _, OwnL.nil _ _, rfl, rfl, rfl, rfl, rfl, trivial⟩)
    (fun e' S' => ∃ tv Mt c6, S' = ⟨J, (⟨x6, 22, 141, c6⟩ :: ⟨sb, ssz, Ts, cs⟩ :: ⟨fb, fsz, Tf, cf⟩ :: (R ++ ML)) ++ Mt⟩ ∧ Row c6 0 (bvs K.self ++ [tv, .slice dad dd.length dcap]) ∧ OwnL 33 32 tv ((ts).map fun n => bvs (be32 n)) Mt ∧ slots [(0, ptr sb 0), (14, ptr x6 0)] e') ?_ ?_
  · rintro e' S2 - ⟨tv, Mt, c6, rfl, h6, hT, hsl⟩
    refine SeqS.rel (S := ⟨J, (⟨x6, 22, 141, c6⟩ :: ⟨sb, ssz, Ts, cs⟩ :: ⟨fb, fsz, Tf, cf⟩ :: (R ++ ML)) ++ Mt⟩) ⟨[], Mt, ⟨x6, 22, 141, c6⟩ :: ⟨sb, ssz, Ts, cs⟩ :: ⟨fb, fsz, Tf, cf⟩ :: (R ++ ML), fun x => J x ∨ x ∈ Mt, by rw [List.append_nil]; exact List.perm_append_comm, fun _ => .rfl, ?_⟩
    refine SeqS.slots cok _ hsl fun e => ?_
    have hs2' : HL.Sub I fun x => J x ∨ x ∈ Mt := fun x h => .inl (hs x h)
    have hRw : RowI (fun x => J x ∨ x ∈ Mt) 32 tv (ts.map fun n => bvs (be32 n)) := hT.row fun x h => .inr h
    have h6l : (bvs K.self ++ [tv, .slice dad dd.length dcap]).length = 22 := by simp [hwl]
    have h22 : 0 + 22 ≤ 22 := by decide
    have hone : ∀ u ∈ (bvs K.self ++ [tv, .slice dad dd.length dcap]), one u = true := by
      intro u hu
      rcases List.mem_append.1 hu with h | h
      · exact bvs_one _ u h
      · obtain ⟨ad2, cap2, e2⟩ := hT.form
        simp at h
        rcases h with rfl | rfl
        · rw [e2]; rfl
        · rfl
    repeat (first | (refine QuG.keep ?_; refine QuG.rowE cok (x := ⟨x6, 22, 141, c6⟩) h6 (.inr List.mem_cons_self) rfl rfl rfl rfl rfl h6l h22 ?_) | refine And.intro ⟨⟨by assumption, Nat.le_of_ble_eq_true rfl⟩, trivial⟩ ?_ | refine And.intro (by dsimp only; omega) ?_ | (refine QuG.keep ?_; first | refine QuG.l1 cok 1 rfl rfl rfl rfl rfl (by first | exact Nat.le_of_ble_eq_true rfl | omega | (dsimp only; omega) | (simp only [addS_eq, mulS_eq]; omega)) ?_) | refine W.drawI 32 cok [0, 0, 2, 6, 14, 30, 0, 64, 254, 511, 1023, 2047, 4095] [0, 1, 2, 3, 4, 5, 6, 7, 8, 9, 10, 11, 12] [5, 6] (by kernel_rfl) (by kernel_rfl) ?_)
    intro tb
    repeat (first | (refine still_in ?_; first | refine still_nil ?_ | refine still_drop (by decide) ?_ | (refine still_keep (by decide) rfl ?_ ?_; first | exact QuV.l1 cok 2 rfl rfl rfl rfl rfl (by first | exact Nat.le_of_ble_eq_true rfl | omega | (dsimp only; omega) | (simp only [addS_eq, mulS_eq]; omega)) rfl)))
    refine OpG.keep ?_
    refine OpG.app1 cok (L := _ :: _ :: _ :: R) (M := ML) (vss := lvs) (el := bvs K.self ++ [tv, .slice dad dd.length dcap]) rfl rfl rfl rfl rfl rfl rfl rfl rfl ?_ ?_ ?_ ?_ ?_ ?_
    · exact hLO
    · exact Row.updN2 _ 0 _
    · exact h6l
    · exact hone
    · omega
    intro w' M' hO'
    have hw1 : one w' = true := by
      obtain ⟨wad, wcap, e⟩ := hO'.form
      rw [e]; rfl
    repeat (first | (refine OpG.keep ?_; refine OpG.s1E cok 1 4 rfl rfl rfl rfl rfl rfl h4 rfl hw1 ?_) | refine SeqS.go cok ?_ | (refine still_in ?_; first | refine still_drop (by decide) ?_))
    exact Fin.drop (⟨sb, ssz, Ts, upd cs 4 w'⟩ :: ⟨fb, fsz, Tf, cf⟩ :: (R ++ M')) [_] ⟨rfl, _, w', M', rfl, ⟨_, hO', (hLL.mono fun _ _ h => h.up hs2').snoc ⟨hAd, tv, _, rfl, hRw, hdv.mono (fun x h => .inl h) (by simp)⟩⟩⟩
  · rintro i e' S2 - ⟨tv, Mt, c6, rfl, hi, h6, hT, hsl⟩
    refine W.slots _ hsl fun e => ?_
    have h20 := log_row20 hAd.len h6
    by_cases hlt : i < n
    · obtain ⟨u, hu2, hnu⟩ := hel3 i hlt
      have hE2 := hEA2 (by omega)
      have hrdx : ∀ G, Rd ⟨J, G⟩ x := fun _ => .inl (hs x hx)
      have hwd := fun G => yWord (G := G) (hnu.up hs) (hb3 i hlt)
      have hb32 := be32_len (ts.getD i 0)
      have hcs2 : (bytesV (be32 (ts.getD i 0))).cells.size = 32 := by show (bvs _).toArray.size = 32; rw [List.size_toArray, bvs_len]; exact hb32
      have hbo := bvs_one (be32 (ts.getD i 0))
      have hbl : (bvs (be32 (ts.getD i 0))).length = 32 := by rw [bvs_len]; exact hb32
      have hnx : (ts.take (i + 1)).map (fun n => bvs (be32 n)) = ((ts.take i).map fun n => bvs (be32 n)) ++ [bvs (be32 (ts.getD i 0))] := by
        rw [List.take_succ_eq_append_getElem (by omega), List.map_append, List.getD_eq_getElem?_getD, List.getElem?_eq_getElem (by omega)]; rfl
      have hvl0 : ((ts.take i).map fun n => bvs (be32 n)).length = i := by simp; omega
      generalize ts.getD i 0 = ai at *
      generalize (ts.take i).map (fun n => bvs (be32 n)) = vs3 at *
      repeat (first | (refine QuG.keep ?_; first | refine QuG.l1E cok 0 rfl rfl rfl rfl rfl (by first | exact Nat.le_of_ble_eq_true rfl | omega | (dsimp only; omega) | (simp only [addS_eq, mulS_eq]; omega)) (by assumption) ?_ | refine QuG.el1E cok (by assumption) (by first | assumption | exact ‹∀ G, Rd ⟨_, G⟩ _› _) (by assumption) rfl rfl rfl rfl (by omega) ?_) | refine SeqS.go cok ?_ | refine And.intro (by omega) ?_ | (refine NatS.keep ?_; first | with_reducible refine NatS.nat ?_) | refine W.drawI 30 cok [0, 1, 0, 4, 12, 31, 63, 127] [0, 1, 2, 3, 4, 5, 6, 7] [1] (by kernel_rfl) (by kernel_rfl) ?_ | (refine CondS.keep ?_; first | refine CondS.d1 rfl (by omega) ?_))
      refine (hwd _).mono ?_
      rintro r _ - ⟨rfl, rfl⟩
      repeat (first | refine And.intro ⟨⟨by assumption, Nat.le_of_ble_eq_true rfl⟩, trivial⟩ ?_ | refine And.intro (by dsimp only; omega) ?_ | (refine still_in ?_; first | (refine still_keep (by decide) rfl ?_ ?_; first | exact QuV.l1 cok 0 rfl rfl rfl rfl rfl (by first | exact Nat.le_of_ble_eq_true rfl | omega | (dsimp only; omega) | (simp only [addS_eq, mulS_eq]; omega)) (by assumption))))
      intro tb
      repeat (first | (refine still_in ?_; first | refine still_nil ?_ | (refine still_keep (by decide) rfl ?_ ?_; first | exact QuV.l1 cok 1 rfl rfl rfl rfl rfl (by first | exact Nat.le_of_ble_eq_true rfl | omega | (dsimp only; omega) | (simp only [addS_eq, mulS_eq]; omega)) (by assumption))))
      refine OpG.keep ?_
      refine OpG.app1 cok (L := _ :: _ :: _ :: (R ++ ML)) (M := Mt) (vss := vs3) (el := bvs (be32 ai)) rfl rfl rfl rfl rfl rfl rfl rfl rfl ?_ ?_ ?_ ?_ ?_ ?_
      · exact hT
      · exact Row.updN2 _ 0 _
      · exact hbl
      · exact hbo
      · omega
      intro w' M' hO'
      have hset := log_set (w := w') hAd.len h6
      have hw1 : one w' = true := by
        obtain ⟨wad, wcap, e⟩ := hO'.form
        rw [e]; rfl
      repeat (first | (refine OpG.keep ?_; refine OpG.s1E cok 0 20 rfl rfl rfl rfl rfl rfl (by decide) rfl hw1 ?_) | refine SeqS.go cok ?_ | (refine ValS.keep ?_; first | (with_reducible refine ValS.kI64 ?_; first | (with_reducible refine ValS.addI64_L ?_ ?_ ; omega))) | (refine still_in ?_; first | refine still_drop (by decide) ?_))
      exact ⟨i + 1, Rel.same ⟨w', M', _, rfl, hlt, hset, by rw [hnx]; exact hO', rfl, rfl, rfl, rfl, rfl, trivial⟩, by show n - (i + 1) < n - i; omega⟩
    · obtain rfl : i = n := by omega
      rw [List.take_of_length_le (by omega)] at hT
      repeat (first | refine SeqS.go cok ?_ | (refine CondS.keep ?_; first | refine CondS.d0 rfl (by omega) ?_))
      exact ⟨tv, Mt, c6, rfl, h6, hT, rfl, rfl, trivial⟩
/-- yp.State.effect at LOG0..LOG4 -/
theorem yEffL161 {I : Ent → Prop} {R ML : List Ent} {sb ssz fb fsz pc gas : Nat} {Ts Tf : TypeId} {cs cf : Nat → Value} {K : YK} {w : YW} {s mem : List Nat} {M : List Ent} {av : Value} {as' : List Nat} (hsz : 179 ≤ ssz) (hfz : 60 ≤ fsz) (hC : CsI I cs cf K w pc gas s) (hM : MemO (cf 9) mem M) (hMG : ∀ x ∈ M, x ∈ R) (hL : LogO I (cs 4) w.lg ML) (hA : StkI I av as') (hlen : as'.length < 10) (h2 : 2 ≤ as'.length) (hb : ∀ x ∈ as', x < 2 ^ 256) (hn : as'.getD 1 0 < 2 ^ 40) :
    CallG Hvaf.prog 163 #[ptr sb 0, ptr fb 0, .int .u8 (161 : Nat), av] ⟨I, ⟨sb, ssz, Ts, cs⟩ :: ⟨fb, fsz, Tf, cf⟩ :: (R ++ ML)⟩ fun r S' => r = .bool true ∧ ∃ J lv ML', S' = ⟨J, ⟨sb, ssz, Ts, upd cs 4 lv⟩ :: ⟨fb, fsz, Tf, cf⟩ :: (R ++ ML')⟩ ∧ LogO J lv (w.lg ++ [(K.self, as'.drop 2, cutL mem (as'.getD 0 0) (as'.getD 1 0))]) ML' := by
  have hb20 := hC.KB.kself.bv
  have hl20 := hC.KB.kself.len
  have hAd := hC.KB.kself
  have hrow := hC.F.fself
  have hml := hM.len
  obtain ⟨vss, hRo, hvl, hel⟩ := hA.out
  obtain ⟨x, o3, cap, rfl, hcap, hx, hE⟩ : ∃ x o3 cap, av = sl x.b o3 vss.length cap ∧ vss.length ≤ cap ∧ I x ∧ Els x o3 1 vss := by
    rcases hRo.2 with ⟨_, h⟩ | h
    · rw [h] at hvl; simp at hvl; omega
    · exact h
  have hE2 := hE.drop2 (by omega)
  have hel2 : ∀ i, i < as'.length - 2 → ∃ u, (vss.drop 2).getD i [] = [u] ∧ NatI I u (as'.getD (2 + i) 0) := by
    intro i hi
    obtain ⟨u, h1, h2⟩ := hel (2 + i) (by omega)
    exact ⟨u, by rw [← h1, List.getD_eq_getElem?_getD, List.getElem?_drop, ← List.getD_eq_getElem?_getD], h2⟩
  have hdl : (vss.drop 2).length = as'.length - 2 := by rw [List.length_drop]; omega
  obtain ⟨lvs, hLO, hLL⟩ := hL.out
  have hlgl := hC.B.lg
  have hlvl := hLL.len
  have hsv : ∃ A, (2 < vss.length → Els x A 1 (vss.drop 2)) ∧ Value.slice (some ⟨x.b, if cap = 2 then o3 else addS o3 (mulS 2 1), none⟩) (vss.length - 2) (cap - 2) = .slice (some ⟨x.b, A, none⟩) (vss.length - 2) (cap - 2) := by
    by_cases hc : cap = 2
    · exact ⟨o3, fun hq => by omega, by rw [if_pos hc]⟩
    · exact ⟨o3 + 2, fun _ => hE2, by rw [if_neg hc, addS_eq, mulS_eq]⟩
  obtain ⟨A, hEA, hsv⟩ := hsv
  have hop0 := fun G => yOperand (G := G) (i := 0) hA (by omega) (by decide)
  have hop1 := fun G => yOperand (G := G) (i := 1) hA (by omega) (by decide)
  have hop2 := fun G => yOperand (G := G) (i := 2) hA (by omega) (by decide)
  have hrd := fun v u (hv : NatI I v (as'.getD 0 0)) (hu : NatI I u (as'.getD 1 0)) => yRead (T := Tf) hfz (hM.byt (I := I) (G := ⟨fb, fsz, Tf, cf⟩ :: (R ++ ML)) (fun z hz => List.mem_cons_of_mem _ (List.mem_append_left _ (hMG z hz)))) hv hu hn (by omega)
  have h4 : 5 ≤ ssz := by omega
  have hv2 : PLift (2 ≤ vss.length) := ⟨by omega⟩
  obtain ⟨n, hnn⟩ : ∃ n, vss.length - 2 = n := ⟨_, rfl⟩
  have htl : (as'.drop 2).length = n := by rw [List.length_drop]; omega
  have hdl2 : (vss.drop 2).length = n := by omega
  have hel3 : ∀ i, i < n → ∃ u, (vss.drop 2).getD i [] = [u] ∧ NatI I u ((as'.drop 2).getD i 0) := by
    intro i hi
    obtain ⟨u, h1, h2⟩ := hel2 i (by omega)
    exact ⟨u, h1, by rw [List.getD_eq_getElem?_getD, List.getElem?_drop, ← List.getD_eq_getElem?_getD]; exact h2⟩
  have hb3 : ∀ i, i < n → (as'.drop 2).getD i 0 < 2 ^ 256 := by
    intro i hi
    rw [List.getD_eq_getElem?_getD, List.getElem?_eq_getElem (by omega)]
    exact hb _ (List.mem_of_mem_drop (List.getElem_mem _))
  replace hsv : Value.slice (some ⟨x.b, if cap = 2 then o3 else addS o3 (mulS 2 1), none⟩) (vss.length - 2) (cap - 2) = .slice (some ⟨x.b, A, none⟩) n (cap - 2) := by rw [hsv, hnn]
  have hEA2 : 0 < n → Els x A 1 (vss.drop 2) := fun h => hEA (by omega)
  have hn8 : n < 8 := by omega
  have hL17 : lvs.length < 2 ^ 17 := by omega
  generalize vss.drop 2 = vs2 at *
  generalize as'.drop 2 = ts at *
  clear hel2 hdl hEA hb hel hRo hA hE hE2 hMG hM hC hml h2 hn hlen hsz
  generalize hdd : cutL mem (as'.getD 0 0) (as'.getD 1 0) = dd at *
  refine CallG.start (C := mkC Hvaf.prog) cok (args := [ptr sb 0, ptr fb 0, .int .u8 ((161 : Nat) : Int), sl x.b o3 vss.length cap]) Hvaf.func163 rfl Hvaf.ntmps163 (by simp) (by kernel_rfl) ?_
  repeat (first | refine SeqS.go cok ?_)
  refine (hop0 _).mono ?_
  rintro v _ - ⟨rfl, hv⟩
  repeat (first | refine SeqS.go cok ?_)
  refine (hop1 _).mono ?_
  rintro u _ - ⟨rfl, hu⟩
  repeat (first | refine SeqS.go cok ?_)
  refine (hop2 _).mono ?_
  rintro y _ - ⟨rfl, hy⟩
  repeat (first | refine SeqS.go cok ?_ | refine GuardS.yes rfl ?_ | refine CondS.t rfl ?_ | refine CondS.f rfl ?_)
  have hwl := hb20
  have hfit : 12 + 20 ≤ fsz := by omega
  have hcs : (Value.agg (bvs K.self).toArray).cells.size = 20 := by show (bvs K.self).toArray.size = 20; simp [hl20]
  have hrd1 : ∀ (J : Ent → Prop), Rd ⟨J, ⟨sb, ssz, Ts, cs⟩ :: ⟨fb, fsz, Tf, cf⟩ :: (R ++ ML)⟩ ⟨fb, fsz, Tf, cf⟩ := fun J => .inr (List.mem_cons_of_mem _ List.mem_cons_self)
  repeat (first | (refine QuG.keep ?_; first | refine QuG.rowA cok 1 rfl rfl rfl rfl rfl (by assumption) (by assumption) (by first | exact Nat.le_of_ble_eq_true rfl | omega | (dsimp only; omega) | (simp only [addS_eq, mulS_eq]; omega)) ?_) | refine W.drawI 26 cok [0, 1, 3, 7, 0, 0, 0, 112, 255, 0, 1023] [0, 1, 2, 3, 4, 5, 6, 7, 8, 9, 10] [3] (by kernel_rfl) (by kernel_rfl) ?_)
  refine CallG.behindB (l := dd) (G1 := ⟨fb, fsz, Tf, cf⟩ :: (R ++ ML)) [⟨sb, ssz, Ts, cs⟩] ?_ ?_
  · show CallG Hvaf.prog 72 #[ptr fb 0, v, u] ⟨I, ⟨fb, fsz, Tf, cf⟩ :: (R ++ ML)⟩ _
    exact hrd v u hv hu
  intro dad dcap J hs hdv
  clear hop0 hop1 hop2 hrd
  repeat (first | refine And.intro ⟨⟨by assumption, Nat.le_of_ble_eq_true rfl⟩, fillOk_of (Eq.refl true)⟩ ?_ | refine And.intro (Eq.refl true) ?_ | (refine still_in ?_; first | (refine still_keep (by decide) rfl ?_ ?_; first | exact QuV.of (QuG.rowA cok 1 rfl rfl rfl rfl rfl (by assumption) (by assumption) (by first | exact Nat.le_of_ble_eq_true rfl | omega | (dsimp only; omega)) rfl))))
  intro x6
  skip
  refine OpG.keep ?_
  refine OpG.upS cok 0 (o := 0) (vs := bvs K.self ++ [.slice none 0 0, .slice dad dd.length dcap]) rfl rfl rfl rfl ?_ (by simp [hwl]) (by intro u hu; rcases List.mem_append.1 hu with h | h; exact bvs_one _ u h; simp at h; rcases h with rfl | rfl <;> rfl) (by show 0 + 22 ≤ 22; decide) ?_
  · refine congrArg (fun l : List Value => Value.agg l.toArray) (a₁ := cellsFrom (fillC z141 [(0, 20, _), (21, 1, _)]) 0 22) ?_
    refine Eq.trans (b := cellsFrom (fillC z141 [(0, 20, .agg (bvs K.self).toArray), (21, 1, _)]) 0 22) rfl ?_
    exact Eq.trans (b := cellsFrom (fillC z141 [(0, 20, .agg (bvs K.self).toArray), (21, 1, .slice dad dd.length dcap)]) 0 22) rfl (log_build hAd.len)
  repeat (first | refine SeqS.go cok ?_ | (refine NatS.keep ?_; first | with_reducible refine NatS.lit ?_) | (refine still_in ?_; first | refine still_drop (by decide) ?_))
  refine ⟨hv2.down, rfl, ?_⟩
  refine ValS.cast hsv ?_
  repeat (first | refine SeqS.go cok ?_)
  clear hsv
  refine W.loopF cok (by kernel_rfl) 1 (fun (i : Nat) e' S' => ∃ tv Mt c6, S' = ⟨J, (⟨x6, 22, 141, c6⟩ :: ⟨sb, ssz, Ts, cs⟩ :: ⟨fb, fsz, Tf, cf⟩ :: (R ++ ML)) ++ Mt⟩ ∧ i ≤ n ∧ Row c6 0 (bvs K.self ++ [tv, .slice dad dd.length dcap]) ∧ OwnL 33 32 tv ((ts.take i).map fun n => bvs (be32 n)) Mt ∧ slots [(0, ptr sb 0), (14, ptr x6 0), (150, .slice (some ⟨x.b, A, none⟩) n (cap - 2)), (151, .int .i64 (n : Nat)), (152, .int .i64 (i : Nat))] e') (fun i => n - i) 0
    (.same ⟨_, [], _, by rw [List.append_nil]; rfl, Nat.zero_le _, Row.updN2 _ _ _, OwnL.nil _ _, rfl, rfl, rfl, rfl, rfl, trivial⟩)
    (fun e' S' => ∃ tv Mt c6, S' = ⟨J, (⟨x6, 22, 141, c6⟩ :: ⟨sb, ssz, Ts, cs⟩ :: ⟨fb, fsz, Tf, cf⟩ :: (R ++ ML)) ++ Mt⟩ ∧ Row c6 0 (bvs K.self ++ [tv, .slice dad dd.length dcap]) ∧ OwnL 33 32 tv ((ts).map fun n => bvs (be32 n)) Mt ∧ slots [(0, ptr sb 0), (14, ptr x6 0)] e') ?_ ?_
  · rintro e' S2 - ⟨tv, Mt, c6, rfl, h6, hT, hsl⟩
    refine SeqS.rel (S := ⟨J, (⟨x6, 22, 141, c6⟩ :: ⟨sb, ssz, Ts, cs⟩ :: ⟨fb, fsz, Tf, cf⟩ :: (R ++ ML)) ++ Mt⟩) ⟨[], Mt, ⟨x6, 22, 141, c6⟩ :: ⟨sb, ssz, Ts, cs⟩ :: ⟨fb, fsz, Tf, cf⟩ :: (R ++ ML), fun x => J x ∨ x ∈ Mt, by rw [List.append_nil]; exact List.perm_append_comm, fun _ => .rfl, ?_⟩
    refine SeqS.slots cok _ hsl fun e => ?_
    have hs2' : HL.Sub I fun x => J x ∨ x ∈ Mt := fun x h => .inl (hs x h)
    have hRw : RowI (fun x => J x ∨ x ∈ Mt) 32 tv (ts.map fun n => bvs (be32 n)) := hT.row fun x h => .inr h
    have h6l : (bvs K.self ++ [tv, .slice dad dd.length dcap]).length = 22 := by simp [hwl]
    have h22 : 0 + 22 ≤ 22 := by decide
    have hone : ∀ u ∈ (bvs K.self ++ [tv, .slice dad dd.length dcap]), one u = true := by
      intro u hu
      rcases List.mem_append.1 hu with h | h
      · exact bvs_one _ u h
      · obtain ⟨ad2, cap2, e2⟩ := hT.form
        simp at h
        rcases h with rfl | rfl
        · rw [e2]; rfl
        · rfl
    repeat (first | (refine QuG.keep ?_; refine QuG.rowE cok (x := ⟨x6, 22, 141, c6⟩) h6 (.inr List.mem_cons_self) rfl rfl rfl rfl rfl h6l h22 ?_) | refine And.intro ⟨⟨by assumption, Nat.le_of_ble_eq_true rfl⟩, trivial⟩ ?_ | refine And.intro (by dsimp only; omega) ?_ | (refine QuG.keep ?_; first | refine QuG.l1 cok 1 rfl rfl rfl rfl rfl (by first | exact Nat.le_of_ble_eq_true rfl | omega | (dsimp only; omega) | (simp only [addS_eq, mulS_eq]; omega)) ?_) | refine W.drawI 32 cok [0, 0, 2, 6, 14, 30, 0, 64, 254, 511, 1023, 2047, 4095] [0, 1, 2, 3, 4, 5, 6, 7, 8, 9, 10, 11, 12] [5, 6] (by kernel_rfl) (by kernel_rfl) ?_)
    intro tb
    repeat (first | (refine still_in ?_; first | refine still_nil ?_ | refine still_drop (by decide) ?_ | (refine still_keep (by decide) rfl ?_ ?_; first | exact QuV.l1 cok 2 rfl rfl rfl rfl rfl (by first | exact Nat.le_of_ble_eq_true rfl | omega | (dsimp only; omega) | (simp only [addS_eq, mulS_eq]; omega)) rfl)))
    refine OpG.keep ?_
    refine OpG.app1 cok (L := _ :: _ :: _ :: R) (M := ML) (vss := lvs) (el := bvs K.self ++ [tv, .slice dad dd.length dcap]) rfl rfl rfl rfl rfl rfl rfl rfl rfl ?_ ?_ ?_ ?_ ?_ ?_
    · exact hLO
    · exact Row.updN2 _ 0 _
    · exact h6l
    · exact hone
    · omega
    intro w' M' hO'
    have hw1 : one w' = true := by
      obtain ⟨wad, wcap, e⟩ := hO'.form
      rw [e]; rfl
    repeat (first | (refine OpG.keep ?_; refine OpG.s1E cok 1 4 rfl rfl rfl rfl rfl rfl h4 rfl hw1 ?_) | refine SeqS.go cok ?_ | (refine still_in ?_; first | refine still_drop (by decide) ?_))
    exact Fin.drop (⟨sb, ssz, Ts, upd cs 4 w'⟩ :: ⟨fb, fsz, Tf, cf⟩ :: (R ++ M')) [_] ⟨rfl, _, w', M', rfl, ⟨_, hO', (hLL.mono fun _ _ h => h.up hs2').snoc ⟨hAd, tv, _, rfl, hRw, hdv.mono (fun x h => .inl h) (by simp)⟩⟩⟩
  · rintro i e' S2 - ⟨tv, Mt, c6, rfl, hi, h6, hT, hsl⟩
    refine W.slots _ hsl fun e => ?_
    have h20 := log_row20 hAd.len h6
    by_cases hlt : i < n
    · obtain ⟨u, hu2, hnu⟩ := hel3 i hlt
      have hE2 := hEA2 (by omega)
      have hrdx : ∀ G, Rd ⟨J, G⟩ x := fun _ => .inl (hs x hx)
      have hwd := fun G => yWord (G := G) (hnu.up hs) (hb3 i hlt)
      have hb32 := be32_len (ts.getD i 0)
      have hcs2 : (bytesV (be32 (ts.getD i 0))).cells.size = 32 := by show (bvs _).toArray.size = 32; rw [List.size_toArray, bvs_len]; exact hb32
      have hbo := bvs_one (be32 (ts.getD i 0))
      have hbl : (bvs (be32 (ts.getD i 0))).length = 32 := by rw [bvs_len]; exact hb32
      have hnx : (ts.take (i + 1)).map (fun n => bvs (be32 n)) = ((ts.take i).map fun n => bvs (be32 n)) ++ [bvs (be32 (ts.getD i 0))] := by
        rw [List.take_succ_eq_append_getElem (by omega), List.map_append, List.getD_eq_getElem?_getD, List.getElem?_eq_getElem (by omega)]; rfl
      have hvl0 : ((ts.take i).map fun n => bvs (be32 n)).length = i := by simp; omega
      generalize ts.getD i 0 = ai at *
      generalize (ts.take i).map (fun n => bvs (be32 n)) = vs3 at *
      repeat (first | (refine QuG.keep ?_; first | refine QuG.l1E cok 0 rfl rfl rfl rfl rfl (by first | exact Nat.le_of_ble_eq_true rfl | omega | (dsimp only; omega) | (simp only [addS_eq, mulS_eq]; omega)) (by assumption) ?_ | refine QuG.el1E cok (by assumption) (by first | assumption | exact ‹∀ G, Rd ⟨_, G⟩ _› _) (by assumption) rfl rfl rfl rfl (by omega) ?_) | refine SeqS.go cok ?_ | refine And.intro (by omega) ?_ | (refine NatS.keep ?_; first | with_reducible refine NatS.nat ?_) | refine W.drawI 30 cok [0, 1, 0, 4, 12, 31, 63, 127] [0, 1, 2, 3, 4, 5, 6, 7] [1] (by kernel_rfl) (by kernel_rfl) ?_ | (refine CondS.keep ?_; first | refine CondS.d1 rfl (by omega) ?_))
      refine (hwd _).mono ?_
      rintro r _ - ⟨rfl, rfl⟩
      repeat (first | refine And.intro ⟨⟨by assumption, Nat.le_of_ble_eq_true rfl⟩, trivial⟩ ?_ | refine And.intro (by dsimp only; omega) ?_ | (refine still_in ?_; first | (refine still_keep (by decide) rfl ?_ ?_; first | exact QuV.l1 cok 0 rfl rfl rfl rfl rfl (by first | exact Nat.le_of_ble_eq_true rfl | omega | (dsimp only; omega) | (simp only [addS_eq, mulS_eq]; omega)) (by assumption))))
      intro tb
      repeat (first | (refine still_in ?_; first | refine still_nil ?_ | (refine still_keep (by decide) rfl ?_ ?_; first | exact QuV.l1 cok 1 rfl rfl rfl rfl rfl (by first | exact Nat.le_of_ble_eq_true rfl | omega | (dsimp only; omega) | (simp only [addS_eq, mulS_eq]; omega)) (by assumption))))
      refine OpG.keep ?_
      refine OpG.app1 cok (L := _ :: _ :: _ :: (R ++ ML)) (M := Mt) (vss := vs3) (el := bvs (be32 ai)) rfl rfl rfl rfl rfl rfl rfl rfl rfl ?_ ?_ ?_ ?_ ?_ ?_
      · exact hT
      · exact Row.updN2 _ 0 _
      · exact hbl
      · exact hbo
      · omega
      intro w' M' hO'
      have hset := log_set (w := w') hAd.len h6
      have hw1 : one w' = true := by
        obtain ⟨wad, wcap, e⟩ := hO'.form
        rw [e]; rfl
      repeat (first | (refine OpG.keep ?_; refine OpG.s1E cok 0 20 rfl rfl rfl rfl rfl rfl (by decide) rfl hw1 ?_) | refine SeqS.go cok ?_ | (refine ValS.keep ?_; first | (with_reducible refine ValS.kI64 ?_; first | (with_reducible refine ValS.addI64_L ?_ ?_ ; omega))) | (refine still_in ?_; first | refine still_drop (by decide) ?_))
      exact ⟨i + 1, Rel.same ⟨w', M', _, rfl, hlt, hset, by rw [hnx]; exact hO', rfl, rfl, rfl, rfl, rfl, trivial⟩, by show n - (i + 1) < n - i; omega⟩
    · obtain rfl : i = n := by omega
      rw [List.take_of_length_le (by omega)] at hT
      repeat (first | refine SeqS.go cok ?_ | (refine CondS.keep ?_; first | refine CondS.d0 rfl (by omega) ?_))
      exact ⟨tv, Mt, c6, rfl, h6, hT, rfl, rfl, trivial⟩
/-- yp.State.effect at LOG0..LOG4 -/
theorem yEffL162 {I : Ent → Prop} {R ML : List Ent} {sb ssz fb fsz pc gas : Nat} {Ts Tf : TypeId} {cs cf : Nat → Value} {K : YK} {w : YW} {s mem : List Nat} {M : List Ent} {av : Value} {as' : List Nat} (hsz : 179 ≤ ssz) (hfz : 60 ≤ fsz) (hC : CsI I cs cf K w pc gas s) (hM : MemO (cf 9) mem M) (hMG : ∀ x ∈ M, x ∈ R) (hL : LogO I (cs 4) w.lg ML) (hA : StkI I av as') (hlen : as'.length < 10) (h2 : 2 ≤ as'.length) (hb : ∀ x ∈ as', x < 2 ^ 256) (hn : as'.getD 1 0 < 2 ^ 40) :
    CallG Hvaf.prog 163 #[ptr sb 0, ptr fb 0, .int .u8 (162 : Nat), av] ⟨I, ⟨sb, ssz, Ts, cs⟩ :: ⟨fb, fsz, Tf, cf⟩ :: (R ++ ML)⟩ fun r S' => r = .bool true ∧ ∃ J lv ML', S' = ⟨J, ⟨sb, ssz, Ts, upd cs 4 lv⟩ :: ⟨fb, fsz, Tf, cf⟩ :: (R ++ ML')⟩ ∧ LogO J lv (w.lg ++ [(K.self, as'.drop 2, cutL mem (as'.getD 0 0) (as'.getD 1 0))]) ML' := by
  have hb20 := hC.KB.kself.bv
  have hl20 := hC.KB.kself.len
  have hAd := hC.KB.kself
  have hrow := hC.F.fself
  have hml := hM.len
  obtain ⟨vss, hRo, hvl, hel⟩ := hA.out
  obtain ⟨x, o3, cap, rfl, hcap, hx, hE⟩ : ∃ x o3 cap, av = sl x.b o3 vss.length cap ∧ vss.length ≤ cap ∧ I x ∧ Els x o3 1 vss := by
    rcases hRo.2 with ⟨_, h⟩ | h
    · rw [h] at hvl; simp at hvl; omega
    · exact h
  have hE2 := hE.drop2 (by omega)
  have hel2 : ∀ i, i < as'.length - 2 → ∃ u, (vss.drop 2).getD i [] = [u] ∧ NatI I u (as'.getD (2 + i) 0) := by
    intro i hi
    obtain ⟨u, h1, h2⟩ := hel (2 + i) (by omega)
    exact ⟨u, by rw [← h1, List.getD_eq_getElem?_getD, List.getElem?_drop, ← List.getD_eq_getElem?_getD], h2⟩
  have hdl : (vss.drop 2).length = as'.length - 2 := by rw [List.length_drop]; omega
  obtain ⟨lvs, hLO, hLL⟩ := hL.out
  have hlgl := hC.B.lg
  have hlvl := hLL.len
  have hsv : ∃ A, (2 < vss.length → Els x A 1 (vss.drop 2)) ∧ Value.slice (some ⟨x.b, if cap = 2 then o3 else addS o3 (mulS 2 1), none⟩) (vss.length - 2) (cap - 2) = .slice (some ⟨x.b, A, none⟩) (vss.length - 2) (cap - 2) := by
    by_cases hc : cap = 2
    · exact ⟨o3, fun hq => by omega, by rw [if_pos hc]⟩
    · exact ⟨o3 + 2, fun _ => hE2, by rw [if_neg hc, addS_eq, mulS_eq]⟩
  obtain ⟨A, hEA, hsv⟩ := hsv
  have hop0 := fun G => yOperand (G := G) (i := 0) hA (by omega) (by decide)
  have hop1 := fun G => yOperand (G := G) (i := 1) hA (by omega) (by decide)
  have hop2 := fun G => yOperand (G := G) (i := 2) hA (by omega) (by decide)
  have hrd := fun v u (hv : NatI I v (as'.getD 0 0)) (hu : NatI I u (as'.getD 1 0)) => yRead (T := Tf) hfz (hM.byt (I := I) (G := ⟨fb, fsz, Tf, cf⟩ :: (R ++ ML)) (fun z hz => List.mem_cons_of_mem _ (List.mem_append_left _ (hMG z hz)))) hv hu hn (by omega)
  have h4 : 5 ≤ ssz := by omega
  have hv2 : PLift (2 ≤ vss.length) := ⟨by omega⟩
  obtain ⟨n, hnn⟩ : ∃ n, vss.length - 2 = n := ⟨_, rfl⟩
  have htl : (as'.drop 2).length = n := by rw [List.length_drop]; omega
  have hdl2 : (vss.drop 2).length = n := by omega
  have hel3 : ∀ i, i < n → ∃ u, (vss.drop 2).getD i [] = [u] ∧ NatI I u ((as'.drop 2).getD i 0) := by
    intro i hi
    obtain ⟨u, h1, h2⟩ := hel2 i (by omega)
    exact ⟨u, h1, by rw [List.getD_eq_getElem?_getD, List.getElem?_drop, ← List.getD_eq_getElem?_getD]; exact h2⟩
  have hb3 : ∀ i, i < n → (as'.drop 2).getD i 0 < 2 ^ 256 := by
    intro i hi
    rw [List.getD_eq_getElem?_getD, List.getElem?_eq_getElem (by omega)]
    exact hb _ (List.mem_of_mem_drop (List.getElem_mem _))
  replace hsv : Value.slice (some ⟨x.b, if cap = 2 then o3 else addS o3 (mulS 2 1), none⟩) (vss.length - 2) (cap - 2) = .slice (some ⟨x.b, A, none⟩) n (cap - 2) := by rw [hsv, hnn]
  have hEA2 : 0 < n → Els x A 1 (vss.drop 2) := fun h => hEA (by omega)
  have hn8 : n < 8 := by omega
  have hL17 : lvs.length < 2 ^ 17 := by omega
  generalize vss.drop 2 = vs2 at *
  generalize as'.drop 2 = ts at *
  clear hel2 hdl hEA hb hel hRo hA hE hE2 hMG hM hC hml h2 hn hlen hsz
  generalize hdd : cutL mem (as'.getD 0 0) (as'.getD 1 0) = dd at *
  refine CallG.start (C := mkC Hvaf.prog) cok (args := [ptr sb 0, ptr fb 0, .int .u8 ((162 : Nat) : Int), sl x.b o3 vss.length cap]) Hvaf.func163 rfl Hvaf.ntmps163 (by simp) (by kernel_rfl) ?_
  repeat (first | refine SeqS.go cok ?_)
  refine (hop0 _).mono ?_
  rintro v _ - ⟨rfl, hv⟩
  repeat (first | refine SeqS.go cok ?_)
  refine (hop1 _).mono ?_
  rintro u _ - ⟨rfl, hu⟩
  repeat (first | refine SeqS.go cok ?_)
  refine (hop2 _).mono ?_
  rintro y _ - ⟨rfl, hy⟩
  repeat (first | refine SeqS.go cok ?_ | refine GuardS.yes rfl ?_ | refine CondS.t rfl ?_ | refine CondS.f rfl ?_)
  have hwl := hb20
  have hfit : 12 + 20 ≤ fsz := by omega
  have hcs : (Value.agg (bvs K.self).toArray).cells.size = 20 := by show (bvs K.self).toArray.size = 20; simp [hl20]
  have hrd1 : ∀ (J : Ent → Prop), Rd ⟨J, ⟨sb, ssz, Ts, cs⟩ :: ⟨fb, fsz, Tf, cf⟩ :: (R ++ ML)⟩ ⟨fb, fsz, Tf, cf⟩ := fun J => .inr (List.mem_cons_of_mem _ List.mem_cons_self)
  repeat (first | (refine QuG.keep ?_; first | refine QuG.rowA cok 1 rfl rfl rfl rfl rfl (by assumption) (by assumption) (by first | exact Nat.le_of_ble_eq_true rfl | omega | (dsimp only; omega) | (simp only [addS_eq, mulS_eq]; omega)) ?_) | refine W.drawI 26 cok [0, 1, 3, 7, 0, 0, 0, 112, 255, 0, 1023] [0, 1, 2, 3, 4, 5, 6, 7, 8, 9, 10] [3] (by kernel_rfl) (by kernel_rfl) ?_)
  refine CallG.behindB (l := dd) (G1 := ⟨fb, fsz, Tf, cf⟩ :: (R ++ ML)) [⟨sb, ssz, Ts, cs⟩] ?_ ?_
  · show CallG Hvaf.prog 72 #[ptr fb 0, v, u] ⟨I, ⟨fb, fsz, Tf, cf⟩ :: (R ++ ML)⟩ _
    exact hrd v u hv hu
  intro dad dcap J hs hdv
  clear hop0 hop1 hop2 hrd
  repeat (first | refine And.intro ⟨⟨by assumption, Nat.le_of_ble_eq_true rfl⟩, fillOk_of (Eq.refl true)⟩ ?_ | refine And.intro (Eq.refl true) ?_ | (refine still_in ?_; first | (refine still_keep (by decide) rfl ?_ ?_; first | exact QuV.of (QuG.rowA cok 1 rfl rfl rfl rfl rfl (by assumption) (by assumption) (by first | exact Nat.le_of_ble_eq_true rfl | omega | (dsimp only; omega)) rfl))))
  intro x6
  skip
  refine OpG.keep ?_
  refine OpG.upS cok 0 (o := 0) (vs := bvs K.self ++ [.slice none 0 0, .slice dad dd.length dcap]) rfl rfl rfl rfl ?_ (by simp [hwl]) (by intro u hu; rcases List.mem_append.1 hu with h | h; exact bvs_one _ u h; simp at h; rcases h with rfl | rfl <;> rfl) (by show 0 + 22 ≤ 22; decide) ?_
  · refine congrArg (fun l : List Value => Value.agg l.toArray) (a₁ := cellsFrom (fillC z141 [(0, 20, _), (21, 1, _)]) 0 22) ?_
    refine Eq.trans (b := cellsFrom (fillC z141 [(0, 20, .agg (bvs K.self).toArray), (21, 1, _)]) 0 22) rfl ?_
    exact Eq.trans (b := cellsFrom (fillC z141 [(0, 20, .agg (bvs K.self).toArray), (21, 1, .slice dad dd.length dcap)]) 0 22) rfl (log_build hAd.len)
  repeat (first | refine SeqS.go cok ?_ | (refine NatS.keep ?_; first | with_reducible refine NatS.lit ?_) | (refine still_in ?_; first | refine still_drop (by decide) ?_))
  refine ⟨hv2.down, rfl, ?_⟩
  refine ValS.cast hsv ?_
  repeat (first | refine SeqS.go cok ?_)
  clear hsv
  refine W.loopF cok (by kernel_rfl) 1 (fun (i : Nat) e' S' => ∃ tv Mt c6, S' = ⟨J, (⟨x6, 22, 141, c6⟩ :: ⟨sb, ssz, Ts, cs⟩ :: ⟨fb, fsz, Tf, cf⟩ :: (R ++ ML)) ++ Mt⟩ ∧ i ≤ n ∧ Row c6 0 (bvs K.self ++ [tv, .slice dad dd.length dcap]) ∧ OwnL 33 32 tv ((ts.take i).map fun n => bvs (be32 n)) Mt ∧ slots [(0, ptr sb 0), (14, ptr x6 0), (150, .slice (some ⟨x.b, A, none⟩) n (cap - 2)), (151, .int .i64 (n : Nat)), (152, .int .i64 (i : Nat))] e') (fun i => n - i) 0
    (.same ⟨_, [], _, by rw [List.append_nil]; rfl, Nat.zero_le _, Row.updN2 _ _ _, OwnL.nil _ _, rfl, rfl, rfl, rfl, rfl, trivial⟩)
    (fun e' S' => ∃ tv Mt c6, S' = ⟨J, (⟨x6, 22, 141, c6⟩ :: ⟨sb, ssz, Ts, cs⟩ :: ⟨fb, fsz, Tf, cf⟩ :: (R ++ ML)) ++ Mt⟩ ∧ Row c6 0 (bvs K.self ++ [tv, .slice dad dd.length dcap]) ∧ OwnL 33 32 tv ((ts).map fun n => bvs (be32 n)) Mt ∧ slots [(0, ptr sb 0), (14, ptr x6 0)] e') ?_ ?_
  · rintro e' S2 - ⟨tv, Mt, c6, rfl, h6, hT, hsl⟩
    refine SeqS.rel (S := ⟨J, (⟨x6, 22, 141, c6⟩ :: ⟨sb, ssz, Ts, cs⟩ :: ⟨fb, fsz, Tf, cf⟩ :: (R ++ ML)) ++ Mt⟩) ⟨[], Mt, ⟨x6, 22, 141, c6⟩ :: ⟨sb, ssz, Ts, cs⟩ :: ⟨fb, fsz, Tf, cf⟩ :: (R ++ ML), fun x => J x ∨ x ∈ Mt, by rw [List.append_nil]; exact List.perm_append_comm, fun _ => .rfl, ?_⟩
    refine SeqS.slots cok _ hsl fun e => ?_
    have hs2' : HL.Sub I fun x => J x ∨ x ∈ Mt := fun x h => .inl (hs x h)
    have hRw : RowI (fun x => J x ∨ x ∈ Mt) 32 tv (ts.map fun n => bvs (be32 n)) := hT.row fun x h => .inr h
    have h6l : (bvs K.self ++ [tv, .slice dad dd.length dcap]).length = 22 := by simp [hwl]
    have h22 : 0 + 22 ≤ 22 := by decide
    have hone : ∀ u ∈ (bvs K.self ++ [tv, .slice dad dd.length dcap]), one u = true := by
      intro u hu
      rcases List.mem_append.1 hu with h | h
      · exact bvs_one _ u h
      · obtain ⟨ad2, cap2, e2⟩ := hT.form
        simp at h
        rcases h with rfl | rfl
        · rw [e2]; rfl
        · rfl
    repeat (first | (refine QuG.keep ?_; refine QuG.rowE cok (x := ⟨x6, 22, 141, c6⟩) h6 (.inr List.mem_cons_self) rfl rfl rfl rfl rfl h6l h22 ?_) | refine And.intro ⟨⟨by assumption, Nat.le_of_ble_eq_true rfl⟩, trivial⟩ ?_ | refine And.intro (by dsimp only; omega) ?_ | (refine QuG.keep ?_; first | refine QuG.l1 cok 1 rfl rfl rfl rfl rfl (by first | exact Nat.le_of_ble_eq_true rfl | omega | (dsimp only; omega) | (simp only [addS_eq, mulS_eq]; omega)) ?_) | refine W.drawI 32 cok [0, 0, 2, 6, 14, 30, 0, 64, 254, 511, 1023, 2047, 4095] [0, 1, 2, 3, 4, 5, 6, 7, 8, 9, 10, 11, 12] [5, 6] (by kernel_rfl) (by kernel_rfl) ?_)
    intro tb
    repeat (first | (refine still_in ?_; first | refine still_nil ?_ | refine still_drop (by decide) ?_ | (refine still_keep (by decide) rfl ?_ ?_; first | exact QuV.l1 cok 2 rfl rfl rfl rfl rfl (by first | exact Nat.le_of_ble_eq_true rfl | omega | (dsimp only; omega) | (simp only [addS_eq, mulS_eq]; omega)) rfl)))
    refine OpG.keep ?_
    refine OpG.app1 cok (L := _ :: _ :: _ :: R) (M := ML) (vss := lvs) (el := bvs K.self ++ [tv, .slice dad dd.length dcap]) rfl rfl rfl rfl rfl rfl rfl rfl rfl ?_ ?_ ?_ ?_ ?_ ?_
    · exact hLO
    · exact Row.updN2 _ 0 _
    · exact h6l
    · exact hone
    · omega
    intro w' M' hO'
    have hw1 : one w' = true := by
      obtain ⟨wad, wcap, e⟩ := hO'.form
      rw [e]; rfl
    repeat (first | (refine OpG.keep ?_; refine OpG.s1E cok 1 4 rfl rfl rfl rfl rfl rfl h4 rfl hw1 ?_) | refine SeqS.go cok ?_ | (refine still_in ?_; first | refine still_drop (by decide) ?_))
    exact Fin.drop (⟨sb, ssz, Ts, upd cs 4 w'⟩ :: ⟨fb, fsz, Tf, cf⟩ :: (R ++ M')) [_] ⟨rfl, _, w', M', rfl, ⟨_, hO', (hLL.mono fun _ _ h => h.up hs2').snoc ⟨hAd, tv, _, rfl, hRw, hdv.mono (fun x h => .inl h) (by simp)⟩⟩⟩
  · rintro i e' S2 - ⟨tv, Mt, c6, rfl, hi, h6, hT, hsl⟩
    refine W.slots _ hsl fun e => ?_
    have h20 := log_row20 hAd.len h6
    by_cases hlt : i < n
    · obtain ⟨u, hu2, hnu⟩ := hel3 i hlt
      have hE2 := hEA2 (by omega)
      have hrdx : ∀ G, Rd ⟨J, G⟩ x := fun _ => .inl (hs x hx)
      have hwd := fun G => yWord (G := G) (hnu.up hs) (hb3 i hlt)
      have hb32 := be32_len (ts.getD i 0)
      have hcs2 : (bytesV (be32 (ts.getD i 0))).cells.size = 32 := by show (bvs _).toArray.size = 32; rw [List.size_toArray, bvs_len]; exact hb32
      have hbo := bvs_one (be32 (ts.getD i 0))
      have hbl : (bvs (be32 (ts.getD i 0))).length = 32 := by rw [bvs_len]; exact hb32
      have hnx : (ts.take (i + 1)).map (fun n => bvs (be32 n)) = ((ts.take i).map fun n => bvs (be32 n)) ++ [bvs (be32 (ts.getD i 0))] := by
        rw [List.take_succ_eq_append_getElem (by omega), List.map_append, List.getD_eq_getElem?_getD, List.getElem?_eq_getElem (by omega)]; rfl
      have hvl0 : ((ts.take i).map fun n => bvs (be32 n)).length = i := by simp; omega
      generalize ts.getD i 0 = ai at *
      generalize (ts.take i).map (fun n => bvs (be32 n)) = vs3 at *
      repeat (first | (refine QuG.keep ?_; first | refine QuG.l1E cok 0 rfl rfl rfl rfl rfl (by first | exact Nat.le_of_ble_eq_true rfl | omega | (dsimp only; omega) | (simp only [addS_eq, mulS_eq]; omega)) (by assumption) ?_ | refine QuG.el1E cok (by assumption) (by first | assumption | exact ‹∀ G, Rd ⟨_, G⟩ _› _) (by assumption) rfl rfl rfl rfl (by omega) ?_) | refine SeqS.go cok ?_ | refine And.intro (by omega) ?_ | (refine NatS.keep ?_; first | with_reducible refine NatS.nat ?_) | refine W.drawI 30 cok [0, 1, 0, 4, 12, 31, 63, 127] [0, 1, 2, 3, 4, 5, 6, 7] [1] (by kernel_rfl) (by kernel_rfl) ?_ | (refine CondS.keep ?_; first | refine CondS.d1 rfl (by omega) ?_))
      refine (hwd _).mono ?_
      rintro r _ - ⟨rfl, rfl⟩
      repeat (first | refine And.intro ⟨⟨by assumption, Nat.le_of_ble_eq_true rfl⟩, trivial⟩ ?_ | refine And.intro (by dsimp only; omega) ?_ | (refine still_in ?_; first | (refine still_keep (by decide) rfl ?_ ?_; first | exact QuV.l1 cok 0 rfl rfl rfl rfl rfl (by first | exact Nat.le_of_ble_eq_true rfl | omega | (dsimp only; omega) | (simp only [addS_eq, mulS_eq]; omega)) (by assumption))))
      intro tb
      repeat (first | (refine still_in ?_; first | refine still_nil ?_ | (refine still_keep (by decide) rfl ?_ ?_; first | exact QuV.l1 cok 1 rfl rfl rfl rfl rfl (by first | exact Nat.le_of_ble_eq_true rfl | omega | (dsimp only; omega) | (simp only [addS_eq, mulS_eq]; omega)) (by assumption))))
      refine OpG.keep ?_
      refine OpG.app1 cok (L := _ :: _ :: _ :: (R ++ ML)) (M := Mt) (vss := vs3) (el := bvs (be32 ai)) rfl rfl rfl rfl rfl rfl rfl rfl rfl ?_ ?_ ?_ ?_ ?_ ?_
      · exact hT
      · exact Row.updN2 _ 0 _
      · exact hbl
      · exact hbo
      · omega
      intro w' M' hO'
      have hset := log_set (w := w') hAd.len h6
      have hw1 : one w' = true := by
        obtain ⟨wad, wcap, e⟩ := hO'.form
        rw [e]; rfl
      repeat (first | (refine OpG.keep ?_; refine OpG.s1E cok 0 20 rfl rfl rfl rfl rfl rfl (by decide) rfl hw1 ?_) | refine SeqS.go cok ?_ | (refine ValS.keep ?_; first | (with_reducible refine ValS.kI64 ?_; first | (with_reducible refine ValS.addI64_L ?_ ?_ ; omega))) | (refine still_in ?_; first | refine still_drop (by decide) ?_))
      exact ⟨i + 1, Rel.same ⟨w', M', _, rfl, hlt, hset, by rw [hnx]; exact hO', rfl, rfl, rfl, rfl, rfl, trivial⟩, by show n - (i + 1) < n - i; omega⟩
    · obtain rfl : i = n := by omega
      rw [List.take_of_length_le (by omega)] at hT
      repeat (first | refine SeqS.go cok ?_ | (refine CondS.keep ?_; first | refine CondS.d0 rfl (by omega) ?_))
      exact ⟨tv, Mt, c6, rfl, h6, hT, rfl, rfl, trivial⟩
/-- yp.State.effect at LOG0..LOG4 -/
theorem yEffL163 {I : Ent → Prop} {R ML : List Ent} {sb ssz fb fsz pc gas : Nat} {Ts Tf : TypeId} {cs cf : Nat → Value} {K : YK} {w : YW} {s mem : List Nat} {M : List Ent} {av : Value} {as' : List Nat} (hsz : 179 ≤ ssz) (hfz : 60 ≤ fsz) (hC : CsI I cs cf K w pc gas s) (hM : MemO (cf 9) mem M) (hMG : ∀ x ∈ M, x ∈ R) (hL : LogO I (cs 4) w.lg ML) (hA : StkI I av as') (hlen : as'.length < 10) (h2 : 2 ≤ as'.length) (hb : ∀ x ∈ as', x < 2 ^ 256) (hn : as'.getD 1 0 < 2 ^ 40) :
    CallG Hvaf.prog 163 #[ptr sb 0, ptr fb 0, .int .u8 (163 : Nat), av] ⟨I, ⟨sb, ssz, Ts, cs⟩ :: ⟨fb, fsz, Tf, cf⟩ :: (R ++ ML)⟩ fun r S' => r = .bool true ∧ ∃ J lv ML', S' = ⟨J, ⟨sb, ssz, Ts, upd cs 4 lv⟩ :: ⟨fb, fsz, Tf, cf⟩ :: (R ++ ML')⟩ ∧ LogO J lv (w.lg ++ [(K.self, as'.drop 2, cutL mem (as'.getD 0 0) (as'.getD 1 0))]) ML' := by
  have hb20 := hC.KB.kself.bv
  have hl20 := hC.KB.kself.len
  have hAd := hC.KB.kself
  have hrow := hC.F.fself
  have hml := hM.len
  obtain ⟨vss, hRo, hvl, hel⟩ := hA.out
  obtain ⟨x, o3, cap, rfl, hcap, hx, hE⟩ : ∃ x o3 cap, av = sl x.b o3 vss.length cap ∧ vss.length ≤ cap ∧ I x ∧ Els x o3 1 vss := by
    rcases hRo.2 with ⟨_, h⟩ | h
    · rw [h] at hvl; simp at hvl; omega
    · exact h
  have hE2 := hE.drop2 (by omega)
  have hel2 : ∀ i, i < as'.length - 2 → ∃ u, (vss.drop 2).getD i [] = [u] ∧ NatI I u (as'.getD (2 + i) 0) := by
    intro i hi
    obtain ⟨u, h1, h2⟩ := hel (2 + i) (by omega)
    exact ⟨u, by rw [← h1, List.getD_eq_getElem?_getD, List.getElem?_drop, ← List.getD_eq_getElem?_getD], h2⟩
  have hdl : (vss.drop 2).length = as'.length - 2 := by rw [List.length_drop]; omega
  obtain ⟨lvs, hLO, hLL⟩ := hL.out
  have hlgl := hC.B.lg
  have hlvl := hLL.len
  have hsv : ∃ A, (2 < vss.length → Els x A 1 (vss.drop 2)) ∧ Value.slice (some ⟨x.b, if cap = 2 then o3 else addS o3 (mulS 2 1), none⟩) (vss.length - 2) (cap - 2) = .slice (some ⟨x.b, A, none⟩) (vss.length - 2) (cap - 2) := by
    by_cases hc : cap = 2
    · exact ⟨o3, fun hq => by omega, by rw [if_pos hc]⟩
    · exact ⟨o3 + 2, fun _ => hE2, by rw [if_neg hc, addS_eq, mulS_eq]⟩
  obtain ⟨A, hEA, hsv⟩ := hsv
  have hop0 := fun G => yOperand (G := G) (i := 0) hA (by omega) (by decide)
  have hop1 := fun G => yOperand (G := G) (i := 1) hA (by omega) (by decide)
  have hop2 := fun G => yOperand (G := G) (i := 2) hA (by omega) (by decide)
  have hrd := fun v u (hv : NatI I v (as'.getD 0 0)) (hu : NatI I u (as'.getD 1 0)) => yRead (T := Tf) hfz (hM.byt (I := I) (G := ⟨fb, fsz, Tf, cf⟩ :: (R ++ ML)) (fun z hz => List.mem_cons_of_mem _ (List.mem_append_left _ (hMG z hz)))) hv hu hn (by omega)
  have h4 : 5 ≤ ssz := by omega
  have hv2 : PLift (2 ≤ vss.length) := ⟨by omega⟩
  obtain ⟨n, hnn⟩ : ∃ n, vss.length - 2 = n := ⟨_, rfl⟩
  have htl : (as'.drop 2).length = n := by rw [List.length_drop]; omega
  have hdl2 : (vss.drop 2).length = n := by omega
  have hel3 : ∀ i, i < n → ∃ u, (vss.drop 2).getD i [] = [u] ∧ NatI I u ((as'.drop 2).getD i 0) := by
    intro i hi
    obtain ⟨u, h1, h2⟩ := hel2 i (by omega)
    exact ⟨u, h1, by rw [List.getD_eq_getElem?_getD, List.getElem?_drop, ← List.getD_eq_getElem?_getD]; exact h2⟩
  have hb3 : ∀ i, i < n → (as'.drop 2).getD i 0 < 2 ^ 256 := by
    intro i hi
    rw [List.getD_eq_getElem?_getD, List.getElem?_eq_getElem (by omega)]
    exact hb _ (List.mem_of_mem_drop (List.getElem_mem _))
  replace hsv : Value.slice (some ⟨x.b, if cap = 2 then o3 else addS o3 (mulS 2 1), none⟩) (vss.length - 2) (cap - 2) = .slice (some ⟨x.b, A, none⟩) n (cap - 2) := by rw [hsv, hnn]
  have hEA2 : 0 < n → Els x A 1 (vss.drop 2) := fun h => hEA (by omega)
  have hn8 : n < 8 := by omega
  have hL17 : lvs.length < 2 ^ 17 := by omega
  generalize vss.drop 2 = vs2 at *
  generalize as'.drop 2 = ts at *
  clear hel2 hdl hEA hb hel hRo hA hE hE2 hMG hM hC hml h2 hn hlen hsz
  generalize hdd : cutL mem (as'.getD 0 0) (as'.getD 1 0) = dd at *
  refine CallG.start (C := mkC Hvaf.prog) cok (args := [ptr sb 0, ptr fb 0, .int .u8 ((163 : Nat) : Int), sl x.b o3 vss.length cap]) Hvaf.func163 rfl Hvaf.ntmps163 (by simp) (by kernel_rfl) ?_
  repeat (first | refine SeqS.go cok ?_)
  refine (hop0 _).mono ?_
  rintro v _ - ⟨rfl, hv⟩
  repeat (first | refine SeqS.go cok ?_)
  refine (hop1 _).mono ?_
  rintro u _ - ⟨rfl, hu⟩
  repeat (first | refine SeqS.go cok ?_)
  refine (hop2 _).mono ?_
  rintro y _ - ⟨rfl, hy⟩
  repeat (first | refine SeqS.go cok ?_ | refine GuardS.yes rfl ?_ | refine CondS.t rfl ?_ | refine CondS.f rfl ?_)
  have hwl := hb20
  have hfit : 12 + 20 ≤ fsz := by omega
  have hcs : (Value.agg (bvs K.self).toArray).cells.size = 20 := by show (bvs K.self).toArray.size = 20; simp [hl20]
  have hrd1 : ∀ (J : Ent → Prop), Rd ⟨J, ⟨sb, ssz, Ts, cs⟩ :: ⟨fb, fsz, Tf, cf⟩ :: (R ++ ML)⟩ ⟨fb, fsz, Tf, cf⟩ := fun J => .inr (List.mem_cons_of_mem _ List.mem_cons_self)
  repeat (first | (refine QuG.keep ?_; first | refine QuG.rowA cok 1 rfl rfl rfl rfl rfl (by assumption) (by assumption) (by first | exact Nat.le_of_ble_eq_true rfl | omega | (dsimp only; omega) | (simp only [addS_eq, mulS_eq]; omega)) ?_) | refine W.drawI 26 cok [0, 1, 3, 7, 0, 0, 0, 112, 255, 0, 1023] [0, 1, 2, 3, 4, 5, 6, 7, 8, 9, 10] [3] (by kernel_rfl) (by kernel_rfl) ?_)
  refine CallG.behindB (l := dd) (G1 := ⟨fb, fsz, Tf, cf⟩ :: (R ++ ML)) [⟨sb, ssz, Ts, cs⟩] ?_ ?_
  · show CallG Hvaf.prog 72 #[ptr fb 0, v, u] ⟨I, ⟨fb, fsz, Tf, cf⟩ :: (R ++ ML)⟩ _
    exact hrd v u hv hu
  intro dad dcap J hs hdv
  clear hop0 hop1 hop2 hrd
  repeat (first | refine And.intro ⟨⟨by assumption, Nat.le_of_ble_eq_true rfl⟩, fillOk_of (Eq.refl true)⟩ ?_ | refine And.intro (Eq.refl true) ?_ | (refine still_in ?_; first | (refine still_keep (by decide) rfl ?_ ?_; first | exact QuV.of (QuG.rowA cok 1 rfl rfl rfl rfl rfl (by assumption) (by assumption) (by first | exact Nat.le_of_ble_eq_true rfl | omega | (dsimp only; omega)) rfl))))
  intro x6
  skip
  refine OpG.keep ?_
  refine OpG.upS cok 0 (o := 0) (vs := bvs K.self ++ [.slice none 0 0, .slice dad dd.length dcap]) rfl rfl rfl rfl ?_ (by simp [hwl]) (by intro u hu; rcases List.mem_append.1 hu with h | h; exact bvs_one _ u h; simp at h; rcases h with rfl | rfl <;> rfl) (by show 0 + 22 ≤ 22; decide) ?_
  · refine congrArg (fun l : List Value => Value.agg l.toArray) (a₁ := cellsFrom (fillC z141 [(0, 20, _), (21, 1, _)]) 0 22) ?_
    refine Eq.trans (b := cellsFrom (fillC z141 [(0, 20, .agg (bvs K.self).toArray), (21, 1, _)]) 0 22) rfl ?_
    exact Eq.trans (b := cellsFrom (fillC z141 [(0, 20, .agg (bvs K.self).toArray), (21, 1, .slice dad dd.length dcap)]) 0 22) rfl (log_build hAd.len)
  repeat (first | refine SeqS.go cok ?_ | (refine NatS.keep ?_; first | with_reducible refine NatS.lit ?_) | (refine still_in ?_; first | refine still_drop (by decide) ?_))
  refine ⟨hv2.down, rfl, ?_⟩
  refine ValS.cast hsv ?_
  repeat (first | refine SeqS.go cok ?_)
  clear hsv
  refine W.loopF cok (by kernel_rfl) 1 (fun (i : Nat) e' S' => ∃ tv Mt c6, S' = ⟨J, (⟨x6, 22, 141, c6⟩ :: ⟨sb, ssz, Ts, cs⟩ :: ⟨fb, fsz, Tf, cf⟩ :: (R ++ ML)) ++ Mt⟩ ∧ i ≤ n ∧ Row c6 0 (bvs K.self ++ [tv, .slice dad dd.length dcap]) ∧ OwnL 33 32 tv ((ts.take i).map fun n => bvs (be32 n)) Mt ∧ slots [(0, ptr sb 0), (14, ptr x6 0), (150, .slice (some ⟨x.b, A, none⟩) n (cap - 2)), (151, .int .i64 (n : Nat)), (152, .int .i64 (i : Nat))] e') (fun i => n - i) 0
    (.same ⟨_, [], _, by rw [List.append_nil]; rfl, Nat.zero_le _, Row.updN2 _ _ _, OwnL.nil _ _, rfl, rfl, rfl, rfl, rfl, trivial⟩)
    (fun e' S' => ∃ tv Mt c6, S' = ⟨J, (⟨x6, 22, 141, c6⟩ :: ⟨sb, ssz, Ts, cs⟩ :: ⟨fb, fsz, Tf, cf⟩ :: (R ++ ML)) ++ Mt⟩ ∧ Row c6 0 (bvs K.self ++ [tv, .slice dad dd.length dcap]) ∧ OwnL 33 32 tv ((ts).map fun n => bvs (be32 n)) Mt ∧ slots [(0, ptr sb 0), (14, ptr x6 0)] e') ?_ ?_
  · rintro e' S2 - ⟨tv, Mt, c6, rfl, h6, hT, hsl⟩
    refine SeqS.rel (S := ⟨J, (⟨x6, 22, 141, c6⟩ :: ⟨sb, ssz, Ts, cs⟩ :: ⟨fb, fsz, Tf, cf⟩ :: (R ++ ML)) ++ Mt⟩) ⟨[], Mt, ⟨x6, 22, 141, c6⟩ :: ⟨sb, ssz, Ts, cs⟩ :: ⟨fb, fsz, Tf, cf⟩ :: (R ++ ML), fun x => J x ∨ x ∈ Mt, by rw [List.append_nil]; exact List.perm_append_comm, fun _ => .rfl, ?_⟩
    refine SeqS.slots cok _ hsl fun e => ?_
    have hs2' : HL.Sub I fun x => J x ∨ x ∈ Mt := fun x h => .inl (hs x h)
    have hRw : RowI (fun x => J x ∨ x ∈ Mt) 32 tv (ts.map fun n => bvs (be32 n)) := hT.row fun x h => .inr h
    have h6l : (bvs K.self ++ [tv, .slice dad dd.length dcap]).length = 22 := by simp [hwl]
    have h22 : 0 + 22 ≤ 22 := by decide
    have hone : ∀ u ∈ (bvs K.self ++ [tv, .slice dad dd.length dcap]), one u = true := by
      intro u hu
      rcases List.mem_append.1 hu with h | h
      · exact bvs_one _ u h
      · obtain ⟨ad2, cap2, e2⟩ := hT.form
        simp at h
        rcases h with rfl | rfl
        · rw [e2]; rfl
        · rfl
    repeat (first | (refine QuG.keep ?_; refine QuG.rowE cok (x := ⟨x6, 22, 141, c6⟩) h6 (.inr List.mem_cons_self) rfl rfl rfl rfl rfl h6l h22 ?_) | refine And.intro ⟨⟨by assumption, Nat.le_of_ble_eq_true rfl⟩, trivial⟩ ?_ | refine And.intro (by dsimp only; omega) ?_ | (refine QuG.keep ?_; first | refine QuG.l1 cok 1 rfl rfl rfl rfl rfl (by first | exact Nat.le_of_ble_eq_true rfl | omega | (dsimp only; omega) | (simp only [addS_eq, mulS_eq]; omega)) ?_) | refine W.drawI 32 cok [0, 0, 2, 6, 14, 30, 0, 64, 254, 511, 1023, 2047, 4095] [0, 1, 2, 3, 4, 5, 6, 7, 8, 9, 10, 11, 12] [5, 6] (by kernel_rfl) (by kernel_rfl) ?_)
    intro tb
    repeat (first | (refine still_in ?_; first | refine still_nil ?_ | refine still_drop (by decide) ?_ | (refine still_keep (by decide) rfl ?_ ?_; first | exact QuV.l1 cok 2 rfl rfl rfl rfl rfl (by first | exact Nat.le_of_ble_eq_true rfl | omega | (dsimp only; omega) | (simp only [addS_eq, mulS_eq]; omega)) rfl)))
    refine OpG.keep ?_
    refine OpG.app1 cok (L := _ :: _ :: _ :: R) (M := ML) (vss := lvs) (el := bvs K.self ++ [tv, .slice dad dd.length dcap]) rfl rfl rfl rfl rfl rfl rfl rfl rfl ?_ ?_ ?_ ?_ ?_ ?_
    · exact hLO
    · exact Row.updN2 _ 0 _
    · exact h6l
    · exact hone
    · omega
    intro w' M' hO'
    have hw1 : one w' = true := by
      obtain ⟨wad, wcap, e⟩ := hO'.form
      rw [e]; rfl
    repeat (first | (refine OpG.keep ?_; refine OpG.s1E cok 1 4 rfl rfl rfl rfl rfl rfl h4 rfl hw1 ?_) | refine SeqS.go cok ?_ | (refine still_in ?_; first | refine still_drop (by decide) ?_))
    exact Fin.drop (⟨sb, ssz, Ts, upd cs 4 w'⟩ :: ⟨fb, fsz, Tf, cf⟩ :: (R ++ M')) [_] ⟨rfl, _, w', M', rfl, ⟨_, hO', (hLL.mono fun _ _ h => h.up hs2').snoc ⟨hAd, tv, _, rfl, hRw, hdv.mono (fun x h => .inl h) (by simp)⟩⟩⟩
  · rintro i e' S2 - ⟨tv, Mt, c6, rfl, hi, h6, hT, hsl⟩
    refine W.slots _ hsl fun e => ?_
    have h20 := log_row20 hAd.len h6
    by_cases hlt : i < n
    · obtain ⟨u, hu2, hnu⟩ := hel3 i hlt
      have hE2 := hEA2 (by omega)
      have hrdx : ∀ G, Rd ⟨J, G⟩ x := fun _ => .inl (hs x hx)
      have hwd := fun G => yWord (G := G) (hnu.up hs) (hb3 i hlt)
      have hb32 := be32_len (ts.getD i 0)
      have hcs2 : (bytesV (be32 (ts.getD i 0))).cells.size = 32 := by show (bvs _).toArray.size = 32; rw [List.size_toArray, bvs_len]; exact hb32
      have hbo := bvs_one (be32 (ts.getD i 0))
      have hbl : (bvs (be32 (ts.getD i 0))).length = 32 := by rw [bvs_len]; exact hb32
      have hnx : (ts.take (i + 1)).map (fun n => bvs (be32 n)) = ((ts.take i).map fun n => bvs (be32 n)) ++ [bvs (be32 (ts.getD i 0))] := by
        rw [List.take_succ_eq_append_getElem (by omega), List.map_append, List.getD_eq_getElem?_getD, List.getElem?_eq_getElem (by omega)]; rfl
      have hvl0 : ((ts.take i).map fun n => bvs (be32 n)).length = i := by simp; omega
      generalize ts.getD i 0 = ai at *
      generalize (ts.take i).map (fun n => bvs (be32 n)) = vs3 at *
      repeat (first | (refine QuG.keep ?_; first | refine QuG.l1E cok 0 rfl rfl rfl rfl rfl (by first | exact Nat.le_of_ble_eq_true rfl | omega | (dsimp only; omega) | (simp only [addS_eq, mulS_eq]; omega)) (by assumption) ?_ | refine QuG.el1E cok (by assumption) (by first | assumption | exact ‹∀ G, Rd ⟨_, G⟩ _› _) (by assumption) rfl rfl rfl rfl (by omega) ?_) | refine SeqS.go cok ?_ | refine And.intro (by omega) ?_ | (refine NatS.keep ?_; first | with_reducible refine NatS.nat ?_) | refine W.drawI 30 cok [0, 1, 0, 4, 12, 31, 63, 127] [0, 1, 2, 3, 4, 5, 6, 7] [1] (by kernel_rfl) (by kernel_rfl) ?_ | (refine CondS.keep ?_; first | refine CondS.d1 rfl (by omega) ?_))
      refine (hwd _).mono ?_
      rintro r _ - ⟨rfl, rfl⟩
      repeat (first | refine And.intro ⟨⟨by assumption, Nat.le_of_ble_eq_true rfl⟩, trivial⟩ ?_ | refine And.intro (by dsimp only; omega) ?_ | (refine still_in ?_; first | (refine still_keep (by decide) rfl ?_ ?_; first | exact QuV.l1 cok 0 rfl rfl rfl rfl rfl (by first | exact Nat.le_of_ble_eq_true rfl | omega | (dsimp only; omega) | (simp only [addS_eq, mulS_eq]; omega)) (by assumption))))
      intro tb
      repeat (first | (refine still_in ?_; first | refine still_nil ?_ | (refine still_keep (by decide) rfl ?_ ?_; first | exact QuV.l1 cok 1 rfl rfl rfl rfl rfl (by first | exact Nat.le_of_ble_eq_true rfl | omega | (dsimp only; omega) | (simp only [addS_eq, mulS_eq]; omega)) (by assumption))))
      refine OpG.keep ?_
      refine OpG.app1 cok (L := _ :: _ :: _ :: (R ++ ML)) (M := Mt) (vss := vs3) (el := bvs (be32 ai)) rfl rfl rfl rfl rfl rfl rfl rfl rfl ?_ ?_ ?_ ?_ ?_ ?_
      · exact hT
      · exact Row.updN2 _ 0 _
      · exact hbl
      · exact hbo
      · omega
      intro w' M' hO'
      have hset := log_set (w := w') hAd.len h6
      have hw1 : one w' = true := by
        obtain ⟨wad, wcap, e⟩ := hO'.form
        rw [e]; rfl
      repeat (first | (refine OpG.keep ?_; refine OpG.s1E cok 0 20 rfl rfl rfl rfl rfl rfl (by decide) rfl hw1 ?_) | refine SeqS.go cok ?_ | (refine ValS.keep ?_; first | (with_reducible refine ValS.kI64 ?_; first | (with_reducible refine ValS.addI64_L ?_ ?_ ; omega))) | (refine still_in ?_; first | refine still_drop (by decide) ?_))
      exact ⟨i + 1, Rel.same ⟨w', M', _, rfl, hlt, hset, by rw [hnx]; exact hO', rfl, rfl, rfl, rfl, rfl, trivial⟩, by show n - (i + 1) < n - i; omega⟩
    · obtain rfl : i = n := by omega
      rw [List.take_of_length_le (by omega)] at hT
      repeat (first | refine SeqS.go cok ?_ | (refine CondS.keep ?_; first | refine CondS.d0 rfl (by omega) ?_))
      exact ⟨tv, Mt, c6, rfl, h6, hT, rfl, rfl, trivial⟩
/-- yp.State.effect at LOG0..LOG4 -/
theorem yEffL164 {I : Ent → Prop} {R ML : List Ent} {sb ssz fb fsz pc gas : Nat} {Ts Tf : TypeId} {cs cf : Nat → Value} {K : YK} {w : YW} {s mem : List Nat} {M : List Ent} {av : Value} {as' : List Nat} (hsz : 179 ≤ ssz) (hfz : 60 ≤ fsz) (hC : CsI I cs cf K w pc gas s) (hM : MemO (cf 9) mem M) (hMG : ∀ x ∈ M, x ∈ R) (hL : LogO I (cs 4) w.lg ML) (hA : StkI I av as') (hlen : as'.length < 10) (h2 : 2 ≤ as'.length) (hb : ∀ x ∈ as', x < 2 ^ 256) (hn : as'.getD 1 0 < 2 ^ 40) :
    CallG Hvaf.prog 163 #[ptr sb 0, ptr fb 0, .int .u8 (164 : Nat), av] ⟨I, ⟨sb, ssz, Ts, cs⟩ :: ⟨fb, fsz, Tf, cf⟩ :: (R ++ ML)⟩ fun r S' => r = .bool true ∧ ∃ J lv ML', S' = ⟨J, ⟨sb, ssz, Ts, upd cs 4 lv⟩ :: ⟨fb, fsz, Tf, cf⟩ :: (R ++ ML')⟩ ∧ LogO J lv (w.lg ++ [(K.self, as'.drop 2, cutL mem (as'.getD 0 0) (as'.getD 1 0))]) ML' := by
  have hb20 := hC.KB.kself.bv
  have hl20 := hC.KB.kself.len
  have hAd := hC.KB.kself
  have hrow := hC.F.fself
  have hml := hM.len
  obtain ⟨vss, hRo, hvl, hel⟩ := hA.out
  obtain ⟨x, o3, cap, rfl, hcap, hx, hE⟩ : ∃ x o3 cap, av = sl x.b o3 vss.length cap ∧ vss.length ≤ cap ∧ I x ∧ Els x o3 1 vss := by
    rcases hRo.2 with ⟨_, h⟩ | h
    · rw [h] at hvl; simp at hvl; omega
    · exact h
  have hE2 := hE.drop2 (by omega)
  have hel2 : ∀ i, i < as'.length - 2 → ∃ u, (vss.drop 2).getD i [] = [u] ∧ NatI I u (as'.getD (2 + i) 0) := by
    intro i hi
    obtain ⟨u, h1, h2⟩ := hel (2 + i) (by omega)
    exact ⟨u, by rw [← h1, List.getD_eq_getElem?_getD, List.getElem?_drop, ← List.getD_eq_getElem?_getD], h2⟩
  have hdl : (vss.drop 2).length = as'.length - 2 := by rw [List.length_drop]; omega
  obtain ⟨lvs, hLO, hLL⟩ := hL.out
  have hlgl := hC.B.lg
  have hlvl := hLL.len
  have hsv : ∃ A, (2 < vss.length → Els x A 1 (vss.drop 2)) ∧ Value.slice (some ⟨x.b, if cap = 2 then o3 else addS o3 (mulS 2 1), none⟩) (vss.length - 2) (cap - 2) = .slice (some ⟨x.b, A, none⟩) (vss.length - 2) (cap - 2) := by
    by_cases hc : cap = 2
    · exact ⟨o3, fun hq => by omega, by rw [if_pos hc]⟩
    · exact ⟨o3 + 2, fun _ => hE2, by rw [if_neg hc, addS_eq, mulS_eq]⟩
  obtain ⟨A, hEA, hsv⟩ := hsv
  have hop0 := fun G => yOperand (G := G) (i := 0) hA (by omega) (by decide)
  have hop1 := fun G => yOperand (G := G) (i := 1) hA (by omega) (by decide)
  have hop2 := fun G => yOperand (G := G) (i := 2) hA (by omega) (by decide)
  have hrd := fun v u (hv : NatI I v (as'.getD 0 0)) (hu : NatI I u (as'.getD 1 0)) => yRead (T := Tf) hfz (hM.byt (I := I) (G := ⟨fb, fsz, Tf, cf⟩ :: (R ++ ML)) (fun z hz => List.mem_cons_of_mem _ (List.mem_append_left _ (hMG z hz)))) hv hu hn (by omega)
  have h4 : 5 ≤ ssz := by omega
  have hv2 : PLift (2 ≤ vss.length) := ⟨by omega⟩
  obtain ⟨n, hnn⟩ : ∃ n, vss.length - 2 = n := ⟨_, rfl⟩
  have htl : (as'.drop 2).length = n := by rw [List.length_drop]; omega
  have hdl2 : (vss.drop 2).length = n := by omega
  have hel3 : ∀ i, i < n → ∃ u, (vss.drop 2).getD i [] = [u] ∧ NatI I u ((as'.drop 2).getD i 0) := by
    intro i hi
    obtain ⟨u, h1, h2⟩ := hel2 i (by omega)
    exact ⟨u, h1, by rw [List.getD_eq_getElem?_getD, List.getElem?_drop, ← List.getD_eq_getElem?_getD]; exact h2⟩
  have hb3 : ∀ i, i < n → (as'.drop 2).getD i 0 < 2 ^ 256 := by
    intro i hi
    rw [List.getD_eq_getElem?_getD, List.getElem?_eq_getElem (by omega)]
    exact hb _ (List.mem_of_mem_drop (List.getElem_mem _))
  replace hsv : Value.slice (some ⟨x.b, if cap = 2 then o3 else addS o3 (mulS 2 1), none⟩) (vss.length - 2) (cap - 2) = .slice (some ⟨x.b, A, none⟩) n (cap - 2) := by rw [hsv, hnn]
  have hEA2 : 0 < n → Els x A 1 (vss.drop 2) := fun h => hEA (by omega)
  have hn8 : n < 8 := by omega
  have hL17 : lvs.length < 2 ^ 17 := by omega
  generalize vss.drop 2 = vs2 at *
  generalize as'.drop 2 = ts at *
  clear hel2 hdl hEA hb hel hRo hA hE hE2 hMG hM hC hml h2 hn hlen hsz
  generalize hdd : cutL mem (as'.getD 0 0) (as'.getD 1 0) = dd at *
  refine CallG.start (C := mkC Hvaf.prog) cok (args := [ptr sb 0, ptr fb 0, .int .u8 ((164 : Nat) : Int), sl x.b o3 vss.length cap]) Hvaf.func163 rfl Hvaf.ntmps163 (by simp) (by kernel_rfl) ?_
  repeat (first | refine SeqS.go cok ?_)
  refine (hop0 _).mono ?_
  rintro v _ - ⟨rfl, hv⟩
  repeat (first | refine SeqS.go cok ?_)
  refine (hop1 _).mono ?_
  rintro u _ - ⟨rfl, hu⟩
  repeat (first | refine SeqS.go cok ?_)
  refine (hop2 _).mono ?_
  rintro y _ - ⟨rfl, hy⟩
  repeat (first | refine SeqS.go cok ?_ | refine GuardS.yes rfl ?_ | refine CondS.t rfl ?_ | refine CondS.f rfl ?_)
  have hwl := hb20
  have hfit : 12 + 20 ≤ fsz := by omega
  have hcs : (Value.agg (bvs K.self).toArray).cells.size = 20 := by show (bvs K.self).toArray.size = 20; simp [hl20]
  have hrd1 : ∀ (J : Ent → Prop), Rd ⟨J, ⟨sb, ssz, Ts, cs⟩ :: ⟨fb, fsz, Tf, cf⟩ :: (R ++ ML)⟩ ⟨fb, fsz, Tf, cf⟩ := fun J => .inr (List.mem_cons_of_mem _ List.mem_cons_self)
  repeat (first | (refine QuG.keep ?_; first | refine QuG.rowA cok 1 rfl rfl rfl rfl rfl (by assumption) (by assumption) (by first | exact Nat.le_of_ble_eq_true rfl | omega | (dsimp only; omega) | (simp only [addS_eq, mulS_eq]; omega)) ?_) | refine W.drawI 26 cok [0, 1, 3, 7, 0, 0, 0, 112, 255, 0, 1023] [0, 1, 2, 3, 4, 5, 6, 7, 8, 9, 10] [3] (by kernel_rfl) (by kernel_rfl) ?_)
  refine CallG.behindB (l := dd) (G1 := ⟨fb, fsz, Tf, cf⟩ :: (R ++ ML)) [⟨sb, ssz, Ts, cs⟩] ?_ ?_
  · show CallG Hvaf.prog 72 #[ptr fb 0, v, u] ⟨I, ⟨fb, fsz, Tf, cf⟩ :: (R ++ ML)⟩ _
    exact hrd v u hv hu
  intro dad dcap J hs hdv
  clear hop0 hop1 hop2 hrd
  repeat (first | refine And.intro ⟨⟨by assumption, Nat.le_of_ble_eq_true rfl⟩, fillOk_of (Eq.refl true)⟩ ?_ | refine And.intro (Eq.refl true) ?_ | (refine still_in ?_; first | (refine still_keep (by decide) rfl ?_ ?_; first | exact QuV.of (QuG.rowA cok 1 rfl rfl rfl rfl rfl (by assumption) (by assumption) (by first | exact Nat.le_of_ble_eq_true rfl | omega | (dsimp only; omega)) rfl))))
  intro x6
  skip
  refine OpG.keep ?_
  refine OpG.upS cok 0 (o := 0) (vs := bvs K.self ++ [.slice none 0 0, .slice dad dd.length dcap]) rfl rfl rfl rfl ?_ (by simp [hwl]) (by intro u hu; rcases List.mem_append.1 hu with h | h; exact bvs_one _ u h; simp at h; rcases h with rfl | rfl <;> rfl) (by show 0 + 22 ≤ 22; decide) ?_
  · refine congrArg (fun l : List Value => Value.agg l.toArray) (a₁ := cellsFrom (fillC z141 [(0, 20, _), (21, 1, _)]) 0 22) ?_
    refine Eq.trans (b := cellsFrom (fillC z141 [(0, 20, .agg (bvs K.self).toArray), (21, 1, _)]) 0 22) rfl ?_
    exact Eq.trans (b := cellsFrom (fillC z141 [(0, 20, .agg (bvs K.self).toArray), (21, 1, .slice dad dd.length dcap)]) 0 22) rfl (log_build hAd.len)
  repeat (first | refine SeqS.go cok ?_ | (refine NatS.keep ?_; first | with_reducible refine NatS.lit ?_) | (refine still_in ?_; first | refine still_drop (by decide) ?_))
  refine ⟨hv2.down, rfl, ?_⟩
  refine ValS.cast hsv ?_
  repeat (first | refine SeqS.go cok ?_)
  clear hsv
  refine W.loopF cok (by kernel_rfl) 1 (fun (i : Nat) e' S' => ∃ tv Mt c6, S' = ⟨J, (⟨x6, 22, 141, c6⟩ :: ⟨sb, ssz, Ts, cs⟩ :: ⟨fb, fsz, Tf, cf⟩ :: (R ++ ML)) ++ Mt⟩ ∧ i ≤ n ∧ Row c6 0 (bvs K.self ++ [tv, .slice dad dd.length dcap]) ∧ OwnL 33 32 tv ((ts.take i).map fun n => bvs (be32 n)) Mt ∧ slots [(0, ptr sb 0), (14, ptr x6 0), (150, .slice (some ⟨x.b, A, none⟩) n (cap - 2)), (151, .int .i64 (n : Nat)), (152, .int .i64 (i : Nat))] e') (fun i => n - i) 0
    (.same ⟨_, [], _, by rw [List.append_nil]; rfl, Nat.zero_le _, Row.updN2 _ _ _, OwnL.nil _ _, rfl, rfl, rfl, rfl, rfl, trivial⟩)
    (fun e' S' => ∃ tv Mt c6, S' = ⟨J, (⟨x6, 22, 141, c6⟩ :: ⟨sb, ssz, Ts, cs⟩ :: ⟨fb, fsz, Tf, cf⟩ :: (R ++ ML)) ++ Mt⟩ ∧ Row c6 0 (bvs K.self ++ [tv, .slice dad dd.length dcap]) ∧ OwnL 33 32 tv ((ts).map fun n => bvs (be32 n)) Mt ∧ slots [(0, ptr sb 0), (14, ptr x6 0)] e') ?_ ?_
  · rintro e' S2 - ⟨tv, Mt, c6, rfl, h6, hT, hsl⟩
    refine SeqS.rel (S := ⟨J, (⟨x6, 22, 141, c6⟩ :: ⟨sb, ssz, Ts, cs⟩ :: ⟨fb, fsz, Tf, cf⟩ :: (R ++ ML)) ++ Mt⟩) ⟨[], Mt, ⟨x6, 22, 141, c6⟩ :: ⟨sb, ssz, Ts, cs⟩ :: ⟨fb, fsz, Tf, cf⟩ :: (R ++ ML), fun x => J x ∨ x ∈ Mt, by rw [List.append_nil]; exact List.perm_append_comm, fun _ => .rfl, ?_⟩
    refine SeqS.slots cok _ hsl fun e => ?_
    have hs2' : HL.Sub I fun x => J x ∨ x ∈ Mt := fun x h => .inl (hs x h)
    have hRw : RowI (fun x => J x ∨ x ∈ Mt) 32 tv (ts.map fun n => bvs (be32 n)) := hT.row fun x h => .inr h
    have h6l : (bvs K.self ++ [tv, .slice dad dd.length dcap]).length = 22 := by simp [hwl]
    have h22 : 0 + 22 ≤ 22 := by decide
    have hone : ∀ u ∈ (bvs K.self ++ [tv, .slice dad dd.length dcap]), one u = true := by
      intro u hu
      rcases List.mem_append.1 hu with h | h
      · exact bvs_one _ u h
      · obtain ⟨ad2, cap2, e2⟩ := hT.form
        simp at h
        rcases h with rfl | rfl
        · rw [e2]; rfl
        · rfl
    repeat (first | (refine QuG.keep ?_; refine QuG.rowE cok (x := ⟨x6, 22, 141, c6⟩) h6 (.inr List.mem_cons_self) rfl rfl rfl rfl rfl h6l h22 ?_) | refine And.intro ⟨⟨by assumption, Nat.le_of_ble_eq_true rfl⟩, trivial⟩ ?_ | refine And.intro (by dsimp only; omega) ?_ | (refine QuG.keep ?_; first | refine QuG.l1 cok 1 rfl rfl rfl rfl rfl (by first | exact Nat.le_of_ble_eq_true rfl | omega | (dsimp only; omega) | (simp only [addS_eq, mulS_eq]; omega)) ?_) | refine W.drawI 32 cok [0, 0, 2, 6, 14, 30, 0, 64, 254, 511, 1023, 2047, 4095] [0, 1, 2, 3, 4, 5, 6, 7, 8, 9, 10, 11, 12] [5, 6] (by kernel_rfl) (by kernel_rfl) ?_)
    intro tb
    repeat (first | (refine still_in ?_; first | refine still_nil ?_ | refine still_drop (by decide) ?_ | (refine still_keep (by decide) rfl ?_ ?_; first | exact QuV.l1 cok 2 rfl rfl rfl rfl rfl (by first | exact Nat.le_of_ble_eq_true rfl | omega | (dsimp only; omega) | (simp only [addS_eq, mulS_eq]; omega)) rfl)))
    refine OpG.keep ?_
    refine OpG.app1 cok (L := _ :: _ :: _ :: R) (M := ML) (vss := lvs) (el := bvs K.self ++ [tv, .slice dad dd.length dcap]) rfl rfl rfl rfl rfl rfl rfl rfl rfl ?_ ?_ ?_ ?_ ?_ ?_
    · exact hLO
    · exact Row.updN2 _ 0 _
    · exact h6l
    · exact hone
    · omega
    intro w' M' hO'
    have hw1 : one w' = true := by
      obtain ⟨wad, wcap, e⟩ := hO'.form
      rw [e]; rfl
    repeat (first | (refine OpG.keep ?_; refine OpG.s1E cok 1 4 rfl rfl rfl rfl rfl rfl h4 rfl hw1 ?_) | refine SeqS.go cok ?_ | (refine still_in ?_; first | refine still_drop (by decide) ?_))
    exact Fin.drop (⟨sb, ssz, Ts, upd cs 4 w'⟩ :: ⟨fb, fsz, Tf, cf⟩ :: (R ++ M')) [_] ⟨rfl, _, w', M', rfl, ⟨_, hO', (hLL.mono fun _ _ h => h.up hs2').snoc ⟨hAd, tv, _, rfl, hRw, hdv.mono (fun x h => .inl h) (by simp)⟩⟩⟩
  · rintro i e' S2 - ⟨tv, Mt, c6, rfl, hi, h6, hT, hsl⟩
    refine W.slots _ hsl fun e => ?_
    have h20 := log_row20 hAd.len h6
    by_cases hlt : i < n
    · obtain ⟨u, hu2, hnu⟩ := hel3 i hlt
      have hE2 := hEA2 (by omega)
      have hrdx : ∀ G, Rd ⟨J, G⟩ x := fun _ => .inl (hs x hx)
      have hwd := fun G => yWord (G := G) (hnu.up hs) (hb3 i hlt)
      have hb32 := be32_len (ts.getD i 0)
      have hcs2 : (bytesV (be32 (ts.getD i 0))).cells.size = 32 := by show (bvs _).toArray.size = 32; rw [List.size_toArray, bvs_len]; exact hb32
      have hbo := bvs_one (be32 (ts.getD i 0))
      have hbl : (bvs (be32 (ts.getD i 0))).length = 32 := by rw [bvs_len]; exact hb32
      have hnx : (ts.take (i + 1)).map (fun n => bvs (be32 n)) = ((ts.take i).map fun n => bvs (be32 n)) ++ [bvs (be32 (ts.getD i 0))] := by
        rw [List.take_succ_eq_append_getElem (by omega), List.map_append, List.getD_eq_getElem?_getD, List.getElem?_eq_getElem (by omega)]; rfl
      have hvl0 : ((ts.take i).map fun n => bvs (be32 n)).length = i := by simp; omega
      generalize ts.getD i 0 = ai at *
      generalize (ts.take i).map (fun n => bvs (be32 n)) = vs3 at *
      repeat (first | (refine QuG.keep ?_; first | refine QuG.l1E cok 0 rfl rfl rfl rfl rfl (by first | exact Nat.le_of_ble_eq_true rfl | omega | (dsimp only; omega) | (simp only [addS_eq, mulS_eq]; omega)) (by assumption) ?_ | refine QuG.el1E cok (by assumption) (by first | assumption | exact ‹∀ G, Rd ⟨_, G⟩ _› _) (by assumption) rfl rfl rfl rfl (by omega) ?_) | refine SeqS.go cok ?_ | refine And.intro (by omega) ?_ | (refine NatS.keep ?_; first | with_reducible refine NatS.nat ?_) | refine W.drawI 30 cok [0, 1, 0, 4, 12, 31, 63, 127] [0, 1, 2, 3, 4, 5, 6, 7] [1] (by kernel_rfl) (by kernel_rfl) ?_ | (refine CondS.keep ?_; first | refine CondS.d1 rfl (by omega) ?_))
      refine (hwd _).mono ?_
      rintro r _ - ⟨rfl, rfl⟩
      repeat (first | refine And.intro ⟨⟨by assumption, Nat.le_of_ble_eq_true rfl⟩, trivial⟩ ?_ | refine And.intro (by dsimp only; omega) ?_ | (refine still_in ?_; first | (refine still_keep (by decide) rfl ?_ ?_; first | exact QuV.l1 cok 0 rfl rfl rfl rfl rfl (by first | exact Nat.le_of_ble_eq_true rfl | omega | (dsimp only; omega) | (simp only [addS_eq, mulS_eq]; omega)) (by assumption))))
      intro tb
      repeat (first | (refine still_in ?_; first | refine still_nil ?_ | (refine still_keep (by decide) rfl ?_ ?_; first | exact QuV.l1 cok 1 rfl rfl rfl rfl rfl (by first | exact Nat.le_of_ble_eq_true rfl | omega | (dsimp only; omega) | (simp only [addS_eq, mulS_eq]; omega)) (by assumption))))
      refine OpG.keep ?_
      refine OpG.app1 cok (L := _ :: _ :: _ :: (R ++ ML)) (M := Mt) (vss := vs3) (el := bvs (be32 ai)) rfl rfl rfl rfl rfl rfl rfl rfl rfl ?_ ?_ ?_ ?_ ?_ ?_
      · exact hT
      · exact Row.updN2 _ 0 _
      · exact hbl
      · exact hbo
      · omega
      intro w' M' hO'
      have hset := log_set (w := w') hAd.len h6
      have hw1 : one w' = true := by
        obtain ⟨wad, wcap, e⟩ := hO'.form
        rw [e]; rfl
      repeat (first | (refine OpG.keep ?_; refine OpG.s1E cok 0 20 rfl rfl rfl rfl rfl rfl (by decide) rfl hw1 ?_) | refine SeqS.go cok ?_ | (refine ValS.keep ?_; first | (with_reducible refine ValS.kI64 ?_; first | (with_reducible refine ValS.addI64_L ?_ ?_ ; omega))) | (refine still_in ?_; first | refine still_drop (by decide) ?_))
      exact ⟨i + 1, Rel.same ⟨w', M', _, rfl, hlt, hset, by rw [hnx]; exact hO', rfl, rfl, rfl, rfl, rfl, trivial⟩, by show n - (i + 1) < n - i; omega⟩
    · obtain rfl : i = n := by omega
      rw [List.take_of_length_le (by omega)] at hT
      repeat (first | refine SeqS.go cok ?_ | (refine CondS.keep ?_; first | refine CondS.d0 rfl (by omega) ?_))
      exact ⟨tv, Mt, c6, rfl, h6, hT, rfl, rfl, trivial⟩
theorem yEffL {I : Ent → Prop} {R ML : List Ent} {sb ssz fb fsz pc gas o : Nat} {Ts Tf : TypeId} {cs cf : Nat → Value} {K : YK} {w : YW} {s mem : List Nat} {M : List Ent} {av : Value} {as' : List Nat} (hsz : 179 ≤ ssz) (hfz : 60 ≤ fsz) (hC : CsI I cs cf K w pc gas s) (hM : MemO (cf 9) mem M) (hMG : ∀ x ∈ M, x ∈ R) (hL : LogO I (cs 4) w.lg ML) (hA : StkI I av as') (hlen : as'.length < 10) (h2 : 2 ≤ as'.length) (hb : ∀ x ∈ as', x < 2 ^ 256) (o1 : 160 ≤ o) (o2 : o ≤ 164) (hn : as'.getD 1 0 < 2 ^ 40) :
    CallG Hvaf.prog 163 #[ptr sb 0, ptr fb 0, .int .u8 (o : Nat), av] ⟨I, ⟨sb, ssz, Ts, cs⟩ :: ⟨fb, fsz, Tf, cf⟩ :: (R ++ ML)⟩ fun r S' => r = .bool true ∧ ∃ J lv ML', S' = ⟨J, ⟨sb, ssz, Ts, upd cs 4 lv⟩ :: ⟨fb, fsz, Tf, cf⟩ :: (R ++ ML')⟩ ∧ LogO J lv (w.lg ++ [(K.self, as'.drop 2, cutL mem (as'.getD 0 0) (as'.getD 1 0))]) ML' := by
  obtain rfl | rfl | rfl | rfl | rfl : o = 160 ∨ o = 161 ∨ o = 162 ∨ o = 163 ∨ o = 164 := by omega
  · exact yEffL160 hsz hfz hC hM hMG hL hA hlen h2 hb hn
  · exact yEffL161 hsz hfz hC hM hMG hL hA hlen h2 hb hn
  · exact yEffL162 hsz hfz hC hM hMG hL hA hlen h2 hb hn
  · exact yEffL163 hsz hfz hC hM hMG hL hA hlen h2 hb hn
  · exact yEffL164 hsz hfz hC hM hMG hL hA hlen h2 hb hn
end Go.Proofs.YgvafwGreat
