import Derived.Test.YgvafwGreatE64
import Derived.Test.YgvafwGreatE82
import Derived.Test.YgvafwGreatE37
set_option exponentiation.threshold 1000
set_option maxRecDepth 100000
set_option maxHeartbeats 4000000
set_option linter.unusedVariables false
set_option linter.unusedSimpArgs false
-- v2
-- v4
-- v5
-- v6
-- v7
namespace Go.Proofs.YgvafwGreat
open Go.HL Go.Proofs

/-- The cells of a frame that creates. -/
def fmC (gas dp sb sn : Nat) (cv : Value) (ds : List Nat) : List Value := [.int .u8 5, .int .u8 (dp : Nat), .int .u8 0, .bool false, .int .u16 0, .int .u16 (sb : Nat), .int .u16 0, .int .u64 (gas : Nat), .int .i32 (sn : Nat)] ++ (bvs crAd ++ (bvs (adNo 1) ++ (wcs 0 ++ ([cv, .slice none 0 0] ++ (ivs .u64 ds ++ [.int .u32 0, .int .u32 0])))))
theorem crAd_ok : AdOk crAd := ⟨rfl, by decide⟩
/-- What Enter of a child leaves. -/
structure EntC (I : Ent → Prop) (c c' : Nat → Value) (gas m : Nat) (cv : Value) : Prop where
  fr : ∃ ds : List Nat, Row c' 1868 (fmC gas 1 64 1 cv ds) ∧ ds.length = 8
  tp : c' 2258 = .int .i8 1
  ph : c' 2404 = .int .u8 1
  rt : c' 2259 = .slice none 0 0
  a4 : c' 4 = .int .u32 (m : Nat)
  a10 : c' 10 = .int .u8 2
  ot : ∀ k, (k < 2435 ∨ 27018 < k) → k ≠ 4 → k ≠ 10 → (k < 1868 ∨ 1933 ≤ k) → k ≠ 2258 → k ≠ 2259 → k ≠ 2404 → c' k = c k
theorem frc_lo {k : Nat} (h : k < 1868) : k < addS 1803 (mulS 1 65) := by rw [addS_eq, mulS_eq]; omega
theorem frc_hi {k : Nat} (h : 1933 ≤ k) : addS 1803 (mulS 1 65) + 65 ≤ k := by rw [addS_eq, mulS_eq]; omega
theorem mCreates5 {S : St} : CallG Hvaf.prog 190 #[.int .u8 5] S fun r S' => S = S' ∧ r = .bool true := by
  refine CallG.start (C := mkC Hvaf.prog) cok (args := [.int .u8 5]) Hvaf.func190 rfl Hvaf.ntmps190 (by simp) (by kernel_rfl) ?_
  repeat (first | refine SeqS.go cok ?_ | refine GuardS.yes rfl ?_ | refine GuardS.no rfl ?_)
  exact Fin.same ⟨rfl, rfl⟩
theorem _root_.Go.HL.CallG.absP2 {P : Program} {f : FuncId} {args : Array Value} {I : Ent → Prop} {y : Ent} {b s : Nat} {T : TypeId} {c0 : Nat → Value} {G : List Ent} {K : Post} (Pr : (Nat → Value) → Prop) (h0 : Pr c0) (h : ∀ c', Pr c' → CallG P f args ⟨I, y :: ⟨b, s, T, c'⟩ :: G⟩ K) : CallG P f args ⟨I, y :: ⟨b, s, T, c0⟩ :: G⟩ K := h c0 h0
theorem setA_lens (V : Vl) (a : List Nat) (t : Nat → Int) (x : VA) (e : VE) : (V.setA a t x e).ac.length ≤ V.ac.length + 1 ∧ (V.setA a t x e).jr.length = V.jr.length + 1 := by
  constructor
  · show ((V.ent a t).ac.set _ _).length ≤ _
    rw [List.length_set]; unfold Vl.ent; split
    · exact Nat.le_succ _
    · show (V.ac ++ [_]).length ≤ _; rw [List.length_append]; exact Nat.le_refl _
  · show ((V.jr) ++ [_]).length = _
    rw [List.length_append]; rfl
/-- The vault behind a child's entrance. -/
def crV (V : Vl) (t t2 : Nat → Int) : Vl := ((V.setA crAd t { V.acc' crAd with nonce := 1 } ⟨1, V.ix crAd, (V.acc' crAd).nonce, 0, false⟩).setA crAd t2 { (V.setA crAd t { V.acc' crAd with nonce := 1 } ⟨1, V.ix crAd, (V.acc' crAd).nonce, 0, false⟩).acc' crAd with made := true } ⟨9, (V.setA crAd t { V.acc' crAd with nonce := 1 } ⟨1, V.ix crAd, (V.acc' crAd).nonce, 0, false⟩).ix crAd, 0, 0, ((V.setA crAd t { V.acc' crAd with nonce := 1 } ⟨1, V.ix crAd, (V.acc' crAd).nonce, 0, false⟩).acc' crAd).made⟩)
theorem EntC.out {I : Ent → Prop} {c c' c2 : Nat → Value} {gas m : Nat} {cv : Value} (h : EntC I c c' gas m cv) (ho : Out c' c2) : EntC I c c2 gas m cv := by
  obtain ⟨ds, hr, hd⟩ := h.fr
  have e : ∀ k, k < 2435 → c2 k = c' k := fun k hk => ho k (.inl hk)
  refine ⟨⟨ds, Row.congr hr fun k h1 h2 => e k ?_, hd⟩, (e _ (by decide)).trans h.tp, (e _ (by decide)).trans h.ph, (e _ (by decide)).trans h.rt, (e _ (by decide)).trans h.a4, (e _ (by decide)).trans h.a10, fun k h1 h2 h3 h4 h5 h6 h7 => (ho k h1).trans (h.ot k h1 h2 h3 h4 h5 h6 h7)⟩
  have : (fmC gas 1 64 1 cv ds).length = 65 := by
    unfold fmC
    simp only [List.length_append, List.length_cons, List.length_nil, bvs_len', ivs_length, hd]; rfl
  omega
/-- mach.Machine.Enter of a child that creates -/
theorem mEnterC {I : Ent → Prop} {R G : List Ent} {cb sz gas cc m : Nat} {T : TypeId} {c : Nat → Value} {V : Vl} {ca : Option Addr} {code : List Nat} (hsz : 27019 ≤ sz) (hV : VI I c V G) (hO : VOk V) (h0 : V.nm = 1) (hroom : V.ac.length < 1980) (hj : V.jr.length < 59980) (hS : c 0 = ptr cb 2435) (hTop : c 2258 = .int .i8 0) (h10 : c 10 = .int .u8 ((1 : Nat) : Int)) (h3 : c 3 = .int .u32 (m : Nat)) (hcv : Byt ⟨I, []⟩ (.slice ca code.length cc) code) (hcl : code.length ≤ 512) :
    CallG Hvaf.prog 115 #[ptr cb 0, .agg (fmC gas 0 0 0 (.slice ca code.length cc) (List.replicate 8 0)).toArray] ⟨I, ⟨cb, sz, T, c⟩ :: (R ++ G)⟩ fun r S' => r = .bool true ∧ ∃ c' G' V', S' = ⟨I, ⟨cb, sz, T, c'⟩ :: (R ++ G')⟩ ∧ EntC I c c' gas m (.slice ca code.length cc) ∧ VI I c' V' G' ∧ VOk V' ∧ ∃ t t2, V' = crV { V with nm := 2 } t t2 := by
  have hsc := fun (G : List Ent) => mScan8 (I := I) (G := G) (hcv.mono (Sub.refl I) (by simp)) hcl
  have hsn := vSnap1 (R := R) (cb := cb) (T := T) hsz hV hO h0
  have hpn := fun c1 (hV1 : VI I c1 { V with nm := 2 } G) (hO1 : VOk { V with nm := 2 }) => vPutNonce (R := R) (cb := cb) (T := T) (v := 1) hsz hV1 hO1 crAd_ok (by show V.ac.length < 1990; omega) (by show V.jr.length < 59990; omega) (by decide)
  unfold SetAP at hpn
  refine CallG.start (C := mkC Hvaf.prog) cok (args := [ptr cb 0, .agg (fmC gas 0 0 0 (.slice ca code.length cc) (List.replicate 8 0)).toArray]) Hvaf.func115 rfl Hvaf.ntmps115 (by simp) (by kernel_rfl) ?_
  intro b3
  repeat (first | (refine QuG.keep ?_; first | refine QuG.l1E cok 1 rfl rfl rfl rfl rfl (by first | exact Nat.le_of_ble_eq_true rfl | omega | (dsimp only; omega) | (simp only [addS_eq, mulS_eq]; omega)) (by assumption) ?_) | refine SeqS.go cok ?_ | refine GuardS.yes rfl ?_ | refine CondS.f rfl ?_ | (refine ValS.keep ?_; first | (with_reducible refine ValS.kI64 ?_; first | (with_reducible refine ValS.addI64_L ?_ ?_ ; omega) | (with_reducible refine ValS.mulI64_L ?_ ?_ ; omega) | (with_reducible refine ValS.convI64_LL ?_ ?_ ; omega)) | (with_reducible refine ValS.kU8 ?_; first | (with_reducible refine ValS.convU8 ?_ ?_ ; omega)) | (with_reducible refine ValS.kU16 ?_; first | (with_reducible refine ValS.convU16 ?_ ?_ ; omega))) | (refine QuG.keep ?_; first | refine QuG.l1 cok 0 rfl rfl rfl rfl rfl (by first | exact Nat.le_of_ble_eq_true rfl | omega | (dsimp only; omega) | (simp only [addS_eq, mulS_eq]; omega)) ?_) | (refine OpG.keep ?_; first | refine OpG.s1 cok 0 rfl rfl rfl rfl rfl (by first | exact Nat.le_of_ble_eq_true rfl | omega | (dsimp only; omega) | (simp only [addS_eq, mulS_eq]; omega)) rfl rfl ?_))
  refine (hsc _).mono ?_
  rintro r _ - ⟨rfl, d0, d1, d2, d3, d4, d5, d6, d7, rfl, hds⟩
  repeat (first | (refine QuG.keep ?_; first | refine QuG.l1E cok 1 rfl rfl rfl rfl rfl (by first | exact Nat.le_of_ble_eq_true rfl | omega | (dsimp only; omega) | (simp only [addS_eq, mulS_eq]; omega)) (by assumption) ?_) | refine SeqS.go cok ?_ | (refine OpG.keep ?_; first | refine OpG.sL cok 0 rfl rfl rfl rfl rfl rfl rfl (by first | exact Nat.le_of_ble_eq_true rfl | omega | (dsimp only; omega) | (simp only [addS_eq, mulS_eq]; omega)) ?_))
  refine CallG.behind [_] hsn ?_
  rintro r J1 _ hs1 ⟨rfl, c1, e1, hV1, hVO1, hO1⟩
  cases e1
  have k0 := (hO1 0 (.inl (by decide))).trans hS
  have k3 := (hO1 3 (.inl (by decide))).trans h3
  have k10 := (hO1 10 (.inl (by decide))).trans h10
  repeat (first | refine SeqS.go cok ?_ | refine GuardS.yes rfl ?_ | (refine QuG.keep ?_; first | refine QuG.l1 cok 0 rfl rfl rfl rfl rfl (by first | exact Nat.le_of_ble_eq_true rfl | omega | (dsimp only; omega) | (simp only [addS_eq, mulS_eq]; omega)) ?_) | (refine OpG.keep ?_; first | refine OpG.s1 cok 0 rfl rfl rfl rfl rfl (by first | exact Nat.le_of_ble_eq_true rfl | omega | (dsimp only; omega) | (simp only [addS_eq, mulS_eq]; omega)) rfl rfl ?_))
  refine CallG.behind [_] (mArEnter1 (by omega) k10 k3) ?_
  rintro r J2 _ hs2 ⟨rfl, e2⟩
  cases e2
  repeat (first | refine SeqS.go cok ?_ | refine And.intro (by dsimp only; omega) ?_ | (refine NatS.keep ?_; first | with_reducible refine NatS.nat ?_) | (refine QuG.keep ?_; first | refine QuG.lN cok 0 rfl rfl rfl rfl rfl (by first | exact Nat.le_of_ble_eq_true rfl | omega | (dsimp only; omega) | (simp only [addS_eq, mulS_eq]; omega)) ?_) | (refine still_in ?_; first | refine still_drop (by decide) ?_) | (refine OpG.keep ?_; first | refine OpG.sL cok 1 rfl rfl rfl rfl rfl rfl rfl (by first | exact Nat.le_of_ble_eq_true rfl | omega | (dsimp only; omega) | (simp only [addS_eq, mulS_eq]; omega)) ?_) | refine W.drawI 10 cok [0, 0, 0, 1, 9, 31, 63] [0, 1, 2, 3, 4, 5, 6] [2] (by kernel_rfl) (by kernel_rfl) ?_)
  refine ValS.to (u := .int .i8 1) (congrArg (Value.int .i8) (by decide)) ?_
  repeat (first | refine SeqS.go cok ?_ | refine GuardS.yes rfl ?_ | (refine QuG.keep ?_; first | refine QuG.l1 cok 0 rfl rfl rfl rfl rfl (by first | exact Nat.le_of_ble_eq_true rfl | omega | (dsimp only; omega) | (simp only [addS_eq, mulS_eq]; omega)) ?_) | (refine OpG.keep ?_; first | refine OpG.s1 cok 1 rfl rfl rfl rfl rfl (by first | exact Nat.le_of_ble_eq_true rfl | omega | (dsimp only; omega) | (simp only [addS_eq, mulS_eq]; omega)) rfl rfl ?_))
  refine CallG.absP2 (Pr := fun c' => EntC I c c' gas m (.slice ca code.length cc) ∧ VI I c' { V with nm := 2 } G ∧ c' 0 = ptr cb 2435) ⟨⟨⟨[d0, d1, d2, d3, d4, d5, d6, d7], Row.ofCellsO (n := 65) rfl, rfl⟩, rfl, rfl, rfl, rfl, rfl, ?_⟩, ?_, ?_⟩ ?_
  · exact fun k h1 h2 h3 h4 h5 h6 h7 => ((updNe (by omega)).trans ((updNe (by omega)).trans ((updNe (by omega)).trans ((updN_o (h4.imp frc_lo frc_hi)).trans ((updNe (by omega)).trans (updNe (by omega))))))).trans (hO1 k h1)
  · exact VI.congr hV1 fun k h1 h2 => (updNe (by omega)).trans ((updNe (by omega)).trans ((updNe (by omega)).trans ((updN_o (.inr (frc_hi (by omega)))).trans ((updNe (by omega)).trans (updNe (by omega))))))
  · exact ((updNe (by decide)).trans ((updNe (by decide)).trans ((updNe (by decide)).trans ((updN_o (.inl (frc_lo (by decide)))).trans ((updNe (by decide)).trans (updNe (by decide))))))).trans k0
  intro c2 hc2
  have k02 := hc2.2.2
  refine mCreates5.mono ?_
  rintro r _ - ⟨rfl, rfl⟩
  repeat (first | (refine QuG.keep ?_; first | refine QuG.l1E cok 1 rfl rfl rfl rfl rfl (by first | exact Nat.le_of_ble_eq_true rfl | omega | (dsimp only; omega) | (simp only [addS_eq, mulS_eq]; omega)) (by assumption) ?_) | refine SeqS.go cok ?_ | refine CondS.t rfl ?_ | (refine QuG.keep ?_; first | refine QuG.lN cok 0 rfl rfl rfl rfl rfl (by first | exact Nat.le_of_ble_eq_true rfl | omega | (dsimp only; omega) | (simp only [addS_eq, mulS_eq]; omega)) ?_) | refine W.drawI 15 cok [0, 1, 3, 7, 0, 16, 63, 127, 255, 511, 1023, 2047, 255, 4351, 16383, 32767, 65535] [0, 1, 2, 3, 4, 5, 6, 7, 8, 9, 10, 11, 12, 13, 14, 15, 16] [3, 5, 11, 13] (by kernel_rfl) (by kernel_rfl) ?_)
  refine CallG.behind [_] (hpn c2 hc2.2.1 hVO1) ?_
  rintro r J3 _ hs3 ⟨rfl, c3, G3, t3, e3, hV3, hO3, hQ3⟩
  cases e3
  have k03 := (hQ3 0 (.inl (by decide))).trans k02
  have hl3 := setA_lens { V with nm := 2 } crAd t3 { ({ V with nm := 2 } : Vl).acc' crAd with nonce := 1 } ⟨1, ({ V with nm := 2 } : Vl).ix crAd, (({ V with nm := 2 } : Vl).acc' crAd).nonce, 0, false⟩
  have hmm := vMarkMade (R := R) (cb := cb) (T := T) hsz hV3 hO3 crAd_ok (Nat.lt_of_le_of_lt hl3.1 (by show V.ac.length + 1 < 1990; omega)) (by rw [hl3.2]; show V.jr.length + 1 < 59990; omega)
  unfold SetAP at hmm
  repeat (first | (refine QuG.keep ?_; first | refine QuG.l1E cok 1 rfl rfl rfl rfl rfl (by first | exact Nat.le_of_ble_eq_true rfl | omega | (dsimp only; omega) | (simp only [addS_eq, mulS_eq]; omega)) (by assumption) ?_) | refine GuardS.yes rfl ?_ | (refine QuG.keep ?_; first | refine QuG.lN cok 0 rfl rfl rfl rfl rfl (by first | exact Nat.le_of_ble_eq_true rfl | omega | (dsimp only; omega) | (simp only [addS_eq, mulS_eq]; omega)) ?_) | (refine still_in ?_; first | refine still_drop (by decide) ?_))
  refine CallG.behind [_] hmm ?_
  rintro r J4 _ hs4 ⟨rfl, c4, G4, t4, e4, hV4, hO4, hQ4⟩
  cases e4
  repeat (first | refine SeqS.go cok ?_ | refine GuardS.yes rfl ?_ | refine CondS.t rfl ?_ | (refine QuG.keep ?_; first | refine QuG.l1 cok 0 rfl rfl rfl rfl rfl (by first | exact Nat.le_of_ble_eq_true rfl | omega | (dsimp only; omega) | (simp only [addS_eq, mulS_eq]; omega)) ?_ | refine QuG.lN cok 0 rfl rfl rfl rfl rfl (by first | exact Nat.le_of_ble_eq_true rfl | omega | (dsimp only; omega) | (simp only [addS_eq, mulS_eq]; omega)) ?_) | (refine still_in ?_; first | refine still_drop (by decide) ?_))
  refine (mMove0 (a := adNo 1) (b := crAd) rfl rfl).mono ?_
  rintro r _ - ⟨rfl, rfl⟩
  repeat (first | refine SeqS.go cok ?_ | refine CondS.f rfl ?_)
  exact Fin.drop (⟨cb, sz, T, c4⟩ :: (R ++ G4)) [_] ⟨rfl, c4, G4, _, rfl, (hc2.1.out hQ3).out hQ4, hV4, hO4, t3, t4, rfl⟩
end Go.Proofs.YgvafwGreat
