import Derived.Test.YgvafwGreatN1
import Derived.Test.YgvafwGreatY66
import Derived.Test.YgvafwGreatY63z
import Derived.Test.YgvafwGreatY63
import Derived.Test.YgvafwGreatY62
import Derived.Test.YgvafwGreatY61
import Derived.Test.YgvafwGreatY60
import Derived.Test.YgvafwGreatY59
import Derived.Test.YgvafwGreatY58
import Derived.Test.YgvafwGreatY57
import Derived.Test.YgvafwGreatY56
import Derived.Test.YgvafwGreatY55
import Derived.Test.YgvafwGreatY54
import Derived.Test.YgvafwGreatY64
import Derived.Test.YgvafwGreatY65
import Derived.Test.YgvafwGreatY49
import Derived.Test.YgvafwGreatY48
import Derived.Test.YgvafwGreatY46
import Derived.Test.YgvafwGreatY44a
import Derived.Test.YgvafwGreatY44b
import Derived.Test.YgvafwGreatY44c
import Derived.Test.YgvafwGreatY44d
import Derived.Test.YgvafwGreatK17
set_option exponentiation.threshold 1000
set_option maxRecDepth 100000
set_option maxHeartbeats 4000000
set_option linter.unusedVariables false
set_option linter.unusedSimpArgs false
-- v2
-- v4
-- v5
-- v6
-- v7
namespace Go.Proofs.YgvafwGreat
open Go.HL Go.Proofs

/-- The specification's state amid a transaction. -/
structure YI (I : Ent → Prop) (fb : Nat) (cs cf : Nat → Value) (K : YK) (σ : NS) (M ML : List Ent) : Prop where
  c : CsI I cs cf K σ.w σ.pc σ.gas σ.s
  e : EnvI I cs K
  m : MemO (cf 9) σ.mem M
  l : LogO I (cs 4) σ.w.lg ML
  fr : ∃ fc, cs 9 = sl fb 0 1 fc
  o1 : ∀ k, k < 60 → one (cf k) = true
theorem YWI.congr {I : Ent → Prop} {c c' : Nat → Value} {w : YW} (h : YWI I c w) (e : ∀ k, k < 8 → c' k = c k) : YWI I c' w :=
  ⟨(e 0 (by decide)).symm ▸ h.acc, (e 1 (by decide)).symm ▸ h.wrm, h.wok, (e 2 (by decide)).symm ▸ h.mks, (e 3 (by decide)).symm ▸ h.rfd, (e 5 (by decide)).symm ▸ h.tmp, (e 6 (by decide)).symm ▸ h.mde, h.mok, (e 7 (by decide)).trans h.gne⟩
theorem Row.keep {c c' : Nat → Value} {o : Nat} {vs : List Value} (h : Row c o vs) (e : ∀ k, o ≤ k → c' k = c k) : Row c' o vs :=
  ⟨fun i hi => (e _ (Nat.le_add_right _ _)).trans (h.get i hi)⟩
theorem EnvI.keep {I J : Ent → Prop} {cs cs' : Nat → Value} {K : YK} (h0 : EnvI I cs K) (hs : Sub I J) (e : ∀ k, 6 ≤ k → cs' k = cs k) : EnvI J cs' K := by
  have h := h0.up hs
  exact ⟨(e _ (by decide)).trans h.ret, (e _ (by decide)).trans h.ph, (e 17 (by decide)).symm ▸ h.price, Row.keep h.orig fun k hk => e k (by omega), Row.keep h.coin fun k hk => e k (by omega), (e _ (by decide)).trans h.num, (e _ (by decide)).trans h.time, (e _ (by decide)).trans h.glim, Row.keep h.rand fun k hk => e k (by omega), Row.keep h.chain fun k hk => e k (by omega), Row.keep h.base fun k hk => e k (by omega), (e _ (by decide)).trans h.hashes⟩
theorem YF.next {I J : Ent → Prop} {cf : Nat → Value} {K : YK} {pc gas pc' : Nat} {s s' : List Nat} {pv sv : Value} (h0 : YF I cf K pc gas s) (hs : Sub I J) (hp : NatI J pv pc') (hk : StkI J sv s') (b : ∀ x ∈ s', x < 2 ^ 256) (l : s'.length ≤ 64) : YF J (upd (upd cf 8 sv) 3 pv) K pc' gas s' := by
  have h := h0.up hs
  have e : ∀ k, 9 ≤ k → upd (upd cf 8 sv) 3 pv k = cf k := fun k hk => by rw [upd_ne (by omega), upd_ne (by omega)]
  have e52 : (fun k => upd (upd cf 8 sv) 3 pv (52 + k)) = fun k => cf (52 + k) := funext fun k => e _ (by omega)
  exact ⟨h.fk, h.fn, h.fs, hp, h.fgas, h.fval, hk, b, l, h.fcode, h.finp, Row.keep h.fself fun k hk => e k (by omega), Row.keep h.fcall fun k hk => e k (by omega), e52.symm ▸ h.fsave, h.fsl⟩
theorem YB.ofN {K : YK} {σ : NS} (h : NOk K σ) : YB σ.w K.self := by
  have := h.sz
  unfold szW at this
  exact ⟨by omega, by omega, by omega, by omega, by omega, by omega⟩
/-- What the world's cells are behind an instruction. -/
structure WPc (cs : Nat → Value) (w' : YW) (J : Ent → Prop) (c : Nat → Value) : Prop where
  w : YWI J c w'
  k : ∀ k, 6 ≤ k → c k = cs k
theorem WPc.up {cs : Nat → Value} {w' : YW} {J J' : Ent → Prop} {c : Nat → Value} (h : WPc cs w' J c) (hs : Sub J J') : WPc cs w' J' c := ⟨h.w.up hs, h.k⟩
theorem YI.next {I J : Ent → Prop} {fb : Nat} {cs cs' cf : Nat → Value} {K : YK} {σ σ' : NS} {M ML M' ML' : List Ent} {pv sv : Value} (h : YI I fb cs cf K σ M ML) (hs : Sub I J) (hw : WPc cs σ'.w J cs') (hl : LogO J (cs' 4) σ'.w.lg ML') (hm : MemO (cf 9) σ'.mem M') (hg : σ'.gas = σ.gas) (hp : NatI J pv σ'.pc) (hp1 : one pv = true) (hk : StkI J sv σ'.s) (hk1 : one sv = true) (hN : NOk K σ') :
    YI J fb cs' (upd (upd cf 8 sv) 3 pv) K σ' M' ML' := by
  refine ⟨⟨hw.w, by rw [hg]; exact h.c.F.next hs hp hk hN.sb hN.sl, (hw.k 8 (by decide)).symm ▸ h.c.S.up hs, YB.ofN hN, h.c.KB⟩, h.e.keep hs hw.k, hm, hl, h.fr.imp fun _ h => (hw.k 9 (by decide)).trans h, fun k hk => ?_⟩
  unfold upd
  split
  · exact hp1
  · split
    · exact hk1
    · exact h.o1 k hk
/-- What a plain instruction leaves. -/
def PlY (sb ssz fb fsz : Nat) (Ts Tf : TypeId) (cs : Nat → Value) (K : YK) (σ' : NS) (S' : St) : Prop :=
  ∃ J cs' cf' M' ML', S' = ⟨J, ⟨sb, ssz, Ts, cs'⟩ :: ⟨fb, fsz, Tf, cf'⟩ :: (M' ++ ML')⟩ ∧ YI J fb cs' cf' K σ' M' ML' ∧ ∀ k, 6 ≤ k → cs' k = cs k
theorem stkN_v {kec : List Nat → List Nat} {K : YK} {pc gas o t : Nat} {mem : List Nat} {w : YW} {s : List Nat} (n : o < 128) (ht : (arN o).1 = t) (hg : (arN o).2.1 = 1) : stkN kec K pc gas mem w s o = s.take (s.length - t) ++ [valN kec K pc gas mem w s o] := by
  unfold stkN
  rw [if_neg (by omega), if_neg (by omega), if_pos hg, ht]
theorem stkN_e {kec : List Nat → List Nat} {K : YK} {pc gas o t : Nat} {mem : List Nat} {w : YW} {s : List Nat} (n : o < 128 ∨ 159 < o) (ht : (arN o).1 = t) (hg : (arN o).2.1 = 0) : stkN kec K pc gas mem w s o = s.take (s.length - t) := by
  unfold stkN
  rw [if_neg (by omega), if_neg (by omega), if_neg (by omega), ht]
theorem StkI.isl {I : Ent → Prop} {v : Value} {s : List Nat} (h : StkI I v s) : one v = true := by
  obtain ⟨vss, hR, _⟩ := h.out
  obtain ⟨ad, cap, e⟩ := hR.form
  rw [e]; rfl
section
variable {I : Ent → Prop} {sb ssz fb fsz o t : Nat} {Ts Tf : TypeId} {cs cf : Nat → Value} {K : YK} {σ : NS} {M ML : List Ent}
/-- plain, where a word is given -/
theorem plV (h : YI I fb cs cf K σ M ML) (hfz : 60 ≤ fsz) (hN' : NOk K (plainN kecN K σ o)) (hpc : σ.pc < 2 ^ 20) (ho : o < 256) (ht : (arN o).1 = t) (hg : (arN o).2.1 = 1) (hts : t ≤ σ.s.length) (n1 : o ≠ 86) (n2 : o ≠ 87) (n3 : o < 128)
    (hmm : memN K σ.mem σ.w σ.s o = σ.mem) (hlg : (wrlN K σ.mem σ.w σ.s o).lg = σ.w.lg)
    (hval : ∀ J av, Sub I J → StkI J av (argsN σ.s t) → CallG Hvaf.prog 162 #[ptr sb 0, ptr fb 0, .int .u8 (o : Nat), av] ⟨J, ⟨sb, ssz, Ts, cs⟩ :: ⟨fb, fsz, Tf, cf⟩ :: (M ++ ML)⟩ fun r S' => ∃ J2 cs', S' = ⟨J2, ⟨sb, ssz, Ts, cs'⟩ :: ⟨fb, fsz, Tf, cf⟩ :: (M ++ ML)⟩ ∧ NatI J2 r (valN kecN K σ.pc σ.gas σ.mem σ.w σ.s o) ∧ (WPc cs (wrlN K σ.mem σ.w σ.s o) J2 cs' ∧ cs' 4 = cs 4)) :
    CallG Hvaf.prog 77 #[ptr sb 0, ptr fb 0, .int .u8 (o : Nat)] ⟨I, ⟨sb, ssz, Ts, cs⟩ :: ⟨fb, fsz, Tf, cf⟩ :: (M ++ ML)⟩ fun _ S' => PlY sb ssz fb fsz Ts Tf cs K (plainN kecN K σ o) S' := by
  refine (yPlainV (WP := fun J c => WPc cs (wrlN K σ.mem σ.w σ.s o) J c ∧ c 4 = cs 4) hfz h.c.F ho ht hg hts n1 n2 n3 (Nat.lt_trans hpc (by decide)) hval (fun J J' c hs hw => ⟨hw.1.up hs, hw.2⟩)).mono ?_
  rintro r _ hs ⟨J, cs', pv, sv, rfl, ⟨hw, h4⟩, hp, hk⟩
  have hs : Sub I J := hs
  have hnx : nextN K σ.pc σ.s o = σ.pc + (1 + immN o) := by unfold nextN; rw [if_neg (by omega)]
  refine ⟨J, cs', _, M, ML, rfl, h.next (σ' := plainN kecN K σ o) hs hw ?_ ?_ rfl ?_ (NatI.isl hp) ?_ (StkI.isl hk) hN', hw.k⟩
  · show LogO J (cs' 4) (wrlN K σ.mem σ.w σ.s o).lg ML
    rw [h4, hlg]; exact h.l.up hs
  · show MemO (cf 9) (memN K σ.mem σ.w σ.s o) M
    rw [hmm]; exact h.m
  · show NatI J pv (nextN K σ.pc σ.s o)
    rw [hnx]; exact hp
  · show StkI J sv (stkN kecN K σ.pc σ.gas σ.mem σ.w σ.s o)
    rw [stkN_v n3 ht hg]; exact hk
/-- plain, where nothing is given -/
theorem plE (h : YI I fb cs cf K σ M ML) (hfz : 60 ≤ fsz) (hN' : NOk K (plainN kecN K σ o)) (hpc : σ.pc < 2 ^ 20) (ho : o < 256) (ht : (arN o).1 = t) (hg : (arN o).2.1 = 0) (hts : t ≤ σ.s.length) (n1 : o ≠ 86) (n2 : o ≠ 87) (n3 : o < 128 ∨ 159 < o)
    (heff : ∀ J av, Sub I J → StkI J av (argsN σ.s t) → CallG Hvaf.prog 163 #[ptr sb 0, ptr fb 0, .int .u8 (o : Nat), av] ⟨J, ⟨sb, ssz, Ts, cs⟩ :: ⟨fb, fsz, Tf, cf⟩ :: (M ++ ML)⟩ fun r S' => r = .bool true ∧ ∃ J2 cs' G', S' = ⟨J2, ⟨sb, ssz, Ts, cs'⟩ :: ⟨fb, fsz, Tf, cf⟩ :: G'⟩ ∧ WPc cs (wrlN K σ.mem σ.w σ.s o) J2 cs' ∧ ∃ M' ML', G' = M' ++ ML' ∧ LogO J2 (cs' 4) (wrlN K σ.mem σ.w σ.s o).lg ML' ∧ MemO (cf 9) (memN K σ.mem σ.w σ.s o) M') :
    CallG Hvaf.prog 77 #[ptr sb 0, ptr fb 0, .int .u8 (o : Nat)] ⟨I, ⟨sb, ssz, Ts, cs⟩ :: ⟨fb, fsz, Tf, cf⟩ :: (M ++ ML)⟩ fun _ S' => PlY sb ssz fb fsz Ts Tf cs K (plainN kecN K σ o) S' := by
  have hx : CallG Hvaf.prog 77 #[ptr sb 0, ptr fb 0, .int .u8 (o : Nat)] ⟨I, ⟨sb, ssz, Ts, cs⟩ :: ⟨fb, fsz, Tf, cf⟩ :: (M ++ ML)⟩ fun r S' => ∃ J cs' G' pv sv, S' = ⟨J, ⟨sb, ssz, Ts, cs'⟩ :: ⟨fb, fsz, Tf, upd (upd cf 8 sv) 3 pv⟩ :: G'⟩ ∧ (WPc cs (wrlN K σ.mem σ.w σ.s o) J cs' ∧ ∃ M' ML', G' = M' ++ ML' ∧ LogO J (cs' 4) (wrlN K σ.mem σ.w σ.s o).lg ML' ∧ MemO (cf 9) (memN K σ.mem σ.w σ.s o) M') ∧ NatI J pv (σ.pc + (1 + immN o)) ∧ StkI J sv (σ.s.take (σ.s.length - t)) := by
    rcases n3 with n3 | n3
    · exact yPlainE (WP := fun J2 cs' G' => WPc cs (wrlN K σ.mem σ.w σ.s o) J2 cs' ∧ ∃ M' ML', G' = M' ++ ML' ∧ LogO J2 (cs' 4) (wrlN K σ.mem σ.w σ.s o).lg ML' ∧ MemO (cf 9) (memN K σ.mem σ.w σ.s o) M') hfz h.c.F ho ht hg hts n1 n2 n3 (Nat.lt_trans hpc (by decide)) heff
    · exact yPlainL (WP := fun J2 cs' G' => WPc cs (wrlN K σ.mem σ.w σ.s o) J2 cs' ∧ ∃ M' ML', G' = M' ++ ML' ∧ LogO J2 (cs' 4) (wrlN K σ.mem σ.w σ.s o).lg ML' ∧ MemO (cf 9) (memN K σ.mem σ.w σ.s o) M') hfz h.c.F ho ht hg hts n1 n2 n3 (Nat.lt_trans hpc (by decide)) heff
  refine hx.mono ?_
  rintro r _ hs ⟨J, cs', G', pv, sv, rfl, ⟨hw, M', ML', rfl, hl, hm⟩, hp, hk⟩
  have hs : Sub I J := hs
  have hnx : nextN K σ.pc σ.s o = σ.pc + (1 + immN o) := by unfold nextN; rw [if_neg (by omega)]
  refine ⟨J, cs', _, M', ML', rfl, h.next (σ' := plainN kecN K σ o) hs hw hl hm rfl ?_ (NatI.isl hp) ?_ (StkI.isl hk) hN', hw.k⟩
  · show NatI J pv (nextN K σ.pc σ.s o)
    rw [hnx]; exact hp
  · show StkI J sv (stkN kecN K σ.pc σ.gas σ.mem σ.w σ.s o)
    rw [stkN_e n3 ht hg]; exact hk
/-- plain, where only the stack and the place change -/
theorem plJ (h : YI I fb cs cf K σ M ML) (hN' : NOk K (plainN kecN K σ o)) {p' : Nat} {s' : List Nat} (hw : wrlN K σ.mem σ.w σ.s o = σ.w) (hm : memN K σ.mem σ.w σ.s o = σ.mem) (hnx : nextN K σ.pc σ.s o = p') (hst : stkN kecN K σ.pc σ.gas σ.mem σ.w σ.s o = s')
    (hx : CallG Hvaf.prog 77 #[ptr sb 0, ptr fb 0, .int .u8 (o : Nat)] ⟨I, ⟨sb, ssz, Ts, cs⟩ :: ⟨fb, fsz, Tf, cf⟩ :: (M ++ ML)⟩ fun r S' => ∃ J pv sv, S' = ⟨J, ⟨sb, ssz, Ts, cs⟩ :: ⟨fb, fsz, Tf, upd (upd cf 8 sv) 3 pv⟩ :: (M ++ ML)⟩ ∧ NatI J pv p' ∧ StkI J sv s') :
    CallG Hvaf.prog 77 #[ptr sb 0, ptr fb 0, .int .u8 (o : Nat)] ⟨I, ⟨sb, ssz, Ts, cs⟩ :: ⟨fb, fsz, Tf, cf⟩ :: (M ++ ML)⟩ fun _ S' => PlY sb ssz fb fsz Ts Tf cs K (plainN kecN K σ o) S' := by
  refine hx.mono ?_
  rintro r _ hs ⟨J, pv, sv, rfl, hp, hk⟩
  have hs : Sub I J := hs
  refine ⟨J, cs, _, M, ML, rfl, h.next (σ' := plainN kecN K σ o) hs ⟨?_, fun _ _ => rfl⟩ ?_ ?_ rfl ?_ (NatI.isl hp) ?_ (StkI.isl hk) hN', fun _ _ => rfl⟩
  · show YWI J cs (wrlN K σ.mem σ.w σ.s o)
    rw [hw]; exact h.c.W.up hs
  · show LogO J (cs 4) (wrlN K σ.mem σ.w σ.s o).lg ML
    rw [hw]; exact h.l.up hs
  · show MemO (cf 9) (memN K σ.mem σ.w σ.s o) M
    rw [hm]; exact h.m
  · show NatI J pv (nextN K σ.pc σ.s o)
    rw [hnx]; exact hp
  · show StkI J sv (stkN kecN K σ.pc σ.gas σ.mem σ.w σ.s o)
    rw [hst]; exact hk
/-- a value that changes nothing -/
theorem valS {J : Ent → Prop} {f : FuncId} {args : Array Value} {G : List Ent} {v : Nat} {w' : YW} (hW : YWI J cs w') (h : CallG Hvaf.prog f args ⟨J, ⟨sb, ssz, Ts, cs⟩ :: ⟨fb, fsz, Tf, cf⟩ :: G⟩ fun r S' => S'.G = ⟨sb, ssz, Ts, cs⟩ :: ⟨fb, fsz, Tf, cf⟩ :: G ∧ NatI S'.I r v) :
    CallG Hvaf.prog f args ⟨J, ⟨sb, ssz, Ts, cs⟩ :: ⟨fb, fsz, Tf, cf⟩ :: G⟩ fun r S' => ∃ J2 cs', S' = ⟨J2, ⟨sb, ssz, Ts, cs'⟩ :: ⟨fb, fsz, Tf, cf⟩ :: G⟩ ∧ NatI J2 r v ∧ (WPc cs w' J2 cs' ∧ cs' 4 = cs 4) := by
  refine h.mono ?_
  rintro r ⟨J2, _⟩ hs ⟨rfl, hn⟩
  exact ⟨J2, cs, rfl, hn, ⟨hW.up hs, fun _ _ => rfl⟩, rfl⟩
theorem withA_ok {a : List Nat} {l : List (List Nat)} (h : ∀ x ∈ l, AdOk x) (ha : AdOk a) : ∀ x ∈ withA a l, AdOk x := by
  intro x hx
  rcases mem_withA.1 hx with rfl | hx
  · exact ha
  · exact h x hx
/-- a value that warms an account -/
theorem valW {J : Ent → Prop} {f : FuncId} {args : Array Value} {G : List Ent} {v : Nat} {w : YW} {a : List Nat} (hW : YWI J cs w) (ha : AdOk a) (h : CallG Hvaf.prog f args ⟨J, ⟨sb, ssz, Ts, cs⟩ :: ⟨fb, fsz, Tf, cf⟩ :: G⟩ fun r S' => ∃ J w1, S' = ⟨J, ⟨sb, ssz, Ts, upd cs 1 w1⟩ :: ⟨fb, fsz, Tf, cf⟩ :: G⟩ ∧ RowI J 20 w1 ((withA a w.wa).map bvs) ∧ NatI J r v) :
    CallG Hvaf.prog f args ⟨J, ⟨sb, ssz, Ts, cs⟩ :: ⟨fb, fsz, Tf, cf⟩ :: G⟩ fun r S' => ∃ J2 cs', S' = ⟨J2, ⟨sb, ssz, Ts, cs'⟩ :: ⟨fb, fsz, Tf, cf⟩ :: G⟩ ∧ NatI J2 r v ∧ (WPc cs { w with wa := withA a w.wa } J2 cs' ∧ cs' 4 = cs 4) := by
  refine h.mono ?_
  rintro r _ hs ⟨J2, w1, rfl, hr, hn⟩
  have hW2 := hW.up (show Sub J J2 from hs)
  exact ⟨J2, _, rfl, hn, ⟨⟨hW2.acc, hr, withA_ok hW2.wok ha, hW2.mks, hW2.rfd, hW2.tmp, hW2.mde, hW2.mok, hW2.gne⟩, fun k hk => upd_ne (by omega)⟩, rfl⟩
/-- an effect that changes nothing -/
theorem effS {J : Ent → Prop} {f : FuncId} {args : Array Value} {w' : YW} {lg : List LG} {mem' : List Nat} (hW : YWI J cs w') (hl : LogO J (cs 4) lg ML) (hm : MemO (cf 9) mem' M) (h : CallG Hvaf.prog f args ⟨J, ⟨sb, ssz, Ts, cs⟩ :: ⟨fb, fsz, Tf, cf⟩ :: (M ++ ML)⟩ fun r S' => r = .bool true ∧ ∃ J2, S' = ⟨J2, ⟨sb, ssz, Ts, cs⟩ :: ⟨fb, fsz, Tf, cf⟩ :: (M ++ ML)⟩) :
    CallG Hvaf.prog f args ⟨J, ⟨sb, ssz, Ts, cs⟩ :: ⟨fb, fsz, Tf, cf⟩ :: (M ++ ML)⟩ fun r S' => r = .bool true ∧ ∃ J2 cs' G', S' = ⟨J2, ⟨sb, ssz, Ts, cs'⟩ :: ⟨fb, fsz, Tf, cf⟩ :: G'⟩ ∧ WPc cs w' J2 cs' ∧ ∃ M' ML', G' = M' ++ ML' ∧ LogO J2 (cs' 4) lg ML' ∧ MemO (cf 9) mem' M' := by
  refine h.mono ?_
  rintro r _ hs ⟨rfl, J2, rfl⟩
  have hs : Sub J J2 := hs
  exact ⟨rfl, J2, cs, _, rfl, ⟨hW.up hs, fun _ _ => rfl⟩, M, ML, rfl, hl.up hs, hm⟩
theorem effQ {J : Ent → Prop} {f : FuncId} {args : Array Value} {G : List Ent} (h : CallG Hvaf.prog f args ⟨J, G⟩ fun r S' => r = .bool true ∧ ⟨J, G⟩ = S') : CallG Hvaf.prog f args ⟨J, G⟩ fun r S' => r = .bool true ∧ ∃ J2, S' = ⟨J2, G⟩ := by
  refine h.mono ?_
  rintro r _ hs ⟨rfl, rfl⟩
  exact ⟨rfl, J, rfl⟩
/-- an effect on the memory -/
theorem effM {J : Ent → Prop} {f : FuncId} {args : Array Value} {mb n : Nat} {cm : Nat → Value} {w' : YW} {lg : List LG} {mem' : List Nat} (hW : YWI J cs w') (hl : LogO J (cs 4) lg ML) (hc9 : cf 9 = sl mb 0 n n) (hn : mem'.length = n) (hn2 : n < 2 ^ 30) (hb : ∀ d ∈ mem', d < 256) (h : CallG Hvaf.prog f args ⟨J, ⟨sb, ssz, Ts, cs⟩ :: ⟨fb, fsz, Tf, cf⟩ :: (M ++ ML)⟩ fun r S' => r = .bool true ∧ ∃ J, S' = ⟨J, ⟨sb, ssz, Ts, cs⟩ :: ⟨fb, fsz, Tf, cf⟩ :: ⟨mb, n, 5, updN cm 0 (bvs mem')⟩ :: ML⟩) :
    CallG Hvaf.prog f args ⟨J, ⟨sb, ssz, Ts, cs⟩ :: ⟨fb, fsz, Tf, cf⟩ :: (M ++ ML)⟩ fun r S' => r = .bool true ∧ ∃ J2 cs' G', S' = ⟨J2, ⟨sb, ssz, Ts, cs'⟩ :: ⟨fb, fsz, Tf, cf⟩ :: G'⟩ ∧ WPc cs w' J2 cs' ∧ ∃ M' ML', G' = M' ++ ML' ∧ LogO J2 (cs' 4) lg ML' ∧ MemO (cf 9) mem' M' := by
  refine h.mono ?_
  rintro r _ hs ⟨rfl, J2, rfl⟩
  have hs : Sub J J2 := hs
  subst hn
  exact ⟨rfl, J2, cs, _, rfl, ⟨hW.up hs, fun _ _ => rfl⟩, [_], ML, rfl, hl.up hs, hb, hn2, .inr ⟨mb, cm, hc9, rfl⟩⟩
end
theorem MemO.some {v : Value} {mem : List Nat} {M : List Ent} (h : MemO v mem M) (hp : 0 < mem.length) : ∃ b c, v = sl b 0 mem.length mem.length ∧ M = [⟨b, mem.length, 5, updN c 0 (bvs mem)⟩] := by
  rcases h.out with ⟨_, e, _⟩ | h
  · rw [e] at hp; exact absurd hp (by decide)
  · exact h
end Go.Proofs.YgvafwGreat
