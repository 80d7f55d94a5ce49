import Derived.Test.YgvafwGreatE37
import Derived.Test.YgvafwGreatE40
import Derived.Test.YgvafwGreatE5
import Derived.Test.YgvafwGreatM2
import Derived.Test.YgvafwGreatOp3
set_option exponentiation.threshold 1000
set_option maxRecDepth 100000
set_option maxHeartbeats 4000000
set_option linter.unusedVariables false
set_option linter.unusedSimpArgs false
-- v2
-- v4
-- v5
-- v6
-- v7
namespace Go.Proofs.YgvafwGreat
open Go.HL Go.Proofs
theorem memC_mono {a b : Nat} (h : a ≤ b) : memC a ≤ memC b := by
  unfold memC
  have := Nat.mul_le_mul h h
  have := Nat.div_le_div_right (c := 512) this
  omega
theorem memC_le {w : Nat} (h : w ≤ 22415) : memC w ≤ 1048558 := Nat.le_trans (memC_mono h) (by decide)
theorem MV.setGas {c : Nat → Value} {pc gas gas' : Nat} {s : List Nat} (h : MV c pc gas s) (hg : gas' < 2 ^ 40) : MV (upd c 1810 (.int .u64 (gas' : Nat))) pc gas' s := by
  have hsl := h.sl
  refine ⟨by rw [updNe (by decide)]; exact h.fpc, by rw [updNe (by decide)]; exact h.fsp, updEq, fun i hi => ?_, h.sl, h.sb, h.pb, hg⟩
  refine Row.congr (h.stk i hi) fun k h1 h2 => updNe ?_
  have h2 : k < 11 + 4 * i + 4 := h2
  omega
theorem ArI.cong {c c' : Nat → Value} {mem : List Nat} {M : List Ent} (h : ArI c mem M) (h1 : c' 1 = c 1) (h2 : c' 2 = c 2) (h3 : c' 3 = c 3) (h4 : c' 10 = c 10) : ArI c' mem M := ⟨by rw [h4]; exact h.tp, by rw [h2]; exact h.b0, by rw [h3]; exact h.b1, by rw [h1]; exact h.bf⟩
/-- mem.Arena.Grow, the arena's block ahead of the rest -/
theorem mGrowQ {I : Ent → Prop} {G M : List Ent} {cb sz w : Nat} {T : TypeId} {c : Nat → Value} {mem : List Nat} (hsz : 2435 ≤ sz) (hA : ArI c mem M) (hw : mem.length < 32 * w) (hw2 : w ≤ 22415) :
    CallG Hvaf.prog 282 #[ptr cb 1, .int .u32 (w : Nat)] ⟨I, ⟨cb, sz, T, c⟩ :: (M ++ G)⟩ fun r S' => r = .bool true ∧ ∃ c' M', S' = ⟨I, ⟨cb, sz, T, c'⟩ :: (M' ++ G)⟩ ∧ ArI c' (growL mem w) M' ∧ ∀ k, k ≠ 1 → k ≠ 3 → c' k = c k := by
  refine CallG.rel (Rel.perm (⟨cb, sz, T, c⟩ :: (G ++ M)) [] (by rw [List.append_nil]; exact List.Perm.cons _ List.perm_append_comm) ?_)
  refine CallG.post ((mGrow hsz hA hw hw2).mono ?_)
  rintro r S' - ⟨rfl, c', M', rfl, h1, h2⟩
  exact Rel.perm (⟨cb, sz, T, c'⟩ :: (M' ++ G)) [] (by rw [List.append_nil]; exact List.Perm.cons _ List.perm_append_comm) ⟨rfl, c', M', rfl, h1, h2⟩
/-- What a failed check leaves. -/
def FailP (I : Ent → Prop) (R : List Ent) (cb sz : Nat) (T : TypeId) (c : Nat → Value) (V : Vl) (st : Nat) : Post := fun r S' => r = .bool false ∧ ∃ c0 G', S' = ⟨I, ⟨cb, sz, T, endC c0 st 0 (.slice none 0 0)⟩ :: (R ++ G')⟩ ∧ Out c c0 ∧ VI I c0 { popN (V.jr.length - V.mq) V with nm := 0 } G'
/-- What payment leaves. -/
def PassP (I : Ent → Prop) (G : List Ent) (cb sz : Nat) (T : TypeId) (c : Nat → Value) (pc gas : Nat) (s mem : List Nat) : Post := fun r S' => r = .bool true ∧ ∃ c' M', S' = ⟨I, ⟨cb, sz, T, c'⟩ :: (M' ++ G)⟩ ∧ ArI c' mem M' ∧ MV c' pc gas s ∧ ∀ k, k ≠ 1 → k ≠ 3 → k ≠ 1810 → c' k = c k
/-- All that the checks rest on. -/
structure EI (I : Ent → Prop) (cb sz : Nat) (c : Nat → Value) (K : YK) (V : Vl) (pc gas : Nat) (s mem : List Nat) (M G : List Ent) : Prop where
  eS : 27019 ≤ sz
  eA : ArI c mem M
  eK : MK I cb c K
  eM : MV c pc gas s
  eV : VI I c V G
  eO : VOk V
  nm : 1 ≤ V.nm
  mq : V.mq ≤ V.jr.length
  pk : PopOk (V.jr.length - V.mq) V
  ok : ∀ k, k ≤ V.jr.length - V.mq → VOk (popN k V)
theorem EI.fail {I : Ent → Prop} {cb sz : Nat} {T : TypeId} {c : Nat → Value} {K : YK} {V : Vl} {pc gas st : Nat} {s mem : List Nat} {M G : List Ent} (h : EI I cb sz c K V pc gas s mem M G) (h2 : 2 ≤ st) (h256 : st < 256) : CallG Hvaf.prog 195 #[ptr cb 0, .int .u8 (st : Nat)] ⟨I, ⟨cb, sz, T, c⟩ :: (M ++ G)⟩ (FailP I M cb sz T c V st) :=
  mFail h.eS h.eA.tp h.eK h.eM h.eV h.nm h.mq h.pk h.ok h2 h256
/-- mach.Machine.Pass, flat, too dear -/
theorem mPsFN {I : Ent → Prop} {cb sz : Nat} {T : TypeId} {c : Nat → Value} {K : YK} {V : Vl} {pc gas : Nat} {s mem : List Nat} {M G : List Ent} {o sg : Nat} (h : EI I cb sz c K V pc gas s mem M G) (ho : o < 256) (hsg : sg < 65536) (hne : o ≠ 62 ∧ o ≠ 240 ∧ o ≠ 245) (hf : flatB o = true) (hg : gas < sg) :
    CallG Hvaf.prog 198 #[ptr cb 0, .int .u8 (o : Nat), .int .u16 (sg : Nat)] ⟨I, ⟨cb, sz, T, c⟩ :: (M ++ G)⟩ (FailP I M cb sz T c V 2) := by
  have hsz' : 2435 ≤ sz := by have := h.eS; omega
  have hrn := mRunning (I := I) (G := M ++ G) (cb := cb) (T := T) hsz' h.eK
  have hst := h.eK.fst
  have hgs := h.eM.fgas
  have hgb := h.eM.gb
  have hfl := fun S => Flat_spec (S := S) ho
  rw [hf] at hfl
  have hfa := h.fail (T := T) (st := 2) (by decide) (by decide)
  unfold FailP at *
  refine CallG.start (C := mkC Hvaf.prog) cok (args := [ptr cb 0, .int .u8 (o : Nat), .int .u16 (sg : Nat)]) Hvaf.func198 rfl Hvaf.ntmps198 (by simp) (by kernel_rfl) ?_
  repeat (first | refine SeqS.go cok ?_)
  refine CallG.sameL [] hrn ?_
  repeat (first | (refine QuG.keep ?_; first | refine QuG.l1E cok 0 rfl rfl rfl rfl rfl (by first | exact Nat.le_of_ble_eq_true rfl | omega | (dsimp only; omega) | (simp only [addS_eq, mulS_eq]; omega)) (by assumption) ?_) | refine SeqS.go cok ?_ | refine GuardS.yes rfl ?_ | refine GuardS.no rfl ?_ | refine CondS.f rfl ?_ | (refine GuardS.keep ?_; first | refine GuardS.T0 rfl (by omega) ?_ | refine GuardS.F0 rfl (by omega) ?_))
  refine (hfl _).mono ?_
  rintro r _ - ⟨rfl, rfl⟩
  repeat (first | (refine QuG.keep ?_; first | refine QuG.l1E cok 0 rfl rfl rfl rfl rfl (by first | exact Nat.le_of_ble_eq_true rfl | omega | (dsimp only; omega) | (simp only [addS_eq, mulS_eq]; omega)) (by assumption) ?_) | refine SeqS.go cok ?_ | refine CondS.t rfl ?_ | (refine ValS.keep ?_; first | (with_reducible refine ValS.kU64 ?_; first | (with_reducible refine ValS.convU64 ?_ ?_ ; omega))) | (refine CondS.keep ?_; first | refine CondS.d1 rfl (by omega) ?_))
  refine CallG.behind [] hfa ?_
  rintro r J G1 hs ⟨rfl, c0, G0, hS, g1, g2⟩
  cases hS
  repeat (first | refine SeqS.go cok ?_)
  exact Fin.same ⟨rfl, c0, G0, rfl, g1, g2⟩
/-- mach.Machine.Pass, flat -/
theorem mPsFY {I : Ent → Prop} {cb sz : Nat} {T : TypeId} {c : Nat → Value} {K : YK} {V : Vl} {pc gas : Nat} {s mem : List Nat} {M G : List Ent} {o sg : Nat} (h : EI I cb sz c K V pc gas s mem M G) (ho : o < 256) (hsg : sg < 65536) (hne : o ≠ 62 ∧ o ≠ 240 ∧ o ≠ 245) (hf : flatB o = true) (hg : sg ≤ gas) :
    CallG Hvaf.prog 198 #[ptr cb 0, .int .u8 (o : Nat), .int .u16 (sg : Nat)] ⟨I, ⟨cb, sz, T, c⟩ :: (M ++ G)⟩ (PassP I G cb sz T c pc (gas - sg) s mem) := by
  have hsz' : 2435 ≤ sz := by have := h.eS; omega
  have hrn := mRunning (I := I) (G := M ++ G) (cb := cb) (T := T) hsz' h.eK
  have hst := h.eK.fst
  have hgs := h.eM.fgas
  have hgb := h.eM.gb
  have hfl := fun S => Flat_spec (S := S) ho
  rw [hf] at hfl
  have hM2 := h.eM.setGas (gas' := gas - sg) (by omega)
  have hA2 := h.eA.cong (c' := upd c 1810 (.int .u64 ((gas - sg : Nat) : Int))) (updNe (by decide)) (updNe (by decide)) (updNe (by decide)) (updNe (by decide))
  refine CallG.start (C := mkC Hvaf.prog) cok (args := [ptr cb 0, .int .u8 (o : Nat), .int .u16 (sg : Nat)]) Hvaf.func198 rfl Hvaf.ntmps198 (by simp) (by kernel_rfl) ?_
  repeat (first | refine SeqS.go cok ?_)
  refine CallG.sameL [] hrn ?_
  repeat (first | (refine QuG.keep ?_; first | refine QuG.l1E cok 0 rfl rfl rfl rfl rfl (by first | exact Nat.le_of_ble_eq_true rfl | omega | (dsimp only; omega) | (simp only [addS_eq, mulS_eq]; omega)) (by assumption) ?_) | refine SeqS.go cok ?_ | refine GuardS.yes rfl ?_ | refine GuardS.no rfl ?_ | refine CondS.f rfl ?_ | (refine GuardS.keep ?_; first | refine GuardS.T0 rfl (by omega) ?_ | refine GuardS.F0 rfl (by omega) ?_))
  refine (hfl _).mono ?_
  rintro r _ - ⟨rfl, rfl⟩
  repeat (first | (refine QuG.keep ?_; first | refine QuG.l1E cok 0 rfl rfl rfl rfl rfl (by first | exact Nat.le_of_ble_eq_true rfl | omega | (dsimp only; omega) | (simp only [addS_eq, mulS_eq]; omega)) (by assumption) ?_) | refine SeqS.go cok ?_ | refine CondS.t rfl ?_ | (refine ValS.keep ?_; first | (with_reducible refine ValS.kU64 ?_; first | (with_reducible refine ValS.convU64 ?_ ?_ ; omega) | (with_reducible refine ValS.subU64 ?_ ?_ ?_ ; omega; omega))) | (refine OpG.keep ?_; first | refine OpG.s1 cok 0 rfl rfl rfl rfl rfl (by first | exact Nat.le_of_ble_eq_true rfl | omega | (dsimp only; omega) | (simp only [addS_eq, mulS_eq]; omega)) rfl rfl ?_) | (refine CondS.keep ?_; first | refine CondS.d0 rfl (by omega) ?_))
  exact Fin.same ⟨rfl, _, M, rfl, hA2, hM2, fun k _ _ hk => updNe hk⟩
/-- mach.Machine.Pass, a range out of reach -/
theorem mPsRN {I : Ent → Prop} {cb sz : Nat} {T : TypeId} {c : Nat → Value} {K : YK} {V : Vl} {pc gas : Nat} {s mem : List Nat} {M G : List Ent} {o sg : Nat} (h : EI I cb sz c K V pc gas s mem M G) (ho : o < 256) (hsg : sg < 65536) (hne : o ≠ 62 ∧ o ≠ 240 ∧ o ≠ 245) (hf : flatB o = false) (hre : CallG Hvaf.prog 277 #[ptr cb 0, ptr cb 1803, .int .u8 (o : Nat)] ⟨I, ⟨cb, sz, T, c⟩ :: (M ++ G)⟩ fun r S' => ⟨I, ⟨cb, sz, T, c⟩ :: (M ++ G)⟩ = S' ∧ ∃ v, r = .tuple #[v, .bool false]) :
    CallG Hvaf.prog 198 #[ptr cb 0, .int .u8 (o : Nat), .int .u16 (sg : Nat)] ⟨I, ⟨cb, sz, T, c⟩ :: (M ++ G)⟩ (FailP I M cb sz T c V 2) := by
  have hsz' : 2435 ≤ sz := by have := h.eS; omega
  have hrn := mRunning (I := I) (G := M ++ G) (cb := cb) (T := T) hsz' h.eK
  have hst := h.eK.fst
  have hgs := h.eM.fgas
  have hgb := h.eM.gb
  have hfl := fun S => Flat_spec (S := S) ho
  rw [hf] at hfl
  have hfa := h.fail (T := T) (st := 2) (by decide) (by decide)
  unfold FailP at *
  refine CallG.start (C := mkC Hvaf.prog) cok (args := [ptr cb 0, .int .u8 (o : Nat), .int .u16 (sg : Nat)]) Hvaf.func198 rfl Hvaf.ntmps198 (by simp) (by kernel_rfl) ?_
  repeat (first | refine SeqS.go cok ?_)
  refine CallG.sameL [] hrn ?_
  repeat (first | (refine QuG.keep ?_; first | refine QuG.l1E cok 0 rfl rfl rfl rfl rfl (by first | exact Nat.le_of_ble_eq_true rfl | omega | (dsimp only; omega) | (simp only [addS_eq, mulS_eq]; omega)) (by assumption) ?_) | refine SeqS.go cok ?_ | refine GuardS.yes rfl ?_ | refine GuardS.no rfl ?_ | refine CondS.f rfl ?_ | (refine GuardS.keep ?_; first | refine GuardS.T0 rfl (by omega) ?_ | refine GuardS.F0 rfl (by omega) ?_))
  refine (hfl _).mono ?_
  rintro r _ - ⟨rfl, rfl⟩
  repeat (first | refine SeqS.go cok ?_ | refine CondS.f rfl ?_)
  refine CallG.behind [] hre ?_
  rintro r J G1 hs ⟨hS, v, rfl⟩
  cases hS
  repeat (first | refine SeqS.go cok ?_ | refine CondS.t rfl ?_)
  refine CallG.behind [] hfa ?_
  rintro r J G1 hs ⟨rfl, c0, G0, hS, g1, g2⟩
  cases hS
  repeat (first | refine SeqS.go cok ?_)
  exact Fin.same ⟨rfl, c0, G0, rfl, g1, g2⟩
/-- mach.Machine.Pass, too dear, no growth -/
theorem mPsON {I : Ent → Prop} {cb sz : Nat} {T : TypeId} {c : Nat → Value} {K : YK} {V : Vl} {pc gas : Nat} {s mem : List Nat} {M G : List Ent} {o sg wd dy : Nat} (h : EI I cb sz c K V pc gas s mem M G) (ho : o < 256) (hsg : sg < 65536) (hne : o ≠ 62 ∧ o ≠ 240 ∧ o ≠ 245) (hf : flatB o = false) (hre : CallG Hvaf.prog 277 #[ptr cb 0, ptr cb 1803, .int .u8 (o : Nat)] ⟨I, ⟨cb, sz, T, c⟩ :: (M ++ G)⟩ fun r S' => ⟨I, ⟨cb, sz, T, c⟩ :: (M ++ G)⟩ = S' ∧ r = .tuple #[.int .u64 (wd : Nat), .bool true]) (hwd : wd ≤ 22415) (hdy : CallG Hvaf.prog 279 #[ptr cb 0, ptr cb 1803, .int .u8 (o : Nat)] ⟨I, ⟨cb, sz, T, c⟩ :: (M ++ G)⟩ fun r S' => ⟨I, ⟨cb, sz, T, c⟩ :: (M ++ G)⟩ = S' ∧ r = .int .u64 (dy : Nat)) (hdl : dy < 2 ^ 40) (hgr : wd ≤ mem.length / 32) (hg : gas < sg + dy) :
    CallG Hvaf.prog 198 #[ptr cb 0, .int .u8 (o : Nat), .int .u16 (sg : Nat)] ⟨I, ⟨cb, sz, T, c⟩ :: (M ++ G)⟩ (FailP I M cb sz T c V 2) := by
  have hsz' : 2435 ≤ sz := by have := h.eS; omega
  have hrn := mRunning (I := I) (G := M ++ G) (cb := cb) (T := T) hsz' h.eK
  have hst := h.eK.fst
  have hgs := h.eM.fgas
  have hgb := h.eM.gb
  have hfl := fun S => Flat_spec (S := S) ho
  rw [hf] at hfl
  have hlen := h.eA.bf.len
  have hln := mLen (I := I) (G := M ++ G) (cb := cb) (T := T) hsz' h.eA
  have hm1 := fun S => mMemCost (S := S) (w := wd) (by omega)
  have hm2 := fun S => mMemCost (S := S) (w := mem.length / 32) (by omega)
  have hc1 := memC_le hwd
  have hfa := h.fail (T := T) (st := 2) (by decide) (by decide)
  unfold FailP at *
  refine CallG.start (C := mkC Hvaf.prog) cok (args := [ptr cb 0, .int .u8 (o : Nat), .int .u16 (sg : Nat)]) Hvaf.func198 rfl Hvaf.ntmps198 (by simp) (by kernel_rfl) ?_
  repeat (first | refine SeqS.go cok ?_)
  refine CallG.sameL [] hrn ?_
  repeat (first | (refine QuG.keep ?_; first | refine QuG.l1E cok 0 rfl rfl rfl rfl rfl (by first | exact Nat.le_of_ble_eq_true rfl | omega | (dsimp only; omega) | (simp only [addS_eq, mulS_eq]; omega)) (by assumption) ?_) | refine SeqS.go cok ?_ | refine GuardS.yes rfl ?_ | refine GuardS.no rfl ?_ | refine CondS.f rfl ?_ | (refine GuardS.keep ?_; first | refine GuardS.T0 rfl (by omega) ?_ | refine GuardS.F0 rfl (by omega) ?_))
  refine (hfl _).mono ?_
  rintro r _ - ⟨rfl, rfl⟩
  repeat (first | refine SeqS.go cok ?_ | refine CondS.f rfl ?_)
  refine CallG.sameL [] hre ?_
  repeat (first | refine SeqS.go cok ?_ | refine CondS.f rfl ?_)
  refine CallG.sameL [] hln ?_
  repeat (first | refine SeqS.go cok ?_ | refine And.intro (by omega) ?_ | (refine ValS.keep ?_; first | (with_reducible refine ValS.kU64 ?_; first | (with_reducible refine ValS.convU64 ?_ ?_ ; omega)) | (with_reducible refine ValS.kU32 ?_; first | (with_reducible refine ValS.quoU32_L ?_ ?_ ; omega))))
  refine CallG.sameL [] hdy ?_
  repeat (first | (refine QuG.keep ?_; first | refine QuG.l1E cok 0 rfl rfl rfl rfl rfl (by first | exact Nat.le_of_ble_eq_true rfl | omega | (dsimp only; omega) | (simp only [addS_eq, mulS_eq]; omega)) (by assumption) ?_) | refine SeqS.go cok ?_ | refine GuardS.no rfl ?_ | refine GuardS.U rfl ?_ | refine CondS.t rfl ?_ | (refine ValS.keep ?_; first | (with_reducible refine ValS.kU64 ?_; first | (with_reducible refine ValS.addU64 ?_ ?_ ; omega))) | (refine GuardS.keep ?_; first | refine GuardS.F1 rfl (by omega) ?_) | (refine CondS.keep ?_; first | refine CondS.d0 rfl (by omega) ?_))
  refine CallG.behind [] hfa ?_
  rintro r J G1 hs ⟨rfl, c0, G0, hS, g1, g2⟩
  cases hS
  repeat (first | refine SeqS.go cok ?_)
  exact Fin.same ⟨rfl, c0, G0, rfl, g1, g2⟩
/-- mach.Machine.Pass, too dear, with growth -/
theorem mPsOG {I : Ent → Prop} {cb sz : Nat} {T : TypeId} {c : Nat → Value} {K : YK} {V : Vl} {pc gas : Nat} {s mem : List Nat} {M G : List Ent} {o sg wd dy : Nat} (h : EI I cb sz c K V pc gas s mem M G) (ho : o < 256) (hsg : sg < 65536) (hne : o ≠ 62 ∧ o ≠ 240 ∧ o ≠ 245) (hf : flatB o = false) (hre : CallG Hvaf.prog 277 #[ptr cb 0, ptr cb 1803, .int .u8 (o : Nat)] ⟨I, ⟨cb, sz, T, c⟩ :: (M ++ G)⟩ fun r S' => ⟨I, ⟨cb, sz, T, c⟩ :: (M ++ G)⟩ = S' ∧ r = .tuple #[.int .u64 (wd : Nat), .bool true]) (hwd : wd ≤ 22415) (hdy : CallG Hvaf.prog 279 #[ptr cb 0, ptr cb 1803, .int .u8 (o : Nat)] ⟨I, ⟨cb, sz, T, c⟩ :: (M ++ G)⟩ fun r S' => ⟨I, ⟨cb, sz, T, c⟩ :: (M ++ G)⟩ = S' ∧ r = .int .u64 (dy : Nat)) (hdl : dy < 2 ^ 40) (hgr : mem.length / 32 < wd) (hg : gas < sg + dy + (memC wd - memC (mem.length / 32))) :
    CallG Hvaf.prog 198 #[ptr cb 0, .int .u8 (o : Nat), .int .u16 (sg : Nat)] ⟨I, ⟨cb, sz, T, c⟩ :: (M ++ G)⟩ (FailP I M cb sz T c V 2) := by
  have hsz' : 2435 ≤ sz := by have := h.eS; omega
  have hrn := mRunning (I := I) (G := M ++ G) (cb := cb) (T := T) hsz' h.eK
  have hst := h.eK.fst
  have hgs := h.eM.fgas
  have hgb := h.eM.gb
  have hfl := fun S => Flat_spec (S := S) ho
  rw [hf] at hfl
  have hlen := h.eA.bf.len
  have hln := mLen (I := I) (G := M ++ G) (cb := cb) (T := T) hsz' h.eA
  have hm1 := fun S => mMemCost (S := S) (w := wd) (by omega)
  have hm2 := fun S => mMemCost (S := S) (w := mem.length / 32) (by omega)
  have hc1 := memC_le hwd
  have hfa := h.fail (T := T) (st := 2) (by decide) (by decide)
  have hc2 := memC_mono (Nat.le_of_lt hgr)
  generalize memC wd = m1 at *
  generalize memC (mem.length / 32) = m2 at *
  unfold FailP at *
  refine CallG.start (C := mkC Hvaf.prog) cok (args := [ptr cb 0, .int .u8 (o : Nat), .int .u16 (sg : Nat)]) Hvaf.func198 rfl Hvaf.ntmps198 (by simp) (by kernel_rfl) ?_
  repeat (first | refine SeqS.go cok ?_)
  refine CallG.sameL [] hrn ?_
  repeat (first | (refine QuG.keep ?_; first | refine QuG.l1E cok 0 rfl rfl rfl rfl rfl (by first | exact Nat.le_of_ble_eq_true rfl | omega | (dsimp only; omega) | (simp only [addS_eq, mulS_eq]; omega)) (by assumption) ?_) | refine SeqS.go cok ?_ | refine GuardS.yes rfl ?_ | refine GuardS.no rfl ?_ | refine CondS.f rfl ?_ | (refine GuardS.keep ?_; first | refine GuardS.T0 rfl (by omega) ?_ | refine GuardS.F0 rfl (by omega) ?_))
  refine (hfl _).mono ?_
  rintro r _ - ⟨rfl, rfl⟩
  repeat (first | refine SeqS.go cok ?_ | refine CondS.f rfl ?_)
  refine CallG.sameL [] hre ?_
  repeat (first | refine SeqS.go cok ?_ | refine CondS.f rfl ?_)
  refine CallG.sameL [] hln ?_
  repeat (first | refine SeqS.go cok ?_ | refine And.intro (by omega) ?_ | (refine ValS.keep ?_; first | (with_reducible refine ValS.kU64 ?_; first | (with_reducible refine ValS.convU64 ?_ ?_ ; omega)) | (with_reducible refine ValS.kU32 ?_; first | (with_reducible refine ValS.quoU32_L ?_ ?_ ; omega))))
  refine CallG.sameL [] hdy ?_
  repeat (first | refine SeqS.go cok ?_ | (refine ValS.keep ?_; first | (with_reducible refine ValS.kU64 ?_; first | (with_reducible refine ValS.addU64 ?_ ?_ ; omega))) | (refine CondS.keep ?_; first | refine CondS.d1 rfl (by omega) ?_))
  refine (hm1 _).mono ?_
  rintro r _ - ⟨rfl, rfl⟩
  skip
  refine (hm2 _).mono ?_
  rintro r _ - ⟨rfl, rfl⟩
  repeat (first | (refine QuG.keep ?_; first | refine QuG.l1E cok 0 rfl rfl rfl rfl rfl (by first | exact Nat.le_of_ble_eq_true rfl | omega | (dsimp only; omega) | (simp only [addS_eq, mulS_eq]; omega)) (by assumption) ?_) | refine SeqS.go cok ?_ | refine GuardS.no rfl ?_ | refine GuardS.U rfl ?_ | refine CondS.t rfl ?_ | (refine ValS.keep ?_; first | (with_reducible refine ValS.kU64 ?_; first | (with_reducible refine ValS.addU64 ?_ ?_ ; omega) | (with_reducible refine ValS.subU64 ?_ ?_ ?_ ; omega; omega))) | (refine GuardS.keep ?_; first | refine GuardS.F1 rfl (by omega) ?_))
  refine CallG.behind [] hfa ?_
  rintro r J G1 hs ⟨rfl, c0, G0, hS, g1, g2⟩
  cases hS
  repeat (first | refine SeqS.go cok ?_)
  exact Fin.same ⟨rfl, c0, G0, rfl, g1, g2⟩
/-- mach.Machine.Pass, paid, no growth -/
theorem mPsYN {I : Ent → Prop} {cb sz : Nat} {T : TypeId} {c : Nat → Value} {K : YK} {V : Vl} {pc gas : Nat} {s mem : List Nat} {M G : List Ent} {o sg wd dy : Nat} (h : EI I cb sz c K V pc gas s mem M G) (ho : o < 256) (hsg : sg < 65536) (hne : o ≠ 62 ∧ o ≠ 240 ∧ o ≠ 245) (hf : flatB o = false) (hre : CallG Hvaf.prog 277 #[ptr cb 0, ptr cb 1803, .int .u8 (o : Nat)] ⟨I, ⟨cb, sz, T, c⟩ :: (M ++ G)⟩ fun r S' => ⟨I, ⟨cb, sz, T, c⟩ :: (M ++ G)⟩ = S' ∧ r = .tuple #[.int .u64 (wd : Nat), .bool true]) (hwd : wd ≤ 22415) (hdy : CallG Hvaf.prog 279 #[ptr cb 0, ptr cb 1803, .int .u8 (o : Nat)] ⟨I, ⟨cb, sz, T, c⟩ :: (M ++ G)⟩ fun r S' => ⟨I, ⟨cb, sz, T, c⟩ :: (M ++ G)⟩ = S' ∧ r = .int .u64 (dy : Nat)) (hdl : dy < 2 ^ 40) (hj : o ≠ 85 ∧ o ≠ 86 ∧ o ≠ 87) (hgr : wd ≤ mem.length / 32) (hg : sg + dy ≤ gas) :
    CallG Hvaf.prog 198 #[ptr cb 0, .int .u8 (o : Nat), .int .u16 (sg : Nat)] ⟨I, ⟨cb, sz, T, c⟩ :: (M ++ G)⟩ (PassP I G cb sz T c pc (gas - (sg + dy)) s mem) := by
  have hsz' : 2435 ≤ sz := by have := h.eS; omega
  have hrn := mRunning (I := I) (G := M ++ G) (cb := cb) (T := T) hsz' h.eK
  have hst := h.eK.fst
  have hgs := h.eM.fgas
  have hgb := h.eM.gb
  have hfl := fun S => Flat_spec (S := S) ho
  rw [hf] at hfl
  have hlen := h.eA.bf.len
  have hln := mLen (I := I) (G := M ++ G) (cb := cb) (T := T) hsz' h.eA
  have hm1 := fun S => mMemCost (S := S) (w := wd) (by omega)
  have hm2 := fun S => mMemCost (S := S) (w := mem.length / 32) (by omega)
  have hc1 := memC_le hwd
  have hM2 := h.eM.setGas (gas' := gas - (sg + dy)) (by omega)
  have hA2 := h.eA.cong (c' := upd c 1810 (.int .u64 ((gas - (sg + dy) : Nat) : Int))) (updNe (by decide)) (updNe (by decide)) (updNe (by decide)) (updNe (by decide))
  refine CallG.start (C := mkC Hvaf.prog) cok (args := [ptr cb 0, .int .u8 (o : Nat), .int .u16 (sg : Nat)]) Hvaf.func198 rfl Hvaf.ntmps198 (by simp) (by kernel_rfl) ?_
  repeat (first | refine SeqS.go cok ?_)
  refine CallG.sameL [] hrn ?_
  repeat (first | (refine QuG.keep ?_; first | refine QuG.l1E cok 0 rfl rfl rfl rfl rfl (by first | exact Nat.le_of_ble_eq_true rfl | omega | (dsimp only; omega) | (simp only [addS_eq, mulS_eq]; omega)) (by assumption) ?_) | refine SeqS.go cok ?_ | refine GuardS.yes rfl ?_ | refine GuardS.no rfl ?_ | refine CondS.f rfl ?_ | (refine GuardS.keep ?_; first | refine GuardS.T0 rfl (by omega) ?_ | refine GuardS.F0 rfl (by omega) ?_))
  refine (hfl _).mono ?_
  rintro r _ - ⟨rfl, rfl⟩
  repeat (first | refine SeqS.go cok ?_ | refine CondS.f rfl ?_)
  refine CallG.sameL [] hre ?_
  repeat (first | refine SeqS.go cok ?_ | refine CondS.f rfl ?_)
  refine CallG.sameL [] hln ?_
  repeat (first | refine SeqS.go cok ?_ | refine And.intro (by omega) ?_ | (refine ValS.keep ?_; first | (with_reducible refine ValS.kU64 ?_; first | (with_reducible refine ValS.convU64 ?_ ?_ ; omega)) | (with_reducible refine ValS.kU32 ?_; first | (with_reducible refine ValS.quoU32_L ?_ ?_ ; omega))))
  refine CallG.sameL [] hdy ?_
  repeat (first | (refine QuG.keep ?_; first | refine QuG.l1E cok 0 rfl rfl rfl rfl rfl (by first | exact Nat.le_of_ble_eq_true rfl | omega | (dsimp only; omega) | (simp only [addS_eq, mulS_eq]; omega)) (by assumption) ?_) | refine SeqS.go cok ?_ | refine GuardS.yes rfl ?_ | refine GuardS.no rfl ?_ | refine CondS.f rfl ?_ | (refine ValS.keep ?_; first | (with_reducible refine ValS.kU64 ?_; first | (with_reducible refine ValS.addU64 ?_ ?_ ; omega) | (with_reducible refine ValS.subU64 ?_ ?_ ?_ ; omega; omega))) | (refine OpG.keep ?_; first | refine OpG.s1 cok 0 rfl rfl rfl rfl rfl (by first | exact Nat.le_of_ble_eq_true rfl | omega | (dsimp only; omega) | (simp only [addS_eq, mulS_eq]; omega)) rfl rfl ?_) | (refine GuardS.keep ?_; first | refine GuardS.T0 rfl (by omega) ?_ | refine GuardS.F0 rfl (by omega) ?_) | (refine CondS.keep ?_; first | refine CondS.d0 rfl (by omega) ?_))
  exact Fin.same ⟨rfl, _, M, rfl, hA2, hM2, fun k _ _ hk => updNe hk⟩
/-- mach.Machine.Pass, paid, with growth -/
theorem mPsYG {I : Ent → Prop} {cb sz : Nat} {T : TypeId} {c : Nat → Value} {K : YK} {V : Vl} {pc gas : Nat} {s mem : List Nat} {M G : List Ent} {o sg wd dy : Nat} (h : EI I cb sz c K V pc gas s mem M G) (ho : o < 256) (hsg : sg < 65536) (hne : o ≠ 62 ∧ o ≠ 240 ∧ o ≠ 245) (hf : flatB o = false) (hre : CallG Hvaf.prog 277 #[ptr cb 0, ptr cb 1803, .int .u8 (o : Nat)] ⟨I, ⟨cb, sz, T, c⟩ :: (M ++ G)⟩ fun r S' => ⟨I, ⟨cb, sz, T, c⟩ :: (M ++ G)⟩ = S' ∧ r = .tuple #[.int .u64 (wd : Nat), .bool true]) (hwd : wd ≤ 22415) (hdy : CallG Hvaf.prog 279 #[ptr cb 0, ptr cb 1803, .int .u8 (o : Nat)] ⟨I, ⟨cb, sz, T, c⟩ :: (M ++ G)⟩ fun r S' => ⟨I, ⟨cb, sz, T, c⟩ :: (M ++ G)⟩ = S' ∧ r = .int .u64 (dy : Nat)) (hdl : dy < 2 ^ 40) (hj : o ≠ 85 ∧ o ≠ 86 ∧ o ≠ 87) (hgr : mem.length / 32 < wd) (hg : sg + dy + (memC wd - memC (mem.length / 32)) ≤ gas) :
    CallG Hvaf.prog 198 #[ptr cb 0, .int .u8 (o : Nat), .int .u16 (sg : Nat)] ⟨I, ⟨cb, sz, T, c⟩ :: (M ++ G)⟩ (PassP I G cb sz T c pc (gas - (sg + dy + (memC wd - memC (mem.length / 32)))) s (growL mem wd)) := by
  have hsz' : 2435 ≤ sz := by have := h.eS; omega
  have hrn := mRunning (I := I) (G := M ++ G) (cb := cb) (T := T) hsz' h.eK
  have hst := h.eK.fst
  have hgs := h.eM.fgas
  have hgb := h.eM.gb
  have hfl := fun S => Flat_spec (S := S) ho
  rw [hf] at hfl
  have hlen := h.eA.bf.len
  have hln := mLen (I := I) (G := M ++ G) (cb := cb) (T := T) hsz' h.eA
  have hm1 := fun S => mMemCost (S := S) (w := wd) (by omega)
  have hm2 := fun S => mMemCost (S := S) (w := mem.length / 32) (by omega)
  have hc1 := memC_le hwd
  have hc2 := memC_mono (Nat.le_of_lt hgr)
  have hM2 := h.eM.setGas (gas' := gas - (sg + dy + (memC wd - memC (mem.length / 32)))) (by omega)
  have hA2 := h.eA.cong (c' := upd c 1810 (.int .u64 ((gas - (sg + dy + (memC wd - memC (mem.length / 32))) : Nat) : Int))) (updNe (by decide)) (updNe (by decide)) (updNe (by decide)) (updNe (by decide))
  have hgrw := mGrowQ (I := I) (G := G) (cb := cb) (T := T) (w := wd) hsz' hA2 (by omega) hwd
  generalize growL mem wd = mem' at *
  generalize memC wd = m1 at *
  generalize memC (mem.length / 32) = m2 at *
  refine CallG.start (C := mkC Hvaf.prog) cok (args := [ptr cb 0, .int .u8 (o : Nat), .int .u16 (sg : Nat)]) Hvaf.func198 rfl Hvaf.ntmps198 (by simp) (by kernel_rfl) ?_
  repeat (first | refine SeqS.go cok ?_)
  refine CallG.sameL [] hrn ?_
  repeat (first | (refine QuG.keep ?_; first | refine QuG.l1E cok 0 rfl rfl rfl rfl rfl (by first | exact Nat.le_of_ble_eq_true rfl | omega | (dsimp only; omega) | (simp only [addS_eq, mulS_eq]; omega)) (by assumption) ?_) | refine SeqS.go cok ?_ | refine GuardS.yes rfl ?_ | refine GuardS.no rfl ?_ | refine CondS.f rfl ?_ | (refine GuardS.keep ?_; first | refine GuardS.T0 rfl (by omega) ?_ | refine GuardS.F0 rfl (by omega) ?_))
  refine (hfl _).mono ?_
  rintro r _ - ⟨rfl, rfl⟩
  repeat (first | refine SeqS.go cok ?_ | refine CondS.f rfl ?_)
  refine CallG.sameL [] hre ?_
  repeat (first | refine SeqS.go cok ?_ | refine CondS.f rfl ?_)
  refine CallG.sameL [] hln ?_
  repeat (first | refine SeqS.go cok ?_ | refine And.intro (by omega) ?_ | (refine ValS.keep ?_; first | (with_reducible refine ValS.kU64 ?_; first | (with_reducible refine ValS.convU64 ?_ ?_ ; omega)) | (with_reducible refine ValS.kU32 ?_; first | (with_reducible refine ValS.quoU32_L ?_ ?_ ; omega))))
  refine CallG.sameL [] hdy ?_
  repeat (first | refine SeqS.go cok ?_ | (refine ValS.keep ?_; first | (with_reducible refine ValS.kU64 ?_; first | (with_reducible refine ValS.addU64 ?_ ?_ ; omega))) | (refine CondS.keep ?_; first | refine CondS.d1 rfl (by omega) ?_))
  refine (hm1 _).mono ?_
  rintro r _ - ⟨rfl, rfl⟩
  skip
  refine (hm2 _).mono ?_
  rintro r _ - ⟨rfl, rfl⟩
  repeat (first | (refine QuG.keep ?_; first | refine QuG.l1E cok 0 rfl rfl rfl rfl rfl (by first | exact Nat.le_of_ble_eq_true rfl | omega | (dsimp only; omega) | (simp only [addS_eq, mulS_eq]; omega)) (by assumption) ?_) | refine SeqS.go cok ?_ | refine GuardS.yes rfl ?_ | refine GuardS.no rfl ?_ | refine CondS.f rfl ?_ | (refine ValS.keep ?_; first | (with_reducible refine ValS.kU64 ?_; first | (with_reducible refine ValS.addU64 ?_ ?_ ; omega) | (with_reducible refine ValS.subU64 ?_ ?_ ?_ ; omega; omega)) | (with_reducible refine ValS.kU32 ?_; first | (with_reducible refine ValS.convU32 ?_ ?_ ; omega))) | (refine OpG.keep ?_; first | refine OpG.s1 cok 0 rfl rfl rfl rfl rfl (by first | exact Nat.le_of_ble_eq_true rfl | omega | (dsimp only; omega) | (simp only [addS_eq, mulS_eq]; omega)) rfl rfl ?_) | (refine GuardS.keep ?_; first | refine GuardS.T1 rfl (by omega) ?_ | refine GuardS.T0 rfl (by omega) ?_ | refine GuardS.F0 rfl (by omega) ?_) | (refine CondS.keep ?_; first | refine CondS.d0 rfl (by omega) ?_))
  refine CallG.behind [] hgrw ?_
  rintro r J G1 hs ⟨rfl, c', M', hS, g1, g2⟩
  cases hS
  have hM3 := hM2.congr (c' := c') fun k h1 h2 => g2 k (by omega) (by omega)
  repeat (first | refine SeqS.go cok ?_ | refine GuardS.yes rfl ?_ | refine CondS.f rfl ?_)
  exact Fin.same ⟨rfl, c', M', rfl, g1, hM3, fun k k1 k3 hk => (g2 k k1 k3).trans (updNe hk)⟩
end Go.Proofs.YgvafwGreat
