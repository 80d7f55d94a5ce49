import Derived.Test.YgvafwGreatE25
import Derived.Test.YgvafwGreatK16
import Derived.Test.YgvafwGreatE16
import Derived.Test.YgvafwGreatOp1
set_option exponentiation.threshold 1000
set_option maxRecDepth 100000
set_option maxHeartbeats 4000000
set_option linter.unusedVariables false
set_option linter.unusedSimpArgs false
-- v2
-- v4
-- v5
-- v6
-- v7
namespace Go.Proofs.YgvafwGreat
open Go.HL Go.Proofs
theorem cut_succ (ds : List Nat) (o i : Nat) : cutL ds o (i + 1) = cutL ds o i ++ [ds.getD (o + i) 0] := by
  unfold cutL; rw [List.range_succ, List.map_append]; rfl
theorem bev_cut_succ (ds : List Nat) (o i : Nat) : bev (cutL ds o (i + 1)) = ds.getD (o + i) 0 + 256 * bev (cutL ds o i) := by
  rw [cut_succ, bev_append]; simp [bev, val]
theorem bev_cut_lt {ds : List Nat} (h : ∀ d ∈ ds, d < 256) (o i : Nat) (hi : i ≤ 8) : bev (cutL ds o i) < 18446744073709551616 := by
  have := bev_lt _ (cutL_lt h o i)
  rw [cutL_len] at this
  exact Nat.lt_of_lt_of_le this (Nat.le_trans (Nat.pow_le_pow_right (by decide) hi) (by decide))
theorem shl8_or {x d : Nat} (hx : x < 2 ^ 56) (hd : d < 256) : x * 2 ^ 8 % 18446744073709551616 ||| d = d + 256 * x := by
  rw [Nat.mod_eq_of_lt (by omega)]
  have := Nat.two_pow_add_eq_or_of_lt (i := 8) hd x
  rw [Nat.mul_comm x, ← this]; omega
/-- mach.Machine.OpPush, up to eight bytes that stand in the code -/
theorem mPushS {I : Ent → Prop} {G : List Ent} {cb sz pc gas o : Nat} {T : TypeId} {c : Nat → Value} {K : YK} {s : List Nat} (hsz : 2435 ≤ sz) (hK : MK I cb c K) (hM : MV c pc gas s) (hpb : pc + 33 < 60000) (ho : K.code.getD pc 0 = o) (ho1 : 95 ≤ o) (ho2 : o ≤ 103) (hin : pc + 1 + (o - 95) ≤ K.code.length) (h64 : s.length < 64) :
    CallG Hvaf.prog 326 #[ptr cb 0] ⟨I, ⟨cb, sz, T, c⟩ :: G⟩ (SetP I G cb sz T c (pc + (1 + (o - 95))) gas (s ++ [bev (cutL K.code (pc + 1) (o - 95))])) := by
  have hrn := mRunning (I := I) (G := G) (cb := cb) (T := T) hsz hK
  have hop := mOpcode (I := I) (G := G) (cb := cb) (T := T) hsz hK hM
  rw [ho] at hop
  have him := fun S => Imm_spec (S := S) (o := o) (by omega)
  have hie : immN o = o - 95 := by unfold immN; split <;> omega
  rw [hie] at him
  obtain ⟨n, hn⟩ : ∃ n, o - 95 = n := ⟨_, rfl⟩
  rw [hn] at him hin ⊢
  have hcl := hK.kb.code
  have hpc := hM.fpc
  have hlt := fun i (hi : i ≤ 8) => bev_cut_lt hK.fcode.1 (pc + 1) i hi
  have hse := mSettleG (I := I) (G := G) (cb := cb) (T := T) (t := 0) (step := 1 + n) (w := bev (cutL K.code (pc + 1) n)) hsz hK.fsb hM (Nat.zero_le _) (by omega) (by omega) (Nat.lt_trans (hlt n (by omega)) (by decide))
  rw [wcs_word, Nat.sub_zero, List.take_length, ← smallW (hlt n (by omega))] at hse
  rcases hK.fcode.cases with ⟨_, h5⟩ | ⟨x, off, cap, hv, h5, h6, hx, hbs⟩
  · rw [h5] at hin; simp at hin
  have hxI : I x := by rcases hx with h | h; exact h; simp at h
  have h8 := hK.fcode.1
  have hb2 : ∀ k, k < K.code.length → x.c (off + k) = .int .u8 (K.code.getD k 0 : Nat) := hbs.2
  have hb1 := hbs.1
  have hn8 : n ≤ 8 := by omega
  have hd8 : ∀ k, K.code.getD k 0 < 256 := fun k => by
    by_cases h : k < K.code.length
    · rw [List.getD_eq_getElem?_getD, List.getElem?_eq_getElem h]; exact h8 _ (List.getElem_mem h)
    · rw [List.getD_eq_getElem?_getD, List.getElem?_eq_none (by omega)]; decide
  have hsv : ∃ A, Bs x A (cutL K.code (pc + 1) n) ∧ Value.slice (some ⟨x.b, if cap = pc + 1 + n - n then off else addS off (mulS (pc + 1 + n - n) 1), none⟩) (pc + 1 + n - (pc + 1 + n - n)) (cap - (pc + 1 + n - n)) = .slice (some ⟨x.b, A, none⟩) n (cap - (pc + 1)) := by
    have e1 : pc + 1 + n - n = pc + 1 := by omega
    have e2 : pc + 1 + n - (pc + 1) = n := by omega
    have hB : ∀ A, (0 < n → A = off + (pc + 1)) → A + n ≤ x.sz → Bs x A (cutL K.code (pc + 1) n) := fun A hA hs => by
      refine ⟨by rw [cutL_len]; exact hs, fun i hi => ?_⟩
      rw [cutL_len] at hi
      rw [cutL_get _ _ hi, hA (by omega), Nat.add_assoc]
      exact hb2 _ (by omega)
    by_cases h : cap = pc + 1
    · exact ⟨off, hB off (fun h0 => by omega) (by omega), by rw [e1, e2, if_pos h]⟩
    · exact ⟨off + (pc + 1), hB _ (fun _ => rfl) (by omega), by rw [e1, e2, if_neg h, addS_mulS _ _ _ rfl]⟩
  obtain ⟨A, hbs2, hsv⟩ := hsv
  have hcg := fun i (hi : i < n) => cutL_get K.code (pc + 1) hi
  have hrd : Rd ⟨I, ⟨cb, sz, T, c⟩ :: G⟩ x := .inl hxI
  have hstep := fun i (hi : i < n) => bev_cut_succ K.code (pc + 1) i
  have hcn := cutL_len K.code (pc + 1) n
  have hlt2 := fun i (hi : i < n) => show bev (cutL K.code (pc + 1) i) < 2 ^ 56 by
    have := bev_lt _ (cutL_lt h8 (pc + 1) i)
    rw [cutL_len] at this
    exact Nat.lt_of_lt_of_le this (Nat.le_trans (Nat.pow_le_pow_right (by decide) (show i ≤ 7 by omega)) (by decide))
  clear hbs
  generalize s ++ [bev (cutL K.code (pc + 1) n)] = s' at *
  generalize hcode : K.code = code at *
  refine CallG.start (C := mkC Hvaf.prog) cok (args := [ptr cb 0]) Hvaf.func326 rfl Hvaf.ntmps326 (by simp) (by kernel_rfl) ?_
  skip
  refine CallG.sameL [] hrn ?_
  repeat (first | refine SeqS.go cok ?_ | refine CondS.f rfl ?_)
  refine CallG.sameL [] hop ?_
  skip
  refine (him _).mono ?_
  rintro r _ - ⟨rfl, rfl⟩
  repeat (first | (refine QuG.keep ?_; first | refine QuG.l1E cok 0 rfl rfl rfl rfl rfl (by first | exact Nat.le_of_ble_eq_true rfl | omega | (dsimp only; omega) | (simp only [addS_eq, mulS_eq]; omega)) (by assumption) ?_) | refine SeqS.go cok ?_ | refine GuardS.yes rfl ?_ | refine And.intro (Eq.refl true) ?_ | refine And.intro (by omega) ?_ | (refine NatS.keep ?_; first | with_reducible refine NatS.nat ?_) | (refine ValS.keep ?_; first | (with_reducible refine ValS.kI64 ?_; first | (with_reducible refine ValS.convI64 ?_ ?_ ; omega) | (with_reducible refine ValS.addI64_L ?_ ?_ ; omega) | (with_reducible refine ValS.addI64 ?_ ?_ ; omega) | (with_reducible refine ValS.subI64 ?_ ?_ ?_ ; omega; omega))) | (refine GuardS.keep ?_; first | refine GuardS.T1 rfl (by omega) ?_) | (refine CondS.keep ?_; first | refine CondS.d1 rfl (by omega) ?_))
  refine ValS.cast hsv ?_
  repeat (first | refine SeqS.go cok ?_)
  refine W.loopG cok (by kernel_rfl) 0 (fun (i : Nat) e' => i ≤ n ∧ slots [(0, ptr cb 0), (2, ptr cb 1803), (3, .int .i64 (n : Nat)), (5, .int .u64 (bev (cutL code (pc + 1) i) : Nat)), (45, .slice (some ⟨x.b, A, none⟩) n (cap - (pc + 1))), (46, .int .i64 (n : Nat)), (47, .int .i64 (i : Nat))] e') (fun i => n - i) 0
    ⟨Nat.zero_le _, rfl, rfl, rfl, rfl, rfl, rfl, rfl, trivial⟩ (fun e' => slots [(0, ptr cb 0), (2, ptr cb 1803), (3, .int .i64 (n : Nat)), (5, .int .u64 (bev (cutL code (pc + 1) n) : Nat))] e') ?_ ?_
  · rintro e' hsl
    refine SeqS.slots cok _ hsl fun e => ?_
    repeat (first | refine And.intro (fillOk_of (Eq.refl true)) ?_ | (refine ValS.keep ?_; first | (with_reducible refine ValS.kI64 ?_; first | (with_reducible refine ValS.addI64_M ?_ ?_ ; omega)) | (with_reducible refine ValS.kU16 ?_; first | (with_reducible refine ValS.convU16 ?_ ?_ ; omega))))
    refine CallG.behind [] hse ?_
    rintro r J G1 hs ⟨c', hS, h1, h2⟩
    cases hS
    repeat (first | refine SeqS.go cok ?_)
    exact Fin.same ⟨c', rfl, h1, h2⟩
  · rintro i e' ⟨hi, hsl⟩
    refine W.slots _ hsl fun e => ?_
    by_cases hin2 : i < n
    · have h1 := hcg i hin2
      have h2 := hd8 (pc + 1 + i)
      have h3 := hlt i (by omega)
      have h4 := hstep i hin2
      have h7 := shl8_or (hlt2 i hin2) h2
      rw [← h4] at h7
      rw [← h1] at h2 h7
      generalize cutL code (pc + 1) n = cs at *
      generalize bev (cutL code (pc + 1) i) = bi at *
      repeat (first | refine SeqS.go cok ?_ | refine And.intro (by omega) ?_ | (refine NatS.keep ?_; first | with_reducible refine NatS.nat ?_) | (refine ValS.keep ?_; first | (with_reducible refine ValS.kI64 ?_; first | (with_reducible refine ValS.addI64_L ?_ ?_ ; omega)) | (with_reducible refine ValS.kU64 ?_; first | (with_reducible refine ValS.orFU64 ?_ ?_ (fun _ => ?_); omega; omega) | (with_reducible refine ValS.convU64 ?_ ?_ ; omega) | (with_reducible refine ValS.shlWU64_L ?_ ?_ ; omega))) | (refine QuG.keep ?_; first | refine QuG.bs cok (by assumption) (by assumption) rfl rfl rfl rfl (by omega) ?_) | (refine CondS.keep ?_; first | refine CondS.d1 rfl (by omega) ?_))
      exact ⟨i + 1, Rel.same ⟨rfl, hin2, rfl, rfl, rfl, congrArg (fun n : Nat => Value.int .u64 (n : Int)) h7, rfl, rfl, rfl, trivial⟩, by show n - (i + 1) < n - i; omega⟩
    · obtain rfl : i = n := by omega
      repeat (first | refine SeqS.go cok ?_ | (refine CondS.keep ?_; first | refine CondS.d0 rfl (by omega) ?_))
      exact ⟨rfl, rfl, rfl, rfl, rfl, trivial⟩
/-- mach.Machine.OpPush, the bytes laid in a word -/
theorem mPushL {I : Ent → Prop} {G : List Ent} {cb sz pc gas o : Nat} {T : TypeId} {c : Nat → Value} {K : YK} {s : List Nat} (hsz : 2435 ≤ sz) (hK : MK I cb c K) (hM : MV c pc gas s) (hpb : pc + 33 < 60000) (ho : K.code.getD pc 0 = o) (ho1 : 95 ≤ o) (ho2 : o ≤ 127) (hin : ¬ (o ≤ 103 ∧ pc + 1 + (o - 95) ≤ K.code.length)) (hpl : pc < K.code.length) (h64 : s.length < 64) :
    CallG Hvaf.prog 326 #[ptr cb 0] ⟨I, ⟨cb, sz, T, c⟩ :: G⟩ (SetP I G cb sz T c (pc + (1 + (o - 95))) gas (s ++ [bev (cutL K.code (pc + 1) (o - 95))])) := by
  have hrn := mRunning (I := I) (G := G) (cb := cb) (T := T) hsz hK
  have hop := mOpcode (I := I) (G := G) (cb := cb) (T := T) hsz hK hM
  rw [ho] at hop
  have him := fun S => Imm_spec (S := S) (o := o) (by omega)
  have hie : immN o = o - 95 := by unfold immN; split <;> omega
  rw [hie] at him
  obtain ⟨n, hn⟩ : ∃ n, o - 95 = n := ⟨_, rfl⟩
  rw [hn] at him hin ⊢
  have hn32 : n ≤ 32 := by omega
  have hcl := hK.kb.code
  have hpc := hM.fpc
  have h8 := hK.fcode.1
  have hcn := cutL_len K.code (pc + 1) n
  have hrl : (List.replicate (32 - n) 0 ++ cutL K.code (pc + 1) n).length = 32 := by rw [List.length_append, List.length_replicate, hcn]; omega
  have hr8 : ∀ d ∈ List.replicate (32 - n) 0 ++ cutL K.code (pc + 1) n, d < 256 := fun d hd => by
    rcases List.mem_append.1 hd with h | h
    · rw [(List.mem_replicate.1 h).2]; decide
    · exact cutL_lt h8 _ _ d h
  have hu := fun S => FromBytes_spec (S := S) hrl hr8
  rw [bev_zeros] at hu
  have hlt : bev (cutL K.code (pc + 1) n) < 115792089237316195423570985008687907853269984665640564039457584007913129639936 := bev_256 (cutL_lt h8 _ _) (by omega)
  have hse := mSettleG (I := I) (G := G) (cb := cb) (T := T) (t := 0) (step := 1 + n) (w := bev (cutL K.code (pc + 1) n)) hsz hK.fsb hM (Nat.zero_le _) (by omega) (by omega) hlt
  rw [wcs_word, Nat.sub_zero, List.take_length] at hse
  have hz : ∀ i, i < 32 → z_int__u8_0 i = .int .u8 ((0 : Nat) : Int) := fun _ _ => rfl
  have hbl : (bvs (List.replicate (32 - n) 0 ++ cutL K.code (pc + 1) n)).length = 32 := by rw [bvs_len]; exact hrl
  have h32 : 0 + 32 ≤ 32 := by decide
  have hn0 : 0 < n := by omega
  rcases hK.fcode.cases with ⟨_, h5⟩ | ⟨x, off, cap, hv, h5, h6, hx, hbs⟩
  · rw [h5] at hpl; simp at hpl
  have hxI : I x := by rcases hx with h | h; exact h; simp at h
  have hb2 : ∀ k, k < K.code.length → x.c (off + k) = .int .u8 (K.code.getD k 0 : Nat) := hbs.2
  have hb1 := hbs.1
  have hnot : ¬ (n ≤ 8 ∧ pc + 1 + n ≤ K.code.length) := by omega
  by_cases hfr : pc + 1 < K.code.length
  · obtain ⟨q, hq⟩ : ∃ q, min (K.code.length - (pc + 1)) n = q := ⟨_, rfl⟩
    have hrow := cp_row (n := n) (a := 32 - n) hn32 hq rfl hz hb2
    have hao : addS off (mulS (pc + 1) 1) = off + (pc + 1) := addS_mulS _ _ _ rfl
    have hao2 : addS 0 (mulS (32 - n) 1) = 32 - n := by rw [addS_mulS _ _ _ rfl, Nat.zero_add]
    have hsv2 : ∀ x3, Value.slice (some ⟨x3, if 32 = 32 - n then 0 else addS 0 (mulS (32 - n) 1), none⟩) (32 - (32 - n)) (32 - (32 - n)) = .slice (some ⟨x3, addS 0 (mulS (32 - n) 1), none⟩) (32 - (32 - n)) (32 - (32 - n)) := fun x3 => by rw [if_neg (by omega)]
    have hrow2 : Row (HL.updN z_int__u8_0 (addS 0 (mulS (32 - n) 1)) (cellsFrom x.c (addS off (mulS (pc + 1) 1)) (mulS q 1))) 0 (bvs (List.replicate (32 - n) 0 ++ cutL K.code (pc + 1) n)) := by rw [hao, hao2, mulS_eq q, Nat.mul_one]; exact hrow
    generalize List.replicate (32 - n) 0 ++ cutL K.code (pc + 1) n = bs at *
    generalize s ++ [bev (cutL K.code (pc + 1) n)] = s' at *
    generalize bev (cutL K.code (pc + 1) n) = w at *
    generalize hcl2 : K.code.length = L at *
    by_cases hn8 : n ≤ 8
    all_goals (
      refine CallG.start (C := mkC Hvaf.prog) cok (args := [ptr cb 0]) Hvaf.func326 rfl Hvaf.ntmps326 (by simp) (by kernel_rfl) ?_
      skip
      refine CallG.sameL [] hrn ?_
      repeat (first | refine SeqS.go cok ?_ | refine CondS.f rfl ?_)
      refine CallG.sameL [] hop ?_
      skip
      refine (him _).mono ?_
      rintro r _ - ⟨rfl, rfl⟩
      repeat (first | (refine QuG.keep ?_; first | refine QuG.l1E cok 0 rfl rfl rfl rfl rfl (by first | exact Nat.le_of_ble_eq_true rfl | omega | (dsimp only; omega) | (simp only [addS_eq, mulS_eq]; omega)) (by assumption) ?_) | refine SeqS.go cok ?_ | refine GuardS.yes rfl ?_ | refine GuardS.no rfl ?_ | refine CondS.f rfl ?_ | (refine ValS.keep ?_; first | (with_reducible refine ValS.kI64 ?_; first | (with_reducible refine ValS.convI64 ?_ ?_ ; omega) | (with_reducible refine ValS.addI64_L ?_ ?_ ; omega) | (with_reducible refine ValS.addI64 ?_ ?_ ; omega))) | (refine GuardS.keep ?_; first | refine GuardS.T1 rfl (by omega) ?_ | refine GuardS.T0 rfl (by omega) ?_) | (refine CondS.keep ?_; first | refine CondS.d0 rfl (by omega) ?_))
      intro x3
      repeat (first | (refine QuG.keep ?_; first | refine QuG.l1E cok 1 rfl rfl rfl rfl rfl (by first | exact Nat.le_of_ble_eq_true rfl | omega | (dsimp only; omega) | (simp only [addS_eq, mulS_eq]; omega)) (by assumption) ?_) | refine SeqS.go cok ?_ | refine And.intro (Eq.refl true) ?_ | refine And.intro (by dsimp only; omega) ?_ | (refine NatS.keep ?_; first | with_reducible refine NatS.nat ?_) | (refine ValS.keep ?_; first | (with_reducible refine ValS.kI64 ?_; first | (with_reducible refine ValS.convI64 ?_ ?_ ; omega) | (with_reducible refine ValS.addI64_L ?_ ?_ ; omega) | (with_reducible refine ValS.subI64_M ?_ ?_ ?_ ; omega; omega))) | refine W.drawI 15 cok [0, 1, 3, 0, 8, 24, 56, 0, 248, 511] [0, 1, 2, 3, 4, 5, 6, 7, 8, 9] [6] (by kernel_rfl) (by kernel_rfl) ?_ | (refine CondS.keep ?_; first | refine CondS.d1 rfl (by omega) ?_))
      refine ValS.cast (hsv2 x3) ?_
      repeat (first | (refine QuG.keep ?_; first | refine QuG.l1E cok 1 rfl rfl rfl rfl rfl (by first | exact Nat.le_of_ble_eq_true rfl | omega | (dsimp only; omega) | (simp only [addS_eq, mulS_eq]; omega)) (by assumption) ?_) | refine And.intro (Eq.refl true) ?_ | refine And.intro (by omega) ?_ | (refine NatS.keep ?_; first | with_reducible refine NatS.nat ?_) | (refine ValS.keep ?_; first | (with_reducible refine ValS.slN ?_ ?_; omega)))
      refine OpG.keep ?_
      refine OpG.copyQ cok 0 (q := q) (by show min (L - (pc + 1)) (32 - (32 - n)) = q; omega) rfl (y := x) (.inl hxI) rfl rfl rfl rfl rfl rfl rfl ?_ ?_ ?_ ?_
      · show addS 0 (mulS (32 - n) 1) + mulS q 1 ≤ 32; rw [hao2, mulS_eq]; omega
      · show addS off (mulS (pc + 1) 1) + mulS q 1 ≤ x.sz; rw [hao, mulS_eq]; omega
      · intro p hp
        have hp : p < mulS q 1 := hp
        rw [mulS_eq] at hp
        show one (x.c (addS off (mulS (pc + 1) 1) + p)) = true
        rw [hao, Nat.add_assoc, hb2 _ (by omega)]; rfl
      repeat (first | (refine QuG.keep ?_; refine QuG.rowE cok (x := ⟨x3, 32, 22, _⟩) hrow2 (.inr List.mem_cons_self) rfl rfl rfl rfl rfl hbl h32 ?_) | refine SeqS.go cok ?_ | (refine still_in ?_; first | refine still_drop (by decide) ?_))
      refine (hu _).mono ?_
      rintro r _ - ⟨rfl, rfl⟩
      repeat (first | (refine ValS.keep ?_; first | (with_reducible refine ValS.kI64 ?_; first | (with_reducible refine ValS.addI64_M ?_ ?_ ; omega)) | (with_reducible refine ValS.kU16 ?_; first | (with_reducible refine ValS.convU16 ?_ ?_ ; omega))))
      refine CallG.behind [_] hse ?_
      rintro r J G1 hs ⟨c', hS, h1, h2⟩
      cases hS
      skip
      exact Fin.drop (⟨cb, sz, T, c'⟩ :: G) [_] ⟨c', rfl, h1, h2⟩)
  · have hrow : Row z_int__u8_0 0 (bvs (List.replicate (32 - n) 0 ++ cutL K.code (pc + 1) n)) := by
      rw [cut_past (by omega), List.replicate_append_replicate, show 32 - n + n = 32 by omega]; exact zr_row hz
    generalize List.replicate (32 - n) 0 ++ cutL K.code (pc + 1) n = bs at *
    generalize s ++ [bev (cutL K.code (pc + 1) n)] = s' at *
    generalize bev (cutL K.code (pc + 1) n) = w at *
    generalize hcl2 : K.code.length = L at *
    by_cases hn8 : n ≤ 8
    all_goals (
      refine CallG.start (C := mkC Hvaf.prog) cok (args := [ptr cb 0]) Hvaf.func326 rfl Hvaf.ntmps326 (by simp) (by kernel_rfl) ?_
      skip
      refine CallG.sameL [] hrn ?_
      repeat (first | refine SeqS.go cok ?_ | refine CondS.f rfl ?_)
      refine CallG.sameL [] hop ?_
      skip
      refine (him _).mono ?_
      rintro r _ - ⟨rfl, rfl⟩
      repeat (first | (refine QuG.keep ?_; first | refine QuG.l1E cok 0 rfl rfl rfl rfl rfl (by first | exact Nat.le_of_ble_eq_true rfl | omega | (dsimp only; omega) | (simp only [addS_eq, mulS_eq]; omega)) (by assumption) ?_) | refine SeqS.go cok ?_ | refine GuardS.yes rfl ?_ | refine GuardS.no rfl ?_ | refine CondS.f rfl ?_ | (refine ValS.keep ?_; first | (with_reducible refine ValS.kI64 ?_; first | (with_reducible refine ValS.convI64 ?_ ?_ ; omega) | (with_reducible refine ValS.addI64_L ?_ ?_ ; omega) | (with_reducible refine ValS.addI64 ?_ ?_ ; omega))) | (refine GuardS.keep ?_; first | refine GuardS.T1 rfl (by omega) ?_ | refine GuardS.T0 rfl (by omega) ?_) | (refine CondS.keep ?_; first | refine CondS.d0 rfl (by omega) ?_))
      intro x3
      repeat (first | (refine QuG.keep ?_; refine QuG.rowE cok (x := ⟨x3, 32, 22, _⟩) hrow (.inr List.mem_cons_self) rfl rfl rfl rfl rfl hbl h32 ?_) | (refine QuG.keep ?_; first | refine QuG.l1E cok 1 rfl rfl rfl rfl rfl (by first | exact Nat.le_of_ble_eq_true rfl | omega | (dsimp only; omega) | (simp only [addS_eq, mulS_eq]; omega)) (by assumption) ?_) | refine SeqS.go cok ?_ | (refine ValS.keep ?_; first | (with_reducible refine ValS.kI64 ?_; first | (with_reducible refine ValS.convI64 ?_ ?_ ; omega) | (with_reducible refine ValS.addI64_L ?_ ?_ ; omega))) | (refine CondS.keep ?_; first | refine CondS.d0 rfl (by omega) ?_))
      refine (hu _).mono ?_
      rintro r _ - ⟨rfl, rfl⟩
      repeat (first | (refine ValS.keep ?_; first | (with_reducible refine ValS.kI64 ?_; first | (with_reducible refine ValS.addI64_M ?_ ?_ ; omega)) | (with_reducible refine ValS.kU16 ?_; first | (with_reducible refine ValS.convU16 ?_ ?_ ; omega))))
      refine CallG.behind [_] hse ?_
      rintro r J G1 hs ⟨c', hS, h1, h2⟩
      cases hS
      skip
      exact Fin.drop (⟨cb, sz, T, c'⟩ :: G) [_] ⟨c', rfl, h1, h2⟩)
end Go.Proofs.YgvafwGreat
