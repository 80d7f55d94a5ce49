import Derived.Test.YgvafwGreatY76
import Derived.Test.YgvafwGreatHW
set_option exponentiation.threshold 1000
set_option maxRecDepth 100000
set_option maxHeartbeats 4000000
set_option linter.unusedVariables false
set_option linter.unusedSimpArgs false
-- v2
-- v4
-- v5
-- v6
-- v7
-- plus: (refine QuG.keep ?_; refine QuG.l1E cok 5 rfl rfl rfl rfl rfl (by first | exact Nat.le_of_ble_eq_true rfl | omega) (by assumption) ?_)
-- still: exact QuV.of (QuG.subL cok 0 rfl rfl rfl rfl rfl rfl (by assumption) (by assumption) (by first | exact Nat.le_of_ble_eq_true rfl | omega) rfl)
-- still: exact QuV.of (QuG.upC cok 0 rfl rfl rfl rfl rfl rfl (by first | exact Nat.le_of_ble_eq_true rfl | omega) (by first | exact Nat.le_of_ble_eq_true rfl | omega) (by assumption) rfl)
-- still: exact QuV.of (QuG.subL cok 1 rfl rfl rfl rfl rfl rfl (by assumption) (by assumption) (by first | exact Nat.le_of_ble_eq_true rfl | omega) rfl)
-- still: exact QuV.of (QuG.upC cok 1 rfl rfl rfl rfl rfl rfl (by first | exact Nat.le_of_ble_eq_true rfl | omega) (by first | exact Nat.le_of_ble_eq_true rfl | omega) (by assumption) rfl)
-- still: exact QuV.of (QuG.subL cok 2 rfl rfl rfl rfl rfl rfl (by assumption) (by assumption) (by first | exact Nat.le_of_ble_eq_true rfl | omega) rfl)
-- still: exact QuV.of (QuG.upC cok 2 rfl rfl rfl rfl rfl rfl (by first | exact Nat.le_of_ble_eq_true rfl | omega) (by first | exact Nat.le_of_ble_eq_true rfl | omega) (by assumption) rfl)
namespace Go.Proofs.YgvafwGreat
open Go.HL Go.Proofs

/-- A region and a statement behind it, and a relation behind both. -/
theorem _root_.Go.HL.SeqS.cutL {C : Cfg} {n : Nat} (k : Nat) {ops : Array Oper} {d : Bool} (hC : C.Ok) {b c : Code} {Q : HPost} {e : Env} {S : St} (J : Env → St → Prop) (h1 : W C n (.seq (.region k ops d) b) (thenQ (fun e' S' => Rel (J e') S') Q) e S) (h2 : ∀ e' S', Sub S.I S'.I → J e' S' → W C n c Q e' S') : SeqS C n (.seq (.seq (.region k ops d) b) c) Q e S := by
  refine ⟨fun hok => ?_⟩
  simp only [codeOk, Bool.and_eq_true] at hok
  refine .seq ((W_sound hC _ _ e S (by simp only [codeOk, Bool.and_eq_true]; exact hok.1) h1).mono fun x e' S' hs hx => ?_)
  cases x <;> simp only [thenQ] at hx ⊢ <;> first | exact hx | exact GW.rel (hx.mono fun S2 hs1 hj => W_sound hC c Q e' S2 hok.2 (h2 _ _ (hs.trans hs1) hj))
/-- What stands behind an account's copy whose slots are made. -/
def CloJ (b6 b5 ab b3 b2 : Nat) (R : List Ent) (v : Value) (J : Ent → Prop) (sls : List (Nat × Value)) (e' : Env) (S' : St) : Prop :=
  ∃ c6 c5 cA c3 c2, S' = ⟨J, ⟨b6, 24, 121, c6⟩ :: ⟨b5, 24, 121, upd c5 23 v⟩ :: ⟨ab, 48, 121, cA⟩ :: ⟨b3, 8, 112, upd c3 0 (HL.sl ab 0 2 2)⟩ :: ⟨b2, 8, 112, c2⟩ :: R⟩ ∧ (∀ k, k < 24 → one (c6 k) = true) ∧ (∀ k, k < 8 → one (c3 k) = true) ∧ slots sls e'
theorem upd_id {c : Nat → Value} {i : Nat} {v : Value} (h : c i = v) : upd c i v = c := by
  funext k
  unfold upd
  split
  · rename_i hk
    rw [← h, hk]
  · rfl
theorem set_o {l : List Value} {i n : Nat} {v : Value} (hl : l.length = n) (ho : ∀ u ∈ l, one u = true) (hv : one v = true) : (l.set i v).length = n ∧ ∀ u ∈ l.set i v, one u = true :=
  ⟨by rw [List.length_set]; exact hl, fun u hu => (List.mem_or_eq_of_mem_set hu).elim (ho u) fun e => e ▸ hv⟩
theorem cloJ {b6 b5 ab b3 b2 : Nat} {R : List Ent} {v : Value} {J : Ent → Prop} {sls : List (Nat × Value)} {e' : Env} {c6 c5 cA c3 c2 : Nat → Value} (e5 : c5 23 = v) (e3 : c3 0 = HL.sl ab 0 2 2) (o6 : ∀ k, k < 24 → one (c6 k) = true) (o3 : ∀ k, k < 8 → one (c3 k) = true) (hsl : slots sls e') : CloJ b6 b5 ab b3 b2 R v J sls e' ⟨J, ⟨b6, 24, 121, c6⟩ :: ⟨b5, 24, 121, c5⟩ :: ⟨ab, 48, 121, cA⟩ :: ⟨b3, 8, 112, c3⟩ :: ⟨b2, 8, 112, c2⟩ :: R⟩ :=
  ⟨c6, c5, cA, c3, c2, by rw [upd_id e5, upd_id e3], o6, o3, hsl⟩
theorem updN_on {z : Nat → Value} {vs : List Value} {n : Nat} (hl : vs.length = n) (ho : ∀ u ∈ vs, one u = true) : ∀ k, k < n → one (HL.updN z 0 vs k) = true := fun k hk => by
  have e := updN_get (c := z) (o := 0) (vs := vs) (i := k) (by omega)
  rw [Nat.zero_add] at e
  rw [e, List.getD_eq_getElem?_getD, List.getElem?_eq_getElem (by omega)]
  exact ho _ (List.getElem_mem _)
theorem bvs_ones (al : List (List Nat)) : ∀ l ∈ al.map bvs, ∀ u ∈ l, one u = true := fun l hl u hu => by
  obtain ⟨a, _, rfl⟩ := List.mem_map.1 hl
  exact one_bvs _ u hu
theorem cells_o {c : Nat → Value} {n : Nat} (h : ∀ k, k < n → one (c k) = true) : ∀ u ∈ cellsFrom c 0 n, one u = true := fun u hu => by
  obtain ⟨i, hi, rfl⟩ := List.mem_iff_getElem.1 hu
  have hl : (cellsFrom c 0 n).length = n := by simp
  have e := cellsFrom_get c 0 n i (by omega)
  rw [List.getElem?_eq_getElem hi, Nat.zero_add] at e
  rw [Option.some.inj e]
  exact h i (by omega)
theorem upd_o {c : Nat → Value} {v : Value} {i n : Nat} (h : ∀ k, k < n → one (c k) = true) (hv : one v = true) : ∀ k, k < n → one (upd c i v k) = true := fun k hk => by
  unfold upd
  split
  · exact hv
  · exact h k hk
theorem yLogs0 {I : Ent → Prop} {G : List Ent} {a : Option Addr} {c : Nat} : CallG Hvaf.prog 81 #[.slice a 0 c] ⟨I, G⟩ fun r S' => S'.G = G ∧ ∃ a n c, r = .slice a n c := by
  cases a with
  | none =>
    refine CallG.start (C := mkC Hvaf.prog) cok (args := [.slice none 0 c]) Hvaf.func81 rfl Hvaf.ntmps81 (by simp) (by kernel_rfl) ?_
    repeat (first | refine SeqS.go cok ?_ | refine CondS.t rfl ?_)
    exact Fin.same ⟨rfl, _, _, _, rfl⟩
  | some ad =>
    refine CallG.start (C := mkC Hvaf.prog) cok (args := [.slice (some ad) 0 c]) Hvaf.func81 rfl Hvaf.ntmps81 (by simp) (by kernel_rfl) ?_
    repeat (first | refine SeqS.go cok ?_ | refine CondS.f rfl ?_ | refine And.intro ⟨by omega, by omega⟩ ?_ | (refine NatS.keep ?_; first | with_reducible refine NatS.nat ?_))
    intro ob
    repeat (first | refine SeqS.go cok ?_)
    refine W.rounds cok (by kernel_rfl) 1 ?_
    repeat (first | refine SeqS.go cok ?_ | refine CondS.f rfl ?_)
    exact Fin.drop G [_] ⟨rfl, _, _, _, rfl⟩
/-- yp.World.clone of a world with two accounts that have no slots: what is in the copy is not said -/
theorem yCloneW {I : Ent → Prop} {G : List Ent} {sb ssz : Nat} {Ts : TypeId} {cs : Nat → Value} {a1 a2 : YA} {wa md : List (List Nat)} {vss : List (List Value)} {n : Nat} {ma la ta : Option Addr} {mc lc tc : Nat} (hsz : 8 ≤ ssz) (hR : RowI I 24 (cs 0) vss) (hv2 : vss.length = 2) (h1 : AcctC I (vss.getD 0 []) a1) (h2 : AcctC I (vss.getD 1 []) a2) (z1 : a1.slots = []) (z2 : a2.slots = []) (hw : RowI I 20 (cs 1) (wa.map bvs)) (hwl : wa.length < 2 ^ 20)
    (c2 : cs 2 = .slice ma 0 mc) (c3 : NatI I (cs 3) n) (c4 : cs 4 = .slice la 0 lc) (c5 : cs 5 = .slice ta 0 tc) (c6 : RowI I 20 (cs 6) (md.map bvs)) (hml : md.length < 2 ^ 20) (c7 : cs 7 = .slice none 0 0) :
    CallG Hvaf.prog 141 #[ptr sb 0] ⟨I, ⟨sb, ssz, Ts, cs⟩ :: G⟩ fun r S' => S'.G = ⟨sb, ssz, Ts, cs⟩ :: G ∧ ∃ vs, r = .agg (List.toArray vs) ∧ vs.length = 8 ∧ ∀ u ∈ vs, one u = true := by
  obtain ⟨ad, cap, hc0⟩ := hR.form
  rw [hc0] at hR
  rw [hv2] at hc0
  obtain ⟨x, o, rfl, hx, hE⟩ := hR.some (by omega)
  obtain ⟨l1, e1⟩ : ∃ l, vss.getD 0 [] = l := ⟨_, rfl⟩
  obtain ⟨l2, e2⟩ : ∃ l, vss.getD 1 [] = l := ⟨_, rfl⟩
  rw [e1] at h1
  rw [e2] at h2
  have q1 := h1.len
  have q2 := h1.one
  have q7 := h1.ad
  have q8 := h1.ok.bv
  have r1 := h2.len
  have r2 := h2.one
  have r7 := h2.ad
  have r8 := h2.ok.bv
  obtain ⟨nv1, bv1, cv1, sv1, q3, q4, q5, q6, n1, b1, k1, s1⟩ := h1.get
  obtain ⟨nv2, bv2, cv2, sv2, r3, r4, r5, r6, n2, bb2, k2, s2⟩ := h2.get
  rw [z1] at s1
  rw [z2] at s2
  obtain ⟨ss1, f1, g1, -⟩ := s1.out
  obtain ⟨ss2, f2, g2, -⟩ := s2.out
  obtain ⟨sa1, sc1, rfl⟩ := f1.form
  obtain ⟨sa2, sc2, rfl⟩ := f2.form
  rw [g1] at q6
  rw [g2] at r6
  replace q6 : l1.getD 23 undef = .slice sa1 0 sc1 := q6
  replace r6 : l2.getD 23 undef = .slice sa2 0 sc2 := r6
  have hq23 : HL.updN z121 0 l1 23 = .slice sa1 0 sc1 := by rw [← q6]; exact updN_get (o := 0) (i := 23) (by omega)
  have hr23 : HL.updN z121 0 l2 23 = .slice sa2 0 sc2 := by rw [← r6]; exact updN_get (o := 0) (i := 23) (by omega)
  have hrd : ∀ G, Rd ⟨I, G⟩ x := fun _ => .inl hx
  obtain ⟨wad, wcap, hc1⟩ := hw.form
  rw [hc1] at hw
  obtain ⟨mad, mcap, hc6⟩ := c6.form
  rw [hc6] at c6
  have hmR := c6
  refine CallG.start (C := mkC Hvaf.prog) cok (args := [ptr sb 0]) Hvaf.func141 rfl Hvaf.ntmps141 (by simp) (by kernel_rfl) ?_
  intro b2
  repeat (first | (refine QuG.keep ?_; first | refine QuG.l1E cok 1 rfl rfl rfl rfl rfl (by first | exact Nat.le_of_ble_eq_true rfl | omega | (dsimp only; omega) | (simp only [addS_eq, mulS_eq]; omega)) (by assumption) ?_) | refine SeqS.go cok ?_ | (refine QuG.keep ?_; first | refine QuG.l1 cok 1 rfl rfl rfl rfl rfl (by first | exact Nat.le_of_ble_eq_true rfl | omega | (dsimp only; omega) | (simp only [addS_eq, mulS_eq]; omega)) ?_) | refine W.drawI 1 cok [0, 1, 3, 7, 15, 0, 32, 96, 224, 511, 1023, 0, 4095] [0, 1, 2, 3, 5, 6, 7, 8, 4, 9, 10, 11, 12] [3, 8] (by kernel_rfl) (by kernel_rfl) ?_)
  refine callNS (yNatOf c3) fun na nm nc J1 hs1 hnv => ?_
  have hrd1 : ∀ G, Rd ⟨J1, G⟩ x := fun _ => .inl (hs1 _ hx)
  repeat (first | (refine still_in ?_; first | refine still_nil ?_ | refine still_drop (by decide) ?_ | (refine still_keep (by decide) rfl ?_ ?_; first | exact QuV.l1 cok 1 rfl rfl rfl rfl rfl (by first | exact Nat.le_of_ble_eq_true rfl | omega | (dsimp only; omega) | (simp only [addS_eq, mulS_eq]; omega)) (by assumption))))
  refine yLogs0.mono ?_
  rintro r ⟨J1', _⟩ hs1' ⟨rfl, lga, lgn, lgc, rfl⟩
  replace hs1' : HL.Sub J1 J1' := hs1'
  replace hs1 : HL.Sub I J1 := hs1
  have hsI := hs1.trans hs1'
  have hrd2 : ∀ G, Rd ⟨J1', G⟩ x := fun _ => .inl (hsI _ hx)
  repeat (first | refine And.intro (fillOk_of (Eq.refl true)) ?_ | refine And.intro (Eq.refl true) ?_ | (refine still_in ?_; first | refine still_drop (by decide) ?_))
  intro b3
  repeat (first | (refine QuG.keep ?_; first | refine QuG.l1E cok 2 rfl rfl rfl rfl rfl (by first | exact Nat.le_of_ble_eq_true rfl | omega | (dsimp only; omega) | (simp only [addS_eq, mulS_eq]; omega)) (by assumption) ?_) | refine SeqS.go cok ?_ | refine CondS.t rfl ?_ | refine And.intro (by dsimp only; omega) ?_ | (refine NatS.keep ?_; first | with_reducible refine NatS.nat ?_) | (refine still_in ?_; first | refine still_drop (by decide) ?_) | (refine OpG.keep ?_; first | refine OpG.sL cok 0 rfl rfl rfl rfl rfl rfl rfl (by first | exact Nat.le_of_ble_eq_true rfl | omega | (dsimp only; omega) | (simp only [addS_eq, mulS_eq]; omega)) ?_))
  intro ab
  repeat (first | (refine OpG.keep ?_; first | refine OpG.upF cok 1 rfl rfl rfl rfl rfl rfl (by first | exact Nat.le_of_ble_eq_true rfl | omega) (by first | exact Nat.le_of_ble_eq_true rfl | omega) rfl (by first | rfl | assumption) ?_) | (refine QuG.keep ?_; first | refine QuG.l1E cok 3 rfl rfl rfl rfl rfl (by first | exact Nat.le_of_ble_eq_true rfl | omega | (dsimp only; omega) | (simp only [addS_eq, mulS_eq]; omega)) (by assumption) ?_) | refine SeqS.go cok ?_)
  refine W.rounds cok (by kernel_rfl) 3 ?_
  repeat (first | (refine QuG.keep ?_; first | refine QuG.elE cok _ (by assumption) (by first | assumption | exact ‹∀ G, Rd ⟨_, G⟩ _› _) (by assumption) rfl rfl rfl rfl rfl (by omega) ?_) | refine SeqS.go cok ?_ | refine CondS.t rfl ?_ | refine And.intro (by omega) ?_ | (refine NatS.keep ?_; first | with_reducible refine NatS.lit ?_))
  intro b5
  repeat (first | (refine QuG.keep ?_; first | refine QuG.subL cok 0 rfl rfl rfl rfl rfl rfl (by assumption) (by assumption) (by first | exact Nat.le_of_ble_eq_true rfl | omega) ?_ | refine QuG.upC cok 0 rfl rfl rfl rfl rfl rfl (by first | exact Nat.le_of_ble_eq_true rfl | omega) (by first | exact Nat.le_of_ble_eq_true rfl | omega) (by assumption) ?_) | (refine OpG.keep ?_; first | refine OpG.upS cok 0 rfl rfl rfl rfl rfl (by assumption) (by first | assumption | exact one_bvs _) (by first | exact Nat.le_of_ble_eq_true rfl | omega) ?_) | refine SeqS.go cok ?_ | refine W.drawI 7 cok [0, 1, 0, 4, 12, 0, 32, 124, 0, 256, 1020, 2047, 0, 8191] [0, 1, 2, 3, 5, 6, 8, 9, 4, 7, 10, 11, 12, 13] [1, 3, 6, 9] (by kernel_rfl) (by kernel_rfl) ?_)
  refine callNS (yNatOf (n1.up hsI)) fun na1 nm1 nc1 J2 hs2 hnw1 => ?_
  repeat (first | (refine still_in ?_; first | refine still_nil ?_ | refine still_drop (by decide) ?_ | (refine still_keep (by decide) rfl ?_ ?_; first | exact QuV.of (QuG.subL cok 0 rfl rfl rfl rfl rfl rfl (by assumption) (by assumption) (by first | exact Nat.le_of_ble_eq_true rfl | omega) rfl) | exact QuV.of (QuG.upC cok 0 rfl rfl rfl rfl rfl rfl (by first | exact Nat.le_of_ble_eq_true rfl | omega) (by first | exact Nat.le_of_ble_eq_true rfl | omega) (by assumption) rfl))))
  refine callNS (yNatOf (b1.up (hsI.trans hs2))) fun ba1 bm1 bc1 J3 hs3 hbw1 => ?_
  repeat (first | (refine still_in ?_; first | refine still_nil ?_ | refine still_drop (by decide) ?_ | (refine still_keep (by decide) rfl ?_ ?_; first | exact QuV.of (QuG.subL cok 0 rfl rfl rfl rfl rfl rfl (by assumption) (by assumption) (by first | exact Nat.le_of_ble_eq_true rfl | omega) rfl) | exact QuV.of (QuG.upC cok 0 rfl rfl rfl rfl rfl rfl (by first | exact Nat.le_of_ble_eq_true rfl | omega) (by first | exact Nat.le_of_ble_eq_true rfl | omega) (by assumption) rfl))))
  refine callBS (yBytesOf (Byt.ext (k1.mono ((hsI.trans hs2).trans hs3) (by simp)))) fun ca1 cc1 J4 hs4 hcw1 => ?_
  have hA1 := build_ac4 h1.ok (z := z121) (a1 := na1) (n1 := nm1) (c1 := nc1) (a2 := ba1) (n2 := bm1) (c2 := bc1) (a3 := ca1) (n3 := a1.code.length) (c3 := cc1) rfl
  replace hs2 : HL.Sub J1' J2 := hs2
  replace hs3 : HL.Sub J2 J3 := hs3
  replace hs4 : HL.Sub J3 J4 := hs4
  have hm1 : Ac0 J4 (bvs a1.addr ++ [.slice na1 nm1 nc1, .slice ba1 bm1 bc1, .slice ca1 a1.code.length cc1, .slice none 0 0]) a1 := ⟨h1.ok, z1, _, _, _, rfl, (hnw1.up hs3).up hs4, hbw1.up hs4, hcw1⟩
  have m1l := hm1.acct.len
  have m1o := hm1.acct.one
  repeat (first | refine And.intro ⟨⟨by assumption, Nat.le_of_ble_eq_true rfl⟩, fillOk_of (Eq.refl true)⟩ ?_ | refine And.intro (Eq.refl true) ?_ | (refine still_in ?_; first | refine still_drop (by decide) ?_ | (refine still_keep (by decide) rfl ?_ ?_; first | exact QuV.of (QuG.subL cok 0 rfl rfl rfl rfl rfl rfl (by assumption) (by assumption) (by first | exact Nat.le_of_ble_eq_true rfl | omega) rfl))))
  intro b6
  skip
  refine OpG.keep ?_
  refine OpG.upS cok 0 (vs := bvs a1.addr ++ [.slice na1 nm1 nc1, .slice ba1 bm1 bc1, .slice ca1 a1.code.length cc1, .slice none 0 0]) rfl rfl rfl rfl ?_ m1l m1o (Nat.le_of_ble_eq_true rfl) ?_
  · exact congrArg (fun l => Value.agg l.toArray) hA1
  repeat (first | (refine SeqS.cutL 8 cok (CloJ b6 b5 ab b3 b2 (⟨sb, ssz, Ts, cs⟩ :: G) (.slice sa1 0 sc1) J4 [(0, ptr sb 0), (2, ptr b2 0), (3, ptr b3 0), (4, .int .i64 0), (5, ptr b5 0), (6, ptr b6 0), (39, HL.sl x.b o 2 cap), (40, .int .i64 2), (41, .int .i64 0)]) ?_ ?_) | (refine QuG.keep ?_; first | refine QuG.l1E cok 1 rfl rfl rfl rfl rfl (by first | exact Nat.le_of_ble_eq_true rfl | omega | (dsimp only; omega) | (simp only [addS_eq, mulS_eq]; omega)) (by assumption) ?_) | refine SeqS.go cok ?_ | (refine still_in ?_; first | refine still_drop (by decide) ?_))
  · cases sa1 with
    | none =>
      repeat (first | refine CondS.f rfl ?_)
      refine Rel.same (cloJ hq23 rfl (updN_on m1l m1o) ?_ ⟨rfl, rfl, rfl, rfl, rfl, rfl, rfl, rfl, rfl, trivial⟩)
      exact updN_on (z := z112) (vs := [HL.sl ab 0 2 2, .slice none 0 0, .slice none 0 0, .slice na nm nc, .slice lga lgn lgc, .slice none 0 0, .slice none 0 0, .slice none 0 0]) rfl (List.all_eq_true.1 rfl)
    | some sad =>
      repeat (first | (refine QuG.keep ?_; first | refine QuG.l1E cok 1 rfl rfl rfl rfl rfl (by first | exact Nat.le_of_ble_eq_true rfl | omega | (dsimp only; omega) | (simp only [addS_eq, mulS_eq]; omega)) (by assumption) ?_) | refine CondS.t rfl ?_ | refine And.intro ⟨by omega, by omega⟩ ?_ | (refine NatS.keep ?_; first | with_reducible refine NatS.nat ?_))
      intro ob
      repeat (first | (refine OpG.keep ?_; first | refine OpG.upF cok 1 rfl rfl rfl rfl rfl rfl (by first | exact Nat.le_of_ble_eq_true rfl | omega) (by first | exact Nat.le_of_ble_eq_true rfl | omega) rfl (by first | rfl | assumption) ?_))
      refine Rel.drop _ [_] (cloJ hq23 rfl (updN_on (set_o m1l m1o rfl).1 (set_o m1l m1o rfl).2) ?_ ⟨rfl, rfl, rfl, rfl, rfl, rfl, rfl, rfl, rfl, trivial⟩)
      exact updN_on (z := z112) (vs := [HL.sl ab 0 2 2, .slice none 0 0, .slice none 0 0, .slice na nm nc, .slice lga lgn lgc, .slice none 0 0, .slice none 0 0, .slice none 0 0]) rfl (List.all_eq_true.1 rfl)
  · rintro e' _ hsJ ⟨c6, c5, cA, c3, c2', rfl, ho6, ho3, hsl⟩
    refine W.slots _ hsl fun e => ?_
    repeat (first | refine SeqS.go cok ?_ | (refine QuG.keep ?_; first | refine QuG.l1 cok 1 rfl rfl rfl rfl rfl (by first | exact Nat.le_of_ble_eq_true rfl | omega | (dsimp only; omega) | (simp only [addS_eq, mulS_eq]; omega)) ?_))
    refine W.rounds cok (by kernel_rfl) 1 ?_
    have hc6 := cells_o ho6
    have hsA : HL.Sub I J4 := ((hsI.trans hs2).trans hs3).trans hs4
    have hrd4 : ∀ G, Rd ⟨J4, G⟩ x := fun _ => .inl (hsA _ hx)
    repeat (first | (refine OpG.keep ?_; refine OpG.upS cok 2 (vs := cellsFrom c6 0 24) rfl rfl rfl rfl rfl (by simp) hc6 (Nat.le_of_ble_eq_true rfl) ?_) | (refine QuG.keep ?_; first | refine QuG.elE cok _ (by assumption) (by first | assumption | exact ‹∀ G, Rd ⟨_, G⟩ _› _) (by assumption) rfl rfl rfl rfl rfl (by omega) ?_) | refine SeqS.go cok ?_ | refine CondS.t rfl ?_ | refine CondS.f rfl ?_ | refine And.intro (by omega) ?_ | (refine NatS.keep ?_; first | with_reducible refine NatS.lit ?_ | with_reducible refine NatS.nat ?_) | (refine ValS.keep ?_; first | (with_reducible refine ValS.kI64 ?_; first | (with_reducible refine ValS.addI64_LL ?_ ?_ ; omega))) | (refine QuG.keep ?_; first | refine QuG.l1 cok 3 rfl rfl rfl rfl rfl (by first | exact Nat.le_of_ble_eq_true rfl | omega | (dsimp only; omega) | (simp only [addS_eq, mulS_eq]; omega)) ?_ | refine QuG.lN cok 0 rfl rfl rfl rfl rfl (by first | exact Nat.le_of_ble_eq_true rfl | omega | (dsimp only; omega) | (simp only [addS_eq, mulS_eq]; omega)) ?_))
    intro b7
    repeat (first | (refine QuG.keep ?_; first | refine QuG.subL cok 0 rfl rfl rfl rfl rfl rfl (by assumption) (by assumption) (by first | exact Nat.le_of_ble_eq_true rfl | omega) ?_ | refine QuG.upC cok 0 rfl rfl rfl rfl rfl rfl (by first | exact Nat.le_of_ble_eq_true rfl | omega) (by first | exact Nat.le_of_ble_eq_true rfl | omega) (by assumption) ?_) | (refine OpG.keep ?_; first | refine OpG.upS cok 0 rfl rfl rfl rfl rfl (by assumption) (by first | assumption | exact one_bvs _) (by first | exact Nat.le_of_ble_eq_true rfl | omega) ?_) | refine SeqS.go cok ?_ | refine W.drawI 7 cok [0, 1, 0, 4, 12, 0, 32, 124, 0, 256, 1020, 2047, 0, 8191] [0, 1, 2, 3, 5, 6, 8, 9, 4, 7, 10, 11, 12, 13] [1, 3, 6, 9] (by kernel_rfl) (by kernel_rfl) ?_)
    refine CallG.drop12 ?_
    refine callNS (yNatOf (n2.up hsA)) fun na2 nm2 nc2 J5 hs5 hnw2 => ?_
    repeat (first | (refine still_in ?_; first | refine still_nil ?_ | refine still_drop (by decide) ?_ | (refine still_keep (by decide) rfl ?_ ?_; first | exact QuV.of (QuG.subL cok 0 rfl rfl rfl rfl rfl rfl (by assumption) (by assumption) (by first | exact Nat.le_of_ble_eq_true rfl | omega) rfl) | exact QuV.of (QuG.upC cok 0 rfl rfl rfl rfl rfl rfl (by first | exact Nat.le_of_ble_eq_true rfl | omega) (by first | exact Nat.le_of_ble_eq_true rfl | omega) (by assumption) rfl))))
    refine callNS (yNatOf (bb2.up (hsA.trans hs5))) fun ba2 bm2 bc2 J6 hs6 hbw2 => ?_
    repeat (first | (refine still_in ?_; first | refine still_nil ?_ | refine still_drop (by decide) ?_ | (refine still_keep (by decide) rfl ?_ ?_; first | exact QuV.of (QuG.subL cok 0 rfl rfl rfl rfl rfl rfl (by assumption) (by assumption) (by first | exact Nat.le_of_ble_eq_true rfl | omega) rfl) | exact QuV.of (QuG.upC cok 0 rfl rfl rfl rfl rfl rfl (by first | exact Nat.le_of_ble_eq_true rfl | omega) (by first | exact Nat.le_of_ble_eq_true rfl | omega) (by assumption) rfl))))
    refine callBS (yBytesOf (Byt.ext (k2.mono ((hsA.trans hs5).trans hs6) (by simp)))) fun ca2 cc2 J7 hs7 hcw2 => ?_
    have hA2 := build_ac4 h2.ok (z := z121) (a1 := na2) (n1 := nm2) (c1 := nc2) (a2 := ba2) (n2 := bm2) (c2 := bc2) (a3 := ca2) (n3 := a2.code.length) (c3 := cc2) rfl
    replace hs5 : HL.Sub J4 J5 := hs5
    replace hs6 : HL.Sub J5 J6 := hs6
    replace hs7 : HL.Sub J6 J7 := hs7
    have hm2 : Ac0 J7 (bvs a2.addr ++ [.slice na2 nm2 nc2, .slice ba2 bm2 bc2, .slice ca2 a2.code.length cc2, .slice none 0 0]) a2 := ⟨h2.ok, z2, _, _, _, rfl, (hnw2.up hs6).up hs7, hbw2.up hs7, hcw2⟩
    have m2l := hm2.acct.len
    have m2o := hm2.acct.one
    have hsB : HL.Sub I J7 := ((hsA.trans hs5).trans hs6).trans hs7
    repeat (first | refine And.intro ⟨⟨by assumption, Nat.le_of_ble_eq_true rfl⟩, fillOk_of (Eq.refl true)⟩ ?_ | refine And.intro (Eq.refl true) ?_ | (refine still_in ?_; first | refine still_drop (by decide) ?_ | (refine still_keep (by decide) rfl ?_ ?_; first | exact QuV.of (QuG.subL cok 0 rfl rfl rfl rfl rfl rfl (by assumption) (by assumption) (by first | exact Nat.le_of_ble_eq_true rfl | omega) rfl))))
    intro b8
    skip
    refine OpG.keep ?_
    refine OpG.upS cok 0 (vs := bvs a2.addr ++ [.slice na2 nm2 nc2, .slice ba2 bm2 bc2, .slice ca2 a2.code.length cc2, .slice none 0 0]) rfl rfl rfl rfl ?_ m2l m2o (Nat.le_of_ble_eq_true rfl) ?_
    · exact congrArg (fun l => Value.agg l.toArray) hA2
    repeat (first | (refine SeqS.cutL 8 cok (CloJ b8 b7 ab b3 b2 (⟨sb, ssz, Ts, cs⟩ :: G) (.slice sa2 0 sc2) J7 [(0, ptr sb 0), (2, ptr b2 0), (3, ptr b3 0), (4, .int .i64 1), (5, ptr b7 0), (6, ptr b8 0), (39, HL.sl x.b o 2 cap), (40, .int .i64 2), (41, .int .i64 1)]) ?_ ?_) | (refine QuG.keep ?_; first | refine QuG.l1E cok 1 rfl rfl rfl rfl rfl (by first | exact Nat.le_of_ble_eq_true rfl | omega | (dsimp only; omega) | (simp only [addS_eq, mulS_eq]; omega)) (by assumption) ?_) | refine SeqS.go cok ?_ | (refine still_in ?_; first | refine still_drop (by decide) ?_))
    · cases sa2 with
      | none =>
        repeat (first | refine CondS.f rfl ?_)
        exact Rel.same (cloJ hr23 rfl (updN_on m2l m2o) (upd_o ho3 rfl) ⟨rfl, rfl, rfl, rfl, rfl, rfl, rfl, rfl, rfl, trivial⟩)
      | some sad2 =>
        repeat (first | (refine QuG.keep ?_; first | refine QuG.l1E cok 1 rfl rfl rfl rfl rfl (by first | exact Nat.le_of_ble_eq_true rfl | omega | (dsimp only; omega) | (simp only [addS_eq, mulS_eq]; omega)) (by assumption) ?_) | refine CondS.t rfl ?_ | refine And.intro ⟨by omega, by omega⟩ ?_ | (refine NatS.keep ?_; first | with_reducible refine NatS.nat ?_))
        intro ob2
        repeat (first | (refine OpG.keep ?_; first | refine OpG.upF cok 1 rfl rfl rfl rfl rfl rfl (by first | exact Nat.le_of_ble_eq_true rfl | omega) (by first | exact Nat.le_of_ble_eq_true rfl | omega) rfl (by first | rfl | assumption) ?_))
        exact Rel.drop _ [_] (cloJ hr23 rfl (updN_on (set_o m2l m2o rfl).1 (set_o m2l m2o rfl).2) (upd_o ho3 rfl) ⟨rfl, rfl, rfl, rfl, rfl, rfl, rfl, rfl, rfl, trivial⟩)
    · clear hsl
      rintro e'' _ hsJ2 ⟨d6, d5, dA, d3, d2, rfl, hp6, hp3, hsl⟩
      refine W.slots _ hsl fun e2 => ?_
      repeat (first | refine SeqS.go cok ?_ | (refine QuG.keep ?_; first | refine QuG.l1 cok 1 rfl rfl rfl rfl rfl (by first | exact Nat.le_of_ble_eq_true rfl | omega | (dsimp only; omega) | (simp only [addS_eq, mulS_eq]; omega)) ?_))
      refine W.rounds cok (by kernel_rfl) 1 ?_
      have hd6 := cells_o hp6
      repeat (first | (refine OpG.keep ?_; refine OpG.upS cok 2 (vs := cellsFrom d6 0 24) rfl rfl rfl rfl rfl (by simp) hd6 (Nat.le_of_ble_eq_true rfl) ?_) | (refine QuG.keep ?_; refine QuG.l1E cok 5 rfl rfl rfl rfl rfl (by first | exact Nat.le_of_ble_eq_true rfl | omega) (by assumption) ?_) | refine SeqS.go cok ?_ | refine CondS.f rfl ?_ | refine And.intro (by omega) ?_ | (refine NatS.keep ?_; first | with_reducible refine NatS.lit ?_) | (refine ValS.keep ?_; first | (with_reducible refine ValS.kI64 ?_; first | (with_reducible refine ValS.addI64_LL ?_ ?_ ; omega))) | (refine QuG.keep ?_; first | refine QuG.l1 cok 3 rfl rfl rfl rfl rfl (by first | exact Nat.le_of_ble_eq_true rfl | omega | (dsimp only; omega) | (simp only [addS_eq, mulS_eq]; omega)) ?_ | refine QuG.lN cok 0 rfl rfl rfl rfl rfl (by first | exact Nat.le_of_ble_eq_true rfl | omega | (dsimp only; omega) | (simp only [addS_eq, mulS_eq]; omega)) ?_))
      refine callRS (yAddrsOf (hw.up hsB) (bvs_ones wa) (by rw [List.length_map]; exact hwl)) fun wa9 wc9 J8 hs8 hw9 => ?_
      replace hs8 : HL.Sub J7 J8 := hs8
      repeat (first | (refine QuG.keep ?_; refine QuG.l1E cok 5 rfl rfl rfl rfl rfl (by first | exact Nat.le_of_ble_eq_true rfl | omega) (by assumption) ?_) | refine SeqS.go cok ?_ | (refine OpG.keep ?_; first | refine OpG.s1 cok 3 rfl rfl rfl rfl rfl (by first | exact Nat.le_of_ble_eq_true rfl | omega | (dsimp only; omega) | (simp only [addS_eq, mulS_eq]; omega)) rfl rfl ?_))
      refine callRS (yAddrsOf (hmR.up (hsB.trans hs8)) (bvs_ones md) (by rw [List.length_map]; exact hml)) fun mda mdc J9 hs9 hmd9 => ?_
      replace hs9 : HL.Sub J8 J9 := hs9
      repeat (first | (refine QuG.keep ?_; refine QuG.l1E cok 5 rfl rfl rfl rfl rfl (by first | exact Nat.le_of_ble_eq_true rfl | omega) (by assumption) ?_) | refine SeqS.go cok ?_ | (refine OpG.keep ?_; first | refine OpG.s1 cok 3 rfl rfl rfl rfl rfl (by first | exact Nat.le_of_ble_eq_true rfl | omega | (dsimp only; omega) | (simp only [addS_eq, mulS_eq]; omega)) rfl rfl ?_))
      refine yAddrsNil.mono ?_
      rintro r _ - ⟨rfl, rfl⟩
      repeat (first | (refine SeqS.cutL 20 cok (fun e' S' => ∃ c3, S' = ⟨J9, ⟨b3, 8, 112, c3⟩ :: ⟨b2, 8, 112, d2⟩ :: ⟨sb, ssz, Ts, cs⟩ :: G⟩ ∧ (∀ k, k < 8 → one (c3 k) = true) ∧ slots [(0, ptr sb 0), (2, ptr b2 0), (3, ptr b3 0)] e') ?_ ?_) | (refine QuG.keep ?_; refine QuG.l1E cok 5 rfl rfl rfl rfl rfl (by first | exact Nat.le_of_ble_eq_true rfl | omega) (by assumption) ?_) | refine SeqS.go cok ?_ | (refine OpG.keep ?_; first | refine OpG.s1 cok 3 rfl rfl rfl rfl rfl (by first | exact Nat.le_of_ble_eq_true rfl | omega | (dsimp only; omega) | (simp only [addS_eq, mulS_eq]; omega)) rfl rfl ?_))
      · have hu3 := upd_o (i := 7) (v := .slice none 0 0) (upd_o (i := 6) (v := .slice mda (List.map bvs md).length mdc) (upd_o (i := 1) (v := .slice wa9 (List.map bvs wa).length wc9) (upd_o (i := 0) (v := HL.sl ab 0 2 2) hp3 rfl) rfl) rfl) rfl
        cases ta with
        | none =>
          repeat (first | refine CondS.f rfl ?_)
          exact Rel.drop _ [_, _, _] ⟨_, rfl, hu3, rfl, rfl, rfl, trivial⟩
        | some tad =>
          repeat (first | (refine QuG.keep ?_; refine QuG.l1E cok 5 rfl rfl rfl rfl rfl (by first | exact Nat.le_of_ble_eq_true rfl | omega) (by assumption) ?_) | refine CondS.t rfl ?_ | refine And.intro ⟨by omega, by omega⟩ ?_ | (refine NatS.keep ?_; first | with_reducible refine NatS.nat ?_))
          intro ob3
          repeat (first | (refine OpG.keep ?_; first | refine OpG.s1 cok 4 rfl rfl rfl rfl rfl (by first | exact Nat.le_of_ble_eq_true rfl | omega | (dsimp only; omega) | (simp only [addS_eq, mulS_eq]; omega)) rfl rfl ?_))
          exact Rel.drop _ [_, _, _, _] ⟨_, rfl, upd_o (i := 5) hu3 rfl, rfl, rfl, rfl, trivial⟩
      · clear hsl
        rintro e3 _ hsJ3 ⟨f3, rfl, hu3, hsl⟩
        refine W.slots _ hsl fun e4 => ?_
        repeat (first | (refine QuG.keep ?_; first | refine QuG.l1E cok 2 rfl rfl rfl rfl rfl (by first | exact Nat.le_of_ble_eq_true rfl | omega | (dsimp only; omega) | (simp only [addS_eq, mulS_eq]; omega)) (by assumption) ?_) | refine SeqS.go cok ?_)
        refine W.rounds cok (by kernel_rfl) 1 ?_
        repeat (first | (refine SeqS.cutL 27 cok (fun e' S' => ∃ c3, S' = ⟨J9, ⟨b3, 8, 112, c3⟩ :: ⟨b2, 8, 112, d2⟩ :: ⟨sb, ssz, Ts, cs⟩ :: G⟩ ∧ (∀ k, k < 8 → one (c3 k) = true) ∧ slots [(0, ptr sb 0), (2, ptr b2 0), (3, ptr b3 0)] e') ?_ ?_) | (refine QuG.keep ?_; first | refine QuG.l1E cok 2 rfl rfl rfl rfl rfl (by first | exact Nat.le_of_ble_eq_true rfl | omega | (dsimp only; omega) | (simp only [addS_eq, mulS_eq]; omega)) (by assumption) ?_) | refine SeqS.go cok ?_ | refine CondS.f rfl ?_)
        · cases ma with
          | none =>
            repeat (first | refine CondS.f rfl ?_)
            exact Rel.same ⟨_, rfl, hu3, rfl, rfl, rfl, trivial⟩
          | some mda2 =>
            repeat (first | (refine QuG.keep ?_; first | refine QuG.l1E cok 2 rfl rfl rfl rfl rfl (by first | exact Nat.le_of_ble_eq_true rfl | omega | (dsimp only; omega) | (simp only [addS_eq, mulS_eq]; omega)) (by assumption) ?_) | refine CondS.t rfl ?_ | refine And.intro ⟨by omega, by omega⟩ ?_ | (refine NatS.keep ?_; first | with_reducible refine NatS.nat ?_))
            intro ob4
            repeat (first | (refine OpG.keep ?_; first | refine OpG.s1 cok 1 rfl rfl rfl rfl rfl (by first | exact Nat.le_of_ble_eq_true rfl | omega | (dsimp only; omega) | (simp only [addS_eq, mulS_eq]; omega)) rfl rfl ?_))
            exact Rel.drop _ [_] ⟨_, rfl, upd_o (i := 2) hu3 rfl, rfl, rfl, rfl, trivial⟩
        · clear hsl
          rintro e5 _ hsJ4 ⟨g3, rfl, hv3, hsl⟩
          refine W.slots _ hsl fun e6 => ?_
          repeat (first | (refine QuG.keep ?_; first | refine QuG.l1E cok 2 rfl rfl rfl rfl rfl (by first | exact Nat.le_of_ble_eq_true rfl | omega | (dsimp only; omega) | (simp only [addS_eq, mulS_eq]; omega)) (by assumption) ?_) | refine SeqS.go cok ?_)
          refine W.rounds cok (by kernel_rfl) 1 ?_
          have hg3 := cells_o hv3
          repeat (first | (refine OpG.keep ?_; refine OpG.upS cok 1 (vs := cellsFrom g3 0 8) rfl rfl rfl rfl rfl (by simp) hg3 (Nat.le_of_ble_eq_true rfl) ?_) | refine SeqS.go cok ?_ | refine CondS.f rfl ?_ | (refine QuG.keep ?_; first | refine QuG.lN cok 0 rfl rfl rfl rfl rfl (by first | exact Nat.le_of_ble_eq_true rfl | omega | (dsimp only; omega) | (simp only [addS_eq, mulS_eq]; omega)) ?_) | (refine LdG.keep ?_; first | refine LdG.lN cok 1 rfl rfl rfl rfl rfl (by first | exact Nat.le_of_ble_eq_true rfl | omega | (dsimp only; omega) | (simp only [addS_eq, mulS_eq]; omega)) ?_))
          exact Fin.drop (⟨sb, ssz, Ts, cs⟩ :: G) [_, _] ⟨rfl, cellsFrom g3 0 8, rfl, by simp, hg3⟩
end Go.Proofs.YgvafwGreat
