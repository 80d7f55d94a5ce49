import Derived.Test.YgvafwGreatV28
import Derived.Test.YgvafwGreatK18
set_option exponentiation.threshold 1000
set_option maxRecDepth 100000
set_option maxHeartbeats 40000000
set_option linter.unusedVariables false
set_option linter.unusedSimpArgs false
-- v2
-- v4
-- v5
-- v6
-- v7
-- still: exact QuV.of (QuG.elS cok hEa (by first | exact hra _ | exact hra2 _) rfl rfl rfl rfl elO hqa (by decide) l0 rfl)
-- still: exact QuV.of (QuG.elF cok hEa (by first | exact hra _ | exact hra2 _) rfl rfl rfl rfl elO hqa (by decide) l20 rfl)
-- still: exact QuV.of (QuG.elS cok hEa (by first | exact hra _ | exact hra2 _) rfl rfl rfl rfl elO hqa (by decide) l21 rfl)
-- still: exact QuV.of (QuG.elF cok hEa (by first | exact hra _ | exact hra2 _) rfl rfl rfl rfl elO hqa (by decide) l25 rfl)
-- still: exact QuV.of (QuG.elF cok hEs (hrs _) rfl rfl rfl rfl elO his (by decide) s0 rfl)
-- still: exact QuV.of (QuG.elS cok hEs (hrs _) rfl rfl rfl rfl elO his (by decide) s1 rfl)
-- still: exact QuV.of (QuG.elS cok hEs (hrs _) rfl rfl rfl rfl elO his (by decide) s5 rfl)
-- still: exact QuV.of (QuG.ldo cok (hrr _ _ _) 0 _ rfl rfl rfl rfl rfl hr0 hc1 rfl)
-- plus: (refine QuG.keep ?_; fail "none")
-- plus: (refine QuG.keep ?_; refine QuG.ld cok (hrc _) rfl rfl rfl rfl (by dsimp only; omega) hav ?_)
-- plus: (refine QuG.keep ?_; refine QuG.elS cok hEa (hra _) rfl rfl rfl rfl elO0 hia (by decide) hea ?_)
namespace Go.Proofs.YgvafwGreat
open Go.HL Go.Proofs

/-- The number of the address that CREATE makes. -/
def crN : Nat := bev crAd
/-- vault.addrWord -/
theorem vAddrWordC {I : Ent → Prop} {G : List Ent} : CallG Hvaf.prog 84 #[bytesV crAd] ⟨I, G⟩ fun r S' => ⟨I, G⟩ = S' ∧ r = wordV crN := by
  have hB := fun (S : St) (v : Value) (off m : Nat) (h : Byt S v crAd) (ho : off + 8 ≤ 20) (hm : bev ((crAd.drop off).take 8) = m) => (hm ▸ BE64_spec (off := off) h ho : CallG Hvaf.prog 166 #[v, .int .i64 (off : Nat)] S fun r S' => S = S' ∧ r = .tuple #[.int .u64 (m : Nat), .bool true])
  refine CallG.start (C := mkC Hvaf.prog) cok (args := [bytesV crAd]) Hvaf.func84 rfl Hvaf.ntmps84 (by simp) (by kernel_rfl) ?_
  intro b1 b2
  repeat (first | refine SeqS.go cok ?_ | refine And.intro (Eq.refl true) ?_ | (refine ValS.keep ?_; first | with_reducible refine ValS.sl0 ?_))
  refine (hB _ _ 0 6006462122847871028 (box_b (l := bvs crAd) (p := 0) (m := 20) (List.mem_cons_of_mem _ List.mem_cons_self) rfl rfl (by decide) (by decide) (Nat.le_of_ble_eq_true rfl)) (by decide) (by decide)).mono ?_
  rintro r _ - ⟨rfl, rfl⟩
  repeat (first | refine SeqS.go cok ?_ | refine And.intro (Eq.refl true) ?_ | (refine ValS.keep ?_; first | with_reducible refine ValS.sl0 ?_))
  refine (hB _ _ 8 17109721189309269751 (box_b (l := bvs crAd) (p := 0) (m := 20) (List.mem_cons_of_mem _ List.mem_cons_self) rfl rfl (by decide) (by decide) (Nat.le_of_ble_eq_true rfl)) (by decide) (by decide)).mono ?_
  rintro r _ - ⟨rfl, rfl⟩
  repeat (first | refine SeqS.go cok ?_ | refine And.intro (Eq.refl true) ?_ | (refine ValS.keep ?_; first | with_reducible refine ValS.sl0 ?_))
  refine (hB _ _ 12 4521832792267121889 (box_b (l := bvs crAd) (p := 0) (m := 20) (List.mem_cons_of_mem _ List.mem_cons_self) rfl rfl (by decide) (by decide) (Nat.le_of_ble_eq_true rfl)) (by decide) (by decide)).mono ?_
  rintro r _ - ⟨rfl, rfl⟩
  repeat (first | refine SeqS.go cok ?_ | refine And.intro (fillOk_of (Eq.refl true)) ?_ | refine And.intro (by omega) ?_ | (refine ValS.keep ?_; first | (with_reducible refine ValS.kU64 ?_; first | (with_reducible refine ValS.andMU64 ?_ ?_; omega) | (with_reducible refine ValS.orFU64 ?_ ?_ (fun _ => ?_); omega; omega) | (with_reducible refine ValS.shrU64_L ?_ ?_ ; omega) | (with_reducible refine ValS.shlWU64_L ?_ ?_ ; omega))) | (refine LdG.keep ?_; first | refine LdG.lN cok 0 rfl rfl rfl rfl rfl (by first | exact Nat.le_of_ble_eq_true rfl | omega | (dsimp only; omega) | (simp only [addS_eq, mulS_eq]; omega)) ?_) | (refine OpG.keep ?_; first | refine OpG.sL cok 0 rfl rfl rfl rfl rfl rfl rfl (by first | exact Nat.le_of_ble_eq_true rfl | omega | (dsimp only; omega) | (simp only [addS_eq, mulS_eq]; omega)) ?_))
  exact Fin.drop G [_, _] ⟨rfl, rfl⟩
/-- The vault as Export finds it: three accounts that are not empty, no slot with a value. -/
structure XW (I : Ent → Prop) (cb sz : Nat) (T : TypeId) (c : Nat → Value) (ac : List VA) (sl : List VSl) (j k : Nat) : Prop where
  cbI : I ⟨cb, sz, T, c⟩
  sz : 27019 ≤ sz
  ra : RowI I 29 (c 2435) (ac.map VA.enc)
  rs : RowI I 14 (c 2436) (sl.map VSl.enc)
  cd : ∀ x ∈ ac, Byt ⟨I, []⟩ x.cv x.code
  aok : ∀ x ∈ ac, AdOk x.ad
  anc : ∀ x ∈ ac, x.nonce < 2 ^ 64
  abl : ∀ x ∈ ac, x.bal < 2 ^ 256
  aln : ac.length < 2000
  sln : sl.length < 2000
  sky : ∀ x ∈ sl, x.key < 2 ^ 256 ∧ x.val < 2 ^ 256
  szr : ∀ x ∈ sl, x.val = 0
  j0 : 0 < j
  jn : j < ac.length
  k0 : 0 < k
  kn : k < ac.length
  jk : j ≠ k
  a0 : (ac.getD 0 dVA).ad = adNo 1
  aj : (ac.getD j dVA).ad = adNo 240
  ak : (ac.getD k dVA).ad = crAd
  e0 : emptyV (ac.getD 0 dVA) = false
  ej : emptyV (ac.getD j dVA) = false
  ek : emptyV (ac.getD k dVA) = false
  eo : ∀ i, i < ac.length → i ≠ 0 → i ≠ j → i ≠ k → emptyV (ac.getD i dVA) = true
/-- The accounts' keys gathered. -/
def kM (j k n : Nat) : List SK := (if 0 < n then [⟨0, 1, 0⟩] else []) ++ (if j < k then (if j < n then [⟨0, 240, j⟩] else []) ++ (if k < n then [⟨0, crN, k⟩] else []) else (if k < n then [⟨0, crN, k⟩] else []) ++ (if j < n then [⟨0, 240, j⟩] else []))
theorem kM_0 (j k : Nat) : kM j k 0 = [] := by unfold kM; simp
theorem kM_1 {j k : Nat} (h : 0 < j) (h2 : 0 < k) : kM j k 1 = [⟨0, 1, 0⟩] := by
  unfold kM
  have h3 : ¬ j < 1 := by omega
  have h4 : ¬ k < 1 := by omega
  simp only [h3, h4, if_false, if_true, show 0 < 1 by decide, List.append_nil, ite_self]
theorem kM_j {j k : Nat} (h : 0 < j) (hk : 0 < k) (hjk : j ≠ k) : kM j k (j + 1) = kM j k j ++ [⟨0, 240, j⟩] := by
  unfold kM
  have h0 : 0 < j + 1 := by omega
  have h3 : j < j + 1 := by omega
  have h4 : ¬ j < j := by omega
  by_cases hc : j < k
  · have h1 : ¬ k < j + 1 := by omega
    have h2 : ¬ k < j := by omega
    simp only [h, h0, h1, h2, h3, h4, hc, if_true, if_false, List.append_nil, List.nil_append]
  · have h1 : k < j + 1 := by omega
    have h2 : k < j := by omega
    simp only [h, h0, h1, h2, h3, h4, hc, if_true, if_false, List.append_nil, List.nil_append, List.append_assoc]
theorem kM_k {j k : Nat} (h : 0 < j) (hk : 0 < k) (hjk : j ≠ k) : kM j k (k + 1) = kM j k k ++ [⟨0, crN, k⟩] := by
  unfold kM
  have h0 : 0 < k + 1 := by omega
  have h3 : k < k + 1 := by omega
  have h4 : ¬ k < k := by omega
  by_cases hc : j < k
  · have h1 : j < k + 1 := by omega
    simp only [hk, h0, h1, h3, h4, hc, if_true, if_false, List.append_nil, List.nil_append]; rfl
  · have h1 : ¬ j < k + 1 := by omega
    simp only [hk, h0, h1, h3, h4, hc, if_true, if_false, List.append_nil, List.nil_append]
theorem kM_o {j k i : Nat} (h0 : i ≠ 0) (hj : i ≠ j) (hk : i ≠ k) : kM j k (i + 1) = kM j k i := by
  have e0 : (0 < i + 1) = (0 < i) := propext ⟨fun _ => by omega, fun _ => by omega⟩
  have e1 : (j < i + 1) = (j < i) := propext ⟨fun _ => by omega, fun _ => by omega⟩
  have e2 : (k < i + 1) = (k < i) := propext ⟨fun _ => by omega, fun _ => by omega⟩
  unfold kM
  simp only [e0, e1, e2]
theorem kM_end {j k n : Nat} (h0 : 0 < j) (h : j < n) (hk : k < n) : (kM j k n).Perm [⟨0, 1, 0⟩, ⟨0, 240, j⟩, ⟨0, crN, k⟩] := by
  unfold kM
  rw [if_pos (by omega), if_pos h, if_pos hk]
  by_cases hc : j < k
  · rw [if_pos hc]; exact .refl _
  · rw [if_neg hc]; exact .cons _ (.swap _ _ _)
theorem kM_len (j k i : Nat) : (kM j k i).length ≤ 3 := by
  unfold kM
  repeat' split
  all_goals exact Nat.le_of_ble_eq_true rfl
def ix3 (j k q : Nat) : Nat := if q = 0 then 0 else if q = 1 then j else k
theorem ac_bound3 {r : Nat} (h : r < 3) : addS 0 (mulS r 55) + 55 ≤ mulS 3 55 := by rw [addS_eq, mulS_eq, mulS_eq]; omega
/-- The accounts being laid. -/
def AcP3 (I : Ent → Prop) (G : List Ent) (sb ssz : Nat) (sc : Nat → Value) (rb wb : Nat) (ac : List VA) (j k r : Nat) (S' : St) : Prop :=
  ∃ (J : Ent → Prop) (cr cw : Nat → Value) (ms : List (List Value)), HL.Sub I J ∧ S' = ⟨J, ⟨wb, mulS 3 55, 58, cw⟩ :: ⟨rb, mulS ac.length 1, 21, cr⟩ :: ⟨sb, ssz, 180, sc⟩ :: G⟩ ∧ ms.length = r ∧ (∀ l ∈ ms, l.length = 55) ∧ Row cw 0 ms.flatten ∧ (0 < r → cr 0 = .int .i32 ((1 : Nat) : Int)) ∧ ∀ q, q < r → AX J (ms.getD q []) (ac.getD (ix3 j k q) dVA)
theorem exOWI3 {I J J' : Ent → Prop} {cb sz j k wb : Nat} {T : TypeId} {c cw : Nat → Value} {ac : List VA} {sl : List VSl} {ms : List (List Value)} (h : XW I cb sz T c ac sl j k) (hml : ms.length = 3) (hml2 : ∀ l ∈ ms, l.length = 55) (hrow : Row cw 0 ms.flatten) (hall : ∀ q, q < 3 → AX J (ms.getD q []) (ac.getD (ix3 j k q) dVA)) (h1 : HL.Sub I J') (h2 : HL.Sub J J') (h3 : J' ⟨wb, mulS 3 55, 58, cw⟩) : OWI J' (HL.sl wb 0 3 3) [oaN (ac.getD 0 dVA) [], oaN (ac.getD j dVA) [], oaN (ac.getD k dVA) []] := by
  have hjn := h.jn
  have hkn := h.kn
  have hO : ∀ q, q < 3 → OAC J' (ms.getD q []) (oaN (ac.getD (ix3 j k q) dVA) []) := fun q hq => by
    obtain ⟨cv, e1, e2⟩ := hall q hq
    have hy : ix3 j k q < ac.length := by
      unfold ix3
      split
      · omega
      · split <;> omega
    have hm := getD_mem (d := dVA) hy
    exact ⟨h.aok _ hm, rfl, be32_lt2 _, by simp [oaN], by simp [oaN], cv, .slice none 0 0, e1, e2.mono h2 (by simp), RowI.nil _ _⟩
  refine ⟨ms, ⟨hml2, .inr ⟨_, 0, 3, by rw [hml], by rw [hml]; exact Nat.le_refl _, h3, hml2, hrow, by rw [hml]; show 0 + 3 * 55 ≤ mulS 3 55; rw [mulS_eq]; decide⟩⟩, hml, fun q hq => ?_⟩
  have hq : q < 3 := hq
  have : q = 0 ∨ q = 1 ∨ q = 2 := by omega
  rcases this with rfl | rfl | rfl
  · exact hO 0 hq
  · exact hO 1 hq
  · exact hO 2 hq
theorem crN_lt : 240 < crN ∧ crN < 2 ^ 256 := by decide
theorem sort3 {I : Ent → Prop} {G : List Ent} {kb ksz j k cap : Nat} {kc : Nat → Value} {L0 : List SK} (hp : L0.Perm [⟨0, 1, 0⟩, ⟨0, 240, j⟩, ⟨0, crN, k⟩]) (hE : Els ⟨kb, ksz, 180, kc⟩ 0 6 (L0.map SK.enc)) (hc : 3 ≤ cap) :
    CallG Hvaf.prog 85 #[HL.sl kb 0 3 cap] ⟨I, ⟨kb, ksz, 180, kc⟩ :: G⟩ fun r S' => ∃ (b sz : Nat) (c : Nat → Value) (cap' : Nat), r = HL.sl b 0 3 cap' ∧ S' = ⟨I, ⟨b, sz, 180, c⟩ :: G⟩ ∧ 3 ≤ cap' ∧ Els ⟨b, sz, 180, c⟩ 0 6 ([(⟨0, 1, 0⟩ : SK), ⟨0, 240, j⟩, ⟨0, crN, k⟩].map SK.enc) := by
  have hl : L0.length = 3 := hp.length_eq
  obtain ⟨g1, g2⟩ := crN_lt
  have hso := vSorted (I := I) (G := G) (rk := 0) (cap := cap) hE hl (by omega) (fun x hx => ?_) (.inl rfl) (by show _ < 2 ^ 20; decide)
  · refine hso.mono ?_
    rintro r S' - ⟨b, sz, c, cap', L, rfl, rfl, h1, h2, h3, h4⟩
    have h3 := h3.trans hp
    have : L = [⟨0, 1, 0⟩, ⟨0, 240, j⟩, ⟨0, crN, k⟩] := by
      refine List.Perm.eq_of_pairwise (le := fun a b => leK a b = true) (fun a b ha hb h5 h6 => ?_) h4 ?_ h3
      · have ha := h3.mem_iff.1 ha
        have h5 := of_decide_eq_true h5
        have h6 := of_decide_eq_true h6
        simp only [List.mem_cons, List.not_mem_nil, or_false] at ha hb
        rcases ha with rfl | rfl | rfl <;> rcases hb with rfl | rfl | rfl
        all_goals first | rfl | (dsimp only at h5 h6; omega)
      · refine List.pairwise_cons.2 ⟨fun x hx => ?_, List.pairwise_cons.2 ⟨fun x hx => ?_, List.pairwise_singleton _ _⟩⟩
        · simp only [List.mem_cons, List.not_mem_nil, or_false] at hx
          rcases hx with rfl | rfl
          · rfl
          · exact decide_eq_true (by dsimp only; omega)
        · cases List.mem_singleton.1 hx
          exact decide_eq_true (by dsimp only; omega)
    subst this
    exact ⟨b, sz, c, cap', rfl, rfl, h1, h2⟩
  · have hx := hp.mem_iff.1 hx
    simp only [List.mem_cons, List.not_mem_nil, or_false] at hx
    rcases hx with rfl | rfl | rfl
    · exact ⟨rfl, by show 1 < 2 ^ 256; decide⟩
    · exact ⟨rfl, by show 240 < 2 ^ 256; decide⟩
    · exact ⟨rfl, g2⟩
theorem vExport3 {I : Ent → Prop} {G : List Ent} {cb sz j k : Nat} {T : TypeId} {c : Nat → Value} {ac : List VA} {sl : List VSl} (h : XW I cb sz T c ac sl j k) :
    CallG Hvaf.prog 32 #[ptr cb 2435] ⟨I, G⟩ fun r S' => S'.G = G ∧ OWI S'.I r [oaN (ac.getD 0 dVA) [], oaN (ac.getD j dVA) [], oaN (ac.getD k dVA) []] := by
  have hsz := h.sz
  have hjn := h.jn
  have hj0 := h.j0
  have skZ : ∀ i, i ≤ sl.length → skN sl i = [] := fun i => by
    induction i with
    | zero => exact fun _ => rfl
    | succ i ih => intro hi; rw [skN, ih (by omega), if_pos (h.szr _ (getD_mem (by omega)))]; rfl
  have hkn := h.kn
  have hk0 := h.k0
  have hjk := h.jk
  have haln := h.aln
  obtain ⟨x, oa, acap, hav, hacap, hxI, hEa⟩ : ∃ x oa acap, c 2435 = HL.sl x.b oa ac.length acap ∧ ac.length ≤ acap ∧ I x ∧ Els x oa 29 (ac.map VA.enc) := by
    rcases h.ra.2 with ⟨_, h2⟩ | ⟨x, o, cap, h1, h2, h3, h4⟩
    · have := congrArg List.length h2; rw [List.length_map, List.length_nil] at this; omega
    · rw [List.length_map] at h1 h2; exact ⟨x, o, cap, h1, h2, h3, h4⟩
  have hrc : ∀ G, Rd ⟨I, G⟩ ⟨cb, sz, T, c⟩ := fun _ => .inl h.cbI
  have hra : ∀ G, Rd ⟨I, G⟩ x := fun _ => .inl hxI
  have hg : ∀ i, i < ac.length → (ac.map VA.enc).getD i [] = (ac.getD i dVA).enc := fun i hi => getD_map (d := dVA) hi
  have hm : ∀ i, i < ac.length → ac.getD i dVA ∈ ac := fun i hi => getD_mem hi
  refine CallG.start (C := mkC Hvaf.prog) cok (args := [ptr cb 2435]) Hvaf.func32 rfl Hvaf.ntmps32 (by simp) (by kernel_rfl) ?_
  repeat (first | (refine QuG.keep ?_; refine QuG.ld cok (hrc _) rfl rfl rfl rfl (by dsimp only; omega) hav ?_) | refine SeqS.go cok ?_)
  refine W.loopF cok (by kernel_rfl) 0 (fun (i : Nat) e' S' => (∃ M v, S' = ⟨I, G ++ M⟩ ∧ OwnL 180 6 v ((kM j k i).map SK.enc) M ∧ i ≤ ac.length ∧ slots [(0, ptr cb 2435), (3, v), (22, .int .i64 (ac.length : Nat)), (23, .int .i64 (i : Nat))] e')) (fun i => ac.length - i) 0
    (Rel.perm (G ++ []) [] (by rw [List.append_nil, List.append_nil]) ⟨[], _, rfl, by rw [kM_0]; exact OwnL.nil _ _, Nat.zero_le _, rfl, rfl, rfl, rfl, trivial⟩) (fun e' S' => ∃ M v, S' = ⟨I, G ++ M⟩ ∧ OwnL 180 6 v ((kM j k ac.length).map SK.enc) M ∧ slots [(0, ptr cb 2435), (3, v)] e') ?_ ?_
  · rintro e' S2 - ⟨M, v, rfl, hW, hsl⟩
    have hpm := kM_end hj0 hjn hkn
    have hk3 : (kM j k ac.length).length = 3 := hpm.length_eq
    obtain ⟨kb, kcap, kc, rfl, hkc, rfl, hEk⟩ := own_els hW (by rw [List.length_map, hk3]; decide)
    rw [List.length_map, hk3] at hkc hsl
    refine SeqS.slots cok _ hsl fun e => ?_
    have hso := fun G => sort3 (I := I) (G := G) hpm hEk hkc
    repeat (first | refine SeqS.go cok ?_ | refine CondS.f rfl ?_)
    refine CallG.perm _ List.perm_append_comm ?_
    refine (hso _).mono ?_
    rintro r _ - ⟨sb, ssz, sc, scap, rfl, rfl, hcap2, hEk2⟩
    repeat (first | (refine QuG.keep ?_; refine QuG.ld cok (hrc _) rfl rfl rfl rfl (by dsimp only; omega) hav ?_) | refine SeqS.go cok ?_ | refine And.intro (by dsimp only; omega) ?_ | (refine NatS.keep ?_; first | with_reducible refine NatS.nat ?_))
    intro rb
    repeat (first | refine SeqS.go cok ?_ | refine And.intro (by dsimp only; omega) ?_ | (refine NatS.keep ?_; first | with_reducible refine NatS.nat ?_))
    intro wb
    repeat (first | refine SeqS.go cok ?_)
    refine W.loopF cok (by kernel_rfl) 2 (fun (r : Nat) e' S' => AcP3 I G sb ssz sc rb wb ac j k r S' ∧ r ≤ 3 ∧ slots [(0, ptr cb 2435), (5, HL.sl rb 0 ac.length ac.length), (6, HL.sl wb 0 3 3), (64, HL.sl sb 0 3 scap), (65, .int .i64 3), (66, .int .i64 (r : Nat))] e') (fun r => 3 - r) 0
      (Rel.same ⟨⟨I, _, _, [], fun _ h => h, rfl, rfl, by simp, ⟨fun i hi => absurd hi (by simp)⟩, fun h => absurd h (by decide), fun q hq => absurd hq (by omega)⟩, Nat.zero_le _, rfl, rfl, rfl, rfl, rfl, rfl, trivial⟩) (fun e' S' => AcP3 I G sb ssz sc rb wb ac j k 3 S' ∧ slots [(0, ptr cb 2435), (5, HL.sl rb 0 ac.length ac.length), (6, HL.sl wb 0 3 3)] e') ?_ ?_
    · rintro e' S2 - ⟨⟨J, cr, cw, ms, hs, rfl, hml, hml2, hrow, hc0, hall⟩, hsl⟩
      refine SeqS.slots cok _ hsl fun e => ?_
      have hrc : ∀ G, Rd ⟨J, G⟩ ⟨cb, sz, T, c⟩ := fun _ => .inl (hs _ h.cbI)
      have hrr : ∀ a b M, Rd ⟨J, a :: ⟨rb, mulS ac.length 1, 21, cr⟩ :: (b :: (G ++ M))⟩ ⟨rb, mulS ac.length 1, 21, cr⟩ := fun a b M => .inr (by simp)
      have hr0 : 0 < mulS ac.length 1 := by rw [mulS_eq]; omega
      have hc1 := hc0 (by decide)
      obtain ⟨sad, scap2, hav2⟩ := h.rs.form
      rw [List.length_map] at hav2
      have hsln := h.sln
      repeat (first | (refine QuG.keep ?_; first | refine QuG.ld cok (hrc _) rfl rfl rfl rfl (by dsimp only; omega) hav2 ?_) | refine SeqS.go cok ?_)
      refine W.loopF cok (by kernel_rfl) 4 (fun (i : Nat) e' S' => ∃ M v, S' = ⟨J, ⟨wb, mulS 3 55, 58, cw⟩ :: ⟨rb, mulS ac.length 1, 21, cr⟩ :: ⟨sb, ssz, 180, sc⟩ :: (G ++ M)⟩ ∧ OwnL 180 6 v ((skN sl i).map SK.enc) M ∧ (skN sl i = [] → v = .slice none 0 0 ∧ M = []) ∧ i ≤ sl.length ∧ slots [(0, ptr cb 2435), (5, HL.sl rb 0 ac.length ac.length), (6, HL.sl wb 0 3 3), (10, v), (112, .int .i64 (sl.length : Nat)), (113, .int .i64 (i : Nat))] e') (fun i => sl.length - i) 0
        (Rel.perm (⟨wb, mulS 3 55, 58, cw⟩ :: ⟨rb, mulS ac.length 1, 21, cr⟩ :: ⟨sb, ssz, 180, sc⟩ :: (G ++ [])) [] (by rw [List.append_nil, List.append_nil]) ⟨[], _, rfl, OwnL.nil _ _, fun _ => ⟨rfl, rfl⟩, Nat.zero_le _, rfl, rfl, rfl, rfl, rfl, rfl, trivial⟩) (fun e' S' => ∃ M v, S' = ⟨J, ⟨wb, mulS 3 55, 58, cw⟩ :: ⟨rb, mulS ac.length 1, 21, cr⟩ :: ⟨sb, ssz, 180, sc⟩ :: (G ++ M)⟩ ∧ OwnL 180 6 v ((skN sl sl.length).map SK.enc) M ∧ (skN sl sl.length = [] → v = .slice none 0 0 ∧ M = []) ∧ slots [(0, ptr cb 2435), (6, HL.sl wb 0 3 3), (10, v)] e') ?_ ?_
      · rintro e' S2 - ⟨M, v, rfl, hW2, hnil, hsl⟩
        obtain ⟨rfl, rfl⟩ := hnil (skZ _ (Nat.le_refl _))
        refine SeqS.slots cok _ hsl fun e => ?_
        skip
        refine vSortedNil.mono ?_
        rintro r _ - ⟨rfl, rfl⟩
        repeat (first | refine SeqS.go cok ?_)
        refine W.rounds cok (by kernel_rfl) 1 ?_
        repeat (first | refine SeqS.go cok ?_ | refine CondS.f rfl ?_)
        refine Fin.frz1 ⟨List.append_nil G, exOWI3 h hml hml2 hrow hall ?_ ?_ ?_⟩
        · exact fun _ hx => .inl (hs _ hx)
        · exact fun _ hx => .inl hx
        · exact .inr List.mem_cons_self
      · rintro i e' S2 - ⟨M, v, rfl, hW2, hnil, hi, hsl⟩
        obtain ⟨vad, vcap, rfl⟩ := hW2.form
        have hskl := skN_len sl i
        refine W.slots _ hsl fun e => ?_
        by_cases hlt : i < sl.length
        · obtain ⟨x2, o2, cap2, hav2, hx2, hEs⟩ : ∃ x2 o2 cap2, c 2436 = HL.sl x2.b o2 sl.length cap2 ∧ I x2 ∧ Els x2 o2 14 (sl.map VSl.enc) := by
            rcases h.rs.2 with ⟨_, h2⟩ | ⟨x2, o2, cap2, g1, g2, g3, g4⟩
            · have := congrArg List.length h2; rw [List.length_map, List.length_nil] at this; omega
            · rw [List.length_map] at g1; exact ⟨x2, o2, cap2, g1, g3, g4⟩
          have his : i < (sl.map VSl.enc).length := by rw [List.length_map]; exact hlt
          have hrs : ∀ G, Rd ⟨J, G⟩ x2 := fun _ => .inl (hs _ hx2)
          obtain ⟨y, hy⟩ : ∃ y, sl.getD i dVS = y := ⟨_, rfl⟩
          have hyg : (sl.map VSl.enc).getD i [] = y.enc := by rw [getD_map (d := dVS) hlt, hy]
          have hyb := h.sky _ (hy ▸ getD_mem hlt : y ∈ sl)
          have s0 : ((sl.map VSl.enc).getD i []).getD 0 undef = .int .i32 ((0 : Nat) : Int) := by rw [hyg]; rfl
          have s1 : (((sl.map VSl.enc).getD i []).drop 1).take 4 = wcs y.key := by rw [hyg]; rfl
          have s5 : (((sl.map VSl.enc).getD i []).drop 5).take 4 = wcs y.val := by rw [hyg]; rfl
          have hiz := fun S => UIsZero_spec (S := S) hyb.2
          by_cases hz : y.val = 0
          · rw [decide_eq_true hz] at hiz
            have hsk : skN sl (i + 1) = skN sl i := by rw [skN, hy, if_pos hz, List.append_nil]
            repeat (first | (refine QuG.keep ?_; first | refine QuG.l1E cok 1 rfl rfl rfl rfl rfl (by first | exact Nat.le_of_ble_eq_true rfl | omega | (dsimp only; omega) | (simp only [addS_eq, mulS_eq]; omega)) (by assumption) ?_) | (refine QuG.keep ?_; first | refine QuG.ld cok (hrc _) rfl rfl rfl rfl (by dsimp only; omega) hav2 ?_ | refine QuG.elF cok hEs (hrs _) rfl rfl rfl rfl elO his (by decide) s0 ?_ | refine QuG.elS cok hEs (hrs _) rfl rfl rfl rfl elO his (by decide) s5 ?_) | refine SeqS.go cok ?_ | refine GuardS.yes rfl ?_ | refine And.intro (by omega) ?_ | (refine NatS.keep ?_; first | with_reducible refine NatS.nat ?_) | (refine ValS.keep ?_; first | (with_reducible refine ValS.kI64 ?_; first | (with_reducible refine ValS.convI64 ?_ ?_ ; omega))) | (refine GuardS.keep ?_; first | refine GuardS.T1 rfl (by omega) ?_) | (refine CondS.keep ?_; first | refine CondS.d1 rfl (by omega) ?_))
            refine (hiz _).mono ?_
            rintro r _ - ⟨rfl, rfl⟩
            repeat (first | refine SeqS.go cok ?_ | refine GuardS.yes rfl ?_ | refine CondS.f rfl ?_ | (refine ValS.keep ?_; first | (with_reducible refine ValS.kI64 ?_; first | (with_reducible refine ValS.addI64_L ?_ ?_ ; omega))))
            exact ⟨i + 1, Rel.same ⟨M, _, rfl, by rw [hsk]; exact hW2, by rw [hsk]; exact hnil, hlt, rfl, rfl, rfl, rfl, rfl, rfl, trivial⟩, by show sl.length - (i + 1) < sl.length - i; omega⟩
          · exact absurd (h.szr y (hy ▸ getD_mem hlt)) hz
        · obtain rfl : i = sl.length := by omega
          repeat (first | refine SeqS.go cok ?_ | (refine CondS.keep ?_; first | refine CondS.d0 rfl (by omega) ?_))
          exact ⟨M, _, rfl, hW2, hnil, rfl, rfl, rfl, trivial⟩
    · rintro r e' S2 - ⟨⟨J, cr, cw, ms, hs, rfl, hml, hml2, hrow, hc0, hall⟩, hr, hsl⟩
      refine W.slots _ hsl fun e => ?_
      by_cases hlt : r < 3
      · have hrc : ∀ G, Rd ⟨J, G⟩ ⟨cb, sz, T, c⟩ := fun _ => .inl (hs _ h.cbI)
        have hra : ∀ G, Rd ⟨J, G⟩ x := fun _ => .inl (hs _ hxI)
        have hrk : ∀ a b, Rd ⟨J, a :: b :: ⟨sb, ssz, 180, sc⟩ :: G⟩ ⟨sb, ssz, 180, sc⟩ := fun a b => .inr (by simp)
        obtain ⟨q, hq⟩ : ∃ q, ix3 j k r = q := ⟨_, rfl⟩
        have hqn : q < ac.length := by
          rw [← hq]; unfold ix3
          split
          · omega
          · split <;> omega
        have hki : r < ([(⟨0, 1, 0⟩ : SK), ⟨0, 240, j⟩, ⟨0, crN, k⟩].map SK.enc).length := hlt
        obtain ⟨kw, hkl⟩ : ∃ kw, ((([(⟨0, 1, 0⟩ : SK), ⟨0, 240, j⟩, ⟨0, crN, k⟩].map SK.enc).getD r []).drop 0).take 6 = (SK.mk 0 kw q).enc := by
          have : r = 0 ∨ r = 1 ∨ r = 2 := by omega
          rcases this with rfl | rfl | rfl
          · exact ⟨1, by rw [← hq]; rfl⟩
          · exact ⟨240, by rw [← hq]; rfl⟩
          · exact ⟨crN, by rw [← hq]; rfl⟩
        repeat (first | (refine QuG.keep ?_; refine QuG.elS cok hEk2 (hrk _ _) rfl rfl rfl rfl elO0 hki (by decide) hkl ?_) | refine SeqS.go cok ?_ | refine And.intro (by omega) ?_ | (refine NatS.keep ?_; first | with_reducible refine NatS.nat ?_) | (refine CondS.keep ?_; first | refine CondS.d1 rfl (by omega) ?_))
        intro tb
        obtain ⟨y, hy⟩ : ∃ y, ac.getD q dVA = y := ⟨_, rfl⟩
        have hyg := hg q hqn
        have hym := hm q hqn
        rw [hy] at hyg hym
        have h20 := (h.aok _ hym).len
        have hqa : q < (ac.map VA.enc).length := by rw [List.length_map]; exact hqn
        have l0 : (((ac.map VA.enc).getD q []).drop 0).take 20 = bvs y.ad := by rw [hyg]; exact enc_ad h20
        have l20 : ((ac.map VA.enc).getD q []).getD 20 undef = .int .u64 (y.nonce : Nat) := by rw [hyg]; exact enc_20 h20
        have l21 : (((ac.map VA.enc).getD q []).drop 21).take 4 = wcs y.bal := by rw [hyg]; exact enc_21 h20
        obtain ⟨ya, yc, hyc, hyB⟩ : ∃ ya yc, y.cv = .slice ya y.code.length yc ∧ Byt ⟨I, []⟩ (.slice ya y.code.length yc) y.code := by
          have := h.cd _ hym
          obtain ⟨a, cc, e, _⟩ := this.form
          exact ⟨a, cc, e, e ▸ this⟩
        have l25 : ((ac.map VA.enc).getD q []).getD 25 undef = .slice ya y.code.length yc := by rw [hyg, enc_25 h20]; exact hyc
        have hbe := fun S => UBE32_spec (S := S) (h.abl _ hym)
        have hab := (h.aok _ hym).bv
        repeat (first | (refine QuG.keep ?_; refine QuG.elS cok hEa (hra _) rfl rfl rfl rfl elO hqa (by decide) l0 ?_) | (refine QuG.keep ?_; refine QuG.elF cok hEa (hra _) rfl rfl rfl rfl elO hqa (by decide) l20 ?_) | (refine QuG.keep ?_; refine QuG.elS cok hEa (hra _) rfl rfl rfl rfl elO hqa (by decide) l21 ?_) | (refine QuG.keep ?_; refine QuG.elF cok hEa (hra _) rfl rfl rfl rfl elO hqa (by decide) l25 ?_) | (refine QuG.keep ?_; refine QuG.ld cok (hrc _) rfl rfl rfl rfl (by dsimp only; omega) hav ?_) | refine SeqS.go cok ?_ | refine And.intro (by omega) ?_ | (refine NatS.keep ?_; first | with_reducible refine NatS.nat ?_) | (refine ValS.keep ?_; first | (with_reducible refine ValS.kI32 ?_; first | (with_reducible refine ValS.convI32 ?_ ?_ ; omega) | (with_reducible refine ValS.addI32_L ?_ ?_ ; omega))) | (refine QuG.keep ?_; first | refine QuG.l1 cok 0 rfl rfl rfl rfl rfl (by first | exact Nat.le_of_ble_eq_true rfl | omega | (dsimp only; omega) | (simp only [addS_eq, mulS_eq]; omega)) ?_) | (refine OpG.keep ?_; first | refine OpG.s1 cok 2 rfl rfl rfl rfl rfl (by first | exact Nat.le_of_ble_eq_true rfl | omega | (dsimp only; omega) | (simp only [addS_eq, mulS_eq]; omega)) rfl rfl ?_ | refine OpG.sL cok 0 rfl rfl rfl rfl rfl rfl rfl (by first | exact Nat.le_of_ble_eq_true rfl | omega | (dsimp only; omega) | (simp only [addS_eq, mulS_eq]; omega)) ?_) | refine W.drawI 16 cok [0, 1, 3, 7, 0, 16, 63, 127] [0, 1, 2, 3, 4, 5, 6, 7] [3, 5] (by kernel_rfl) (by kernel_rfl) ?_ | refine W.drawI 18 cok [0, 0, 0, 4, 12, 28, 0, 64, 192, 448, 0, 1024, 3072, 7168, 15360, 0, 32768, 98304, 229376, 523264, 1048572, 2097151, 4194303] [0, 1, 2, 3, 4, 5, 6, 7, 8, 9, 10, 11, 12, 13, 15, 16, 17, 18, 14, 19, 20, 21, 22] [5, 9, 13, 18] (by kernel_rfl) (by kernel_rfl) ?_)
        refine (hbe _).mono ?_
        rintro r1 _ - ⟨rfl, rfl⟩
        repeat (first | (refine still_in ?_; first | refine still_nil ?_ | refine still_drop (by decide) ?_ | (refine still_keep (by decide) rfl ?_ ?_; first | exact QuV.of (QuG.elS cok hEa (by first | exact hra _ | exact hra2 _) rfl rfl rfl rfl elO hqa (by decide) l0 rfl) | exact QuV.of (QuG.elF cok hEa (by first | exact hra _ | exact hra2 _) rfl rfl rfl rfl elO hqa (by decide) l20 rfl) | exact QuV.of (QuG.elF cok hEa (by first | exact hra _ | exact hra2 _) rfl rfl rfl rfl elO hqa (by decide) l25 rfl))))
        refine callBS (vCopied (Byt.ext (hyB.mono hs (by simp)))) fun oa' oc J2 hs2 hoN => ?_
        have hra2 : ∀ G, Rd ⟨J2, G⟩ x := fun _ => .inl (hs2 _ (hs _ hxI))
        have h32 : (bvs (be32 y.bal)).length = 32 := by rw [bvs_len']; rfl
        have hB := build_ac (z := z58) (n := y.nonce) (ca := oa') (cn := y.code.length) (cc := oc) hab h32 rfl
        have m1 : (bvs y.ad ++ (.int .u64 (y.nonce : Nat) :: (bvs (be32 y.bal) ++ [Value.slice oa' y.code.length oc, .slice none 0 0]))).length = 55 := by simp only [List.length_append, List.length_cons, hab, h32, List.length_nil]
        have m2 : ∀ u ∈ bvs y.ad ++ (.int .u64 (y.nonce : Nat) :: (bvs (be32 y.bal) ++ [Value.slice oa' y.code.length oc, .slice none 0 0])), one u = true := by
          intro u hu
          simp only [List.mem_append, List.mem_cons, List.not_mem_nil, or_false] at hu
          rcases hu with hu | rfl | hu | rfl | rfl
          · exact one_bvs _ u hu
          · rfl
          · exact one_bvs _ u hu
          · rfl
          · rfl
        repeat (first | (refine OpG.keep ?_; refine OpG.upS cok 1 (vs := bvs y.ad ++ (.int .u64 (y.nonce : Nat) :: (bvs (be32 y.bal) ++ [Value.slice oa' y.code.length oc, .slice none 0 0]))) rfl rfl rfl rfl (congrArg (fun l : List Value => Value.agg l.toArray) hB) m1 m2 (ac_bound3 hlt) ?_) | refine And.intro ⟨⟨by assumption, Nat.le_of_ble_eq_true rfl⟩, fillOk_of (Eq.refl true)⟩ ?_ | refine SeqS.go cok ?_ | refine And.intro (Eq.refl true) ?_ | refine And.intro (by omega) ?_ | (refine NatS.keep ?_; first | with_reducible refine NatS.nat ?_) | (refine ValS.keep ?_; first | (with_reducible refine ValS.kI64 ?_; first | (with_reducible refine ValS.addI64_L ?_ ?_ ; omega))) | (refine still_in ?_; first | refine still_drop (by decide) ?_ | (refine still_keep (by decide) rfl ?_ ?_; first | exact QuV.of (QuG.elS cok hEa (by first | exact hra _ | exact hra2 _) rfl rfl rfl rfl elO hqa (by decide) l0 rfl) | exact QuV.of (QuG.elF cok hEa (by first | exact hra _ | exact hra2 _) rfl rfl rfl rfl elO hqa (by decide) l20 rfl))))
        refine ⟨r + 1, Rel.drop _ [_] ⟨⟨J2, _, _, ms ++ [_], hs.trans hs2, rfl, by rw [List.length_append, hml]; rfl, ?_, row_castA (row_snoc hrow hml2 hml), ?_, ?_⟩, hlt, rfl, rfl, rfl, rfl, rfl, rfl, trivial⟩, by show 3 - (r + 1) < 3 - r; omega⟩
        · intro l hl
          rcases List.mem_append.1 hl with hl | hl
          · exact hml2 l hl
          · rw [List.mem_singleton.1 hl]; exact m1
        · intro _
          have : r = 0 ∨ r = 1 ∨ r = 2 := by omega
          rcases this with rfl | rfl | rfl
          · obtain rfl : 0 = q := hq
            rfl
          · obtain rfl : j = q := hq
            refine Eq.trans (updNe ?_) (hc0 (by decide))
            show 0 ≠ addS 0 (mulS j 1)
            rw [addS_eq, mulS_eq]; omega
          · obtain rfl : k = q := hq
            refine Eq.trans (updNe ?_) (hc0 (by decide))
            show 0 ≠ addS 0 (mulS k 1)
            rw [addS_eq, mulS_eq]; omega
        · intro p hp
          by_cases hp2 : p < r
          · rw [List.getD_eq_getElem?_getD, List.getElem?_append_left (by omega), ← List.getD_eq_getElem?_getD]
            obtain ⟨cv, e1, e2⟩ := hall p hp2
            exact ⟨cv, e1, e2.mono hs2 (by simp)⟩
          · obtain rfl : p = r := by omega
            rw [List.getD_eq_getElem?_getD, List.getElem?_append_right (by omega), hml, Nat.sub_self, hq, hy]
            exact ⟨_, rfl, hoN⟩
      · obtain rfl : r = 3 := by omega
        repeat (first | refine SeqS.go cok ?_ | refine CondS.f rfl ?_)
        exact ⟨⟨J, cr, cw, ms, hs, rfl, hml, hml2, hrow, hc0, hall⟩, rfl, rfl, rfl, trivial⟩
  · rintro i e' S2 - ⟨M, v, rfl, hW, hi, hsl⟩
    obtain ⟨vad, vcap, rfl⟩ := hW.form
    have hkl := kM_len j k i
    refine W.slots _ hsl fun e => ?_
    by_cases hlt : i < ac.length
    · have hia : i < (ac.map VA.enc).length := by rw [List.length_map]; exact hlt
      have hem := fun G => vEmpty (I := I) (G := G) (x := x) (o := oa) (i := i) hEa (hra G) hia (hg i hlt) (h.aok _ (hm i hlt)).len (h.abl _ (hm i hlt)) (h.anc _ (hm i hlt)) (h.cd _ (hm i hlt))
      by_cases h0 : i = 0
      · subst h0
        rw [h.e0] at hem
        have hea : (((ac.map VA.enc).getD 0 []).drop 0).take 20 = bvs (adNo 1) := by rw [hg 0 hlt, enc_ad (h.aok _ (hm 0 hlt)).len, h.a0]
        repeat (first | (refine QuG.keep ?_; refine QuG.ld cok (hrc _) rfl rfl rfl rfl (by dsimp only; omega) hav ?_) | refine SeqS.go cok ?_ | refine And.intro (by omega) ?_ | (refine NatS.keep ?_; first | with_reducible refine NatS.nat ?_) | (refine CondS.keep ?_; first | refine CondS.d1 rfl (by omega) ?_))
        refine (hem _).mono ?_
        rintro r _ - ⟨rfl, rfl⟩
        repeat (first | (refine QuG.keep ?_; refine QuG.ld cok (hrc _) rfl rfl rfl rfl (by dsimp only; omega) hav ?_) | (refine QuG.keep ?_; refine QuG.elS cok hEa (hra _) rfl rfl rfl rfl elO0 hia (by decide) hea ?_) | refine SeqS.go cok ?_ | refine CondS.t rfl ?_ | refine And.intro (by omega) ?_ | (refine NatS.keep ?_; first | with_reducible refine NatS.nat ?_))
        refine vAddrWord1.mono ?_
        rintro r _ - ⟨rfl, rfl⟩
        repeat (first | refine And.intro (fillOk_of (Eq.refl true)) ?_ | refine And.intro (Eq.refl true) ?_ | refine And.intro (by dsimp only; omega) ?_ | (refine ValS.keep ?_; first | (with_reducible refine ValS.kI32 ?_; first | (with_reducible refine ValS.convI32 ?_ ?_ ; omega))))
        intro tb
        skip
        refine OpG.keep ?_
        refine OpG.app1 cok (L := G) (M := M) (vss := (kM j k 0).map SK.enc) (el := (SK.mk 0 1 0).enc) rfl rfl rfl rfl rfl rfl rfl rfl rfl hW ?_ ?_ ?_ ?_ ?_
        · exact row_eq (bK 1 0) (Row.updN2 _ 0 _)
        · rfl
        · exact SK.one _
        · rw [List.length_map]; omega
        intro v' M' hO'
        repeat (first | refine SeqS.go cok ?_ | (refine ValS.keep ?_; first | (with_reducible refine ValS.kI64 ?_; first | (with_reducible refine ValS.addI64_L ?_ ?_ ; omega))))
        exact ⟨1, Rel.same ⟨M', v', rfl, by rw [kM_0] at hO'; rw [kM_1 hj0 hk0]; exact hO', hlt, rfl, rfl, rfl, rfl, trivial⟩, by show ac.length - 1 < ac.length - 0; omega⟩
      · by_cases hj : i = j
        · subst hj
          rw [h.ej] at hem
          have hea : (((ac.map VA.enc).getD i []).drop 0).take 20 = bvs (adNo 240) := by rw [hg i hlt, enc_ad (h.aok _ (hm i hlt)).len, h.aj]
          repeat (first | (refine QuG.keep ?_; refine QuG.ld cok (hrc _) rfl rfl rfl rfl (by dsimp only; omega) hav ?_) | refine SeqS.go cok ?_ | refine And.intro (by omega) ?_ | (refine NatS.keep ?_; first | with_reducible refine NatS.nat ?_) | (refine CondS.keep ?_; first | refine CondS.d1 rfl (by omega) ?_))
          refine (hem _).mono ?_
          rintro r _ - ⟨rfl, rfl⟩
          repeat (first | (refine QuG.keep ?_; refine QuG.ld cok (hrc _) rfl rfl rfl rfl (by dsimp only; omega) hav ?_) | (refine QuG.keep ?_; refine QuG.elS cok hEa (hra _) rfl rfl rfl rfl elO0 hia (by decide) hea ?_) | refine SeqS.go cok ?_ | refine CondS.t rfl ?_ | refine And.intro (by omega) ?_ | (refine NatS.keep ?_; first | with_reducible refine NatS.nat ?_))
          refine vAddrWord240.mono ?_
          rintro r _ - ⟨rfl, rfl⟩
          repeat (first | refine And.intro (fillOk_of (Eq.refl true)) ?_ | refine And.intro (Eq.refl true) ?_ | refine And.intro (by dsimp only; omega) ?_ | (refine ValS.keep ?_; first | (with_reducible refine ValS.kI32 ?_; first | (with_reducible refine ValS.convI32 ?_ ?_ ; omega))))
          intro tb
          skip
          refine OpG.keep ?_
          refine OpG.app1 cok (L := G) (M := M) (vss := (kM i k i).map SK.enc) (el := (SK.mk 0 240 i).enc) rfl rfl rfl rfl rfl rfl rfl rfl rfl hW ?_ ?_ ?_ ?_ ?_
          · exact row_eq (bK 240 i) (Row.updN2 _ 0 _)
          · rfl
          · exact SK.one _
          · rw [List.length_map]; omega
          intro v' M' hO'
          repeat (first | refine SeqS.go cok ?_ | (refine ValS.keep ?_; first | (with_reducible refine ValS.kI64 ?_; first | (with_reducible refine ValS.addI64_L ?_ ?_ ; omega))))
          exact ⟨i + 1, Rel.same ⟨M', v', rfl, by rw [kM_j hj0 hk0 hjk, List.map_append]; exact hO', hlt, rfl, rfl, rfl, rfl, trivial⟩, by show ac.length - (i + 1) < ac.length - i; omega⟩
        · by_cases hk : i = k
          · subst hk
            rw [h.ek] at hem
            have hea : (((ac.map VA.enc).getD i []).drop 0).take 20 = bvs (crAd) := by rw [hg i hlt, enc_ad (h.aok _ (hm i hlt)).len, h.ak]
            repeat (first | (refine QuG.keep ?_; refine QuG.ld cok (hrc _) rfl rfl rfl rfl (by dsimp only; omega) hav ?_) | refine SeqS.go cok ?_ | refine And.intro (by omega) ?_ | (refine NatS.keep ?_; first | with_reducible refine NatS.nat ?_) | (refine CondS.keep ?_; first | refine CondS.d1 rfl (by omega) ?_))
            refine (hem _).mono ?_
            rintro r _ - ⟨rfl, rfl⟩
            repeat (first | (refine QuG.keep ?_; refine QuG.ld cok (hrc _) rfl rfl rfl rfl (by dsimp only; omega) hav ?_) | (refine QuG.keep ?_; refine QuG.elS cok hEa (hra _) rfl rfl rfl rfl elO0 hia (by decide) hea ?_) | refine SeqS.go cok ?_ | refine CondS.t rfl ?_ | refine And.intro (by omega) ?_ | (refine NatS.keep ?_; first | with_reducible refine NatS.nat ?_))
            refine vAddrWordC.mono ?_
            rintro r _ - ⟨rfl, rfl⟩
            repeat (first | refine And.intro (fillOk_of (Eq.refl true)) ?_ | refine And.intro (Eq.refl true) ?_ | refine And.intro (by dsimp only; omega) ?_ | (refine ValS.keep ?_; first | (with_reducible refine ValS.kI32 ?_; first | (with_reducible refine ValS.convI32 ?_ ?_ ; omega))))
            intro tb
            skip
            refine OpG.keep ?_
            refine OpG.app1 cok (L := G) (M := M) (vss := (kM j i i).map SK.enc) (el := (SK.mk 0 crN i).enc) rfl rfl rfl rfl rfl rfl rfl rfl rfl hW ?_ ?_ ?_ ?_ ?_
            · exact row_eq (bK crN i) (Row.updN2 _ 0 _)
            · rfl
            · exact SK.one _
            · rw [List.length_map]; omega
            intro v' M' hO'
            repeat (first | refine SeqS.go cok ?_ | (refine ValS.keep ?_; first | (with_reducible refine ValS.kI64 ?_; first | (with_reducible refine ValS.addI64_L ?_ ?_ ; omega))))
            exact ⟨i + 1, Rel.same ⟨M', v', rfl, by rw [kM_k hj0 hk0 hjk, List.map_append]; exact hO', hlt, rfl, rfl, rfl, rfl, trivial⟩, by show ac.length - (i + 1) < ac.length - i; omega⟩
          · rw [h.eo i hlt h0 hj hk] at hem
            repeat (first | (refine QuG.keep ?_; refine QuG.ld cok (hrc _) rfl rfl rfl rfl (by dsimp only; omega) hav ?_) | refine SeqS.go cok ?_ | refine And.intro (by omega) ?_ | (refine NatS.keep ?_; first | with_reducible refine NatS.nat ?_) | (refine CondS.keep ?_; first | refine CondS.d1 rfl (by omega) ?_))
            refine (hem _).mono ?_
            rintro r _ - ⟨rfl, rfl⟩
            repeat (first | refine SeqS.go cok ?_ | refine CondS.f rfl ?_ | (refine ValS.keep ?_; first | (with_reducible refine ValS.kI64 ?_; first | (with_reducible refine ValS.addI64_L ?_ ?_ ; omega))))
            exact ⟨i + 1, Rel.same ⟨M, _, rfl, by rw [kM_o h0 hj hk]; exact hW, hlt, rfl, rfl, rfl, rfl, trivial⟩, by show ac.length - (i + 1) < ac.length - i; omega⟩
    · obtain rfl : i = ac.length := by omega
      repeat (first | refine SeqS.go cok ?_ | (refine CondS.keep ?_; first | refine CondS.d0 rfl (by omega) ?_))
      exact ⟨M, _, rfl, hW, rfl, rfl, trivial⟩
end Go.Proofs.YgvafwGreat
