import Derived.Test.YgvafwGreatY87
import Derived.Test.YgvafwGreatL4
import Derived.Test.YgvafwGreatV28
set_option exponentiation.threshold 1000
set_option maxRecDepth 100000
set_option maxHeartbeats 40000000
set_option linter.unusedVariables false
set_option linter.unusedSimpArgs false
-- v2
-- v4
-- v5
-- v6
-- v7
-- still: exact QuV.of (QuG.subL cok 0 rfl rfl rfl rfl rfl rfl (by assumption) (by assumption) (by first | exact Nat.le_of_ble_eq_true rfl | omega) rfl)
-- still: exact QuV.of (QuG.upC cok 0 rfl rfl rfl rfl rfl rfl (by first | exact Nat.le_of_ble_eq_true rfl | omega) (by first | exact Nat.le_of_ble_eq_true rfl | omega) (by assumption) rfl)
-- still: exact QuV.of (QuG.ld cok (x := ⟨b6, 55, 58, c6⟩) (.inr (by simp)) rfl rfl rfl rfl (Nat.le_of_ble_eq_true rfl) h54 rfl)
-- plus: (refine QuG.keep ?_; refine QuG.ld cok (x := ⟨b6, 55, 58, c6⟩) (.inr (by simp)) rfl rfl rfl rfl (Nat.le_of_ble_eq_true rfl) h54 ?_)
-- plus: (refine QuG.keep ?_; refine QuG.ld cok (hrc _) rfl rfl rfl rfl (by dsimp only; omega) hav ?_)
-- plus: (refine QuG.keep ?_; refine QuG.elS cok hE (hrx _) rfl rfl rfl rfl elO0 hix (by decide) hll ?_)
namespace Go.Proofs.YgvafwGreat
open Go.HL Go.Proofs

/-- An account as the specification gives it. -/
def oaY (a : YA) : OA := ⟨a.addr, a.nonce, be32 a.bal, a.code, a.slots.map fun p => (be32 p.1, be32 p.2)⟩
def neY (a : YA) : Bool := !(decide (a.nonce = 0) && (decide (a.bal = 0) && decide (a.code.length = 0)))
/-- The world that is given. -/
def exY (al : List YA) : List OA := (al.filter neY).map oaY
theorem updN_at {z : Nat → Value} {l : List Value} {k : Nat} (h : k < l.length) : HL.updN z 0 l k = l.getD k undef := by
  simp only [HL.updN]; rw [if_pos (by omega), Nat.sub_zero]
theorem exY_take {al : List YA} {i : Nat} (h : i < al.length) : exY (al.take (i + 1)) = exY (al.take i) ++ (if neY (al.getD i dA) = true then [oaY (al.getD i dA)] else []) := by
  have e : al.getD i dA = al[i] := by rw [List.getD_eq_getElem?_getD, List.getElem?_eq_getElem h]; rfl
  unfold exY
  rw [List.take_succ_eq_append_getElem h, List.filter_append, List.map_append, e]
  congr 1
  by_cases hc : neY al[i] = true
  · rw [if_pos hc, List.filter_cons_of_pos hc]; rfl
  · rw [if_neg hc, List.filter_cons_of_neg hc]; rfl
/-- What the walk needs of an account. -/
structure AcX (I : Ent → Prop) (l : List Value) (a : YA) (na : Option Addr) (nm nc : Nat) (ba : Option Addr) (bm bc : Nat) (ca : Option Addr) (cc : Nat) (sa : Option Addr) (sc : Nat) : Prop where
  len : l.length = 24
  one : ∀ u ∈ l, one u = true
  ad : (l.drop 0).take 20 = bvs a.addr
  c20 : l.getD 20 undef = .slice na nm nc
  c21 : l.getD 21 undef = .slice ba bm bc
  c22 : l.getD 22 undef = .slice ca a.code.length cc
  c23 : l.getD 23 undef = .slice sa a.slots.length sc
  n : NatI I (.slice na nm nc) a.nonce
  b : NatI I (.slice ba bm bc) a.bal
  cb : Byt ⟨I, []⟩ (.slice ca a.code.length cc) a.code
  s : SlotsI I (.slice sa a.slots.length sc) a.slots
theorem AcctC.acx {I : Ent → Prop} {l : List Value} {a : YA} (h : AcctC I l a) : ∃ na nm nc ba bm bc ca cc sa sc, AcX I l a na nm nc ba bm bc ca cc sa sc := by
  have hl := h.len
  have ho := h.one
  obtain ⟨nv, bv, cv, sv, rfl, h1, h2, h3, h4⟩ := h.out
  have hb : (bvs a.addr).length = 20 := h.ok.bv
  obtain ⟨na, nm, nc, rfl⟩ : ∃ a m c, nv = .slice a m c := by
    obtain ⟨ds, hb, _⟩ := h1
    obtain ⟨a, c, rfl, _⟩ := hb.form
    exact ⟨a, _, c, rfl⟩
  obtain ⟨ba, bm, bc, rfl⟩ : ∃ a m c, bv = .slice a m c := by
    obtain ⟨ds, hb, _⟩ := h2
    obtain ⟨a, c, rfl, _⟩ := hb.form
    exact ⟨a, _, c, rfl⟩
  obtain ⟨ca, cc, rfl, -⟩ := h3.form
  obtain ⟨vss, hR, hvl, _⟩ := h4.out
  obtain ⟨sa, sc, rfl⟩ := hR.form
  rw [hvl] at *
  have g : ∀ k, k < 4 → (bvs a.addr ++ [Value.slice na nm nc, Value.slice ba bm bc, Value.slice ca a.code.length cc, Value.slice sa a.slots.length sc]).getD (20 + k) undef = [Value.slice na nm nc, .slice ba bm bc, .slice ca a.code.length cc, .slice sa a.slots.length sc].getD k undef := fun k hk => by
    rw [List.getD_eq_getElem?_getD, List.getElem?_append_right (by omega), hb, List.getD_eq_getElem?_getD, show 20 + k - 20 = k by omega]
  exact ⟨na, nm, nc, ba, bm, bc, ca, cc, sa, sc, hl, ho, by rw [List.drop_zero, ← hb, List.take_left], g 0 (by decide), g 1 (by decide), g 2 (by decide), g 3 (by decide), h1, h2, h3, h4⟩
/-- An account's cells but the last. -/
def a54 (a : YA) (oa : Option Addr) (oc : Nat) : List Value := bvs a.addr ++ (.int .u64 (a.nonce : Nat) :: (bvs (be32 a.bal) ++ [.slice oa a.code.length oc]))
theorem a54_app (a : YA) (oa : Option Addr) (oc : Nat) (w : Value) : bvs a.addr ++ (.int .u64 (a.nonce : Nat) :: (bvs (be32 a.bal) ++ [.slice oa a.code.length oc, w])) = a54 a oa oc ++ [w] := by simp [a54]
theorem a54_len {a : YA} {oa : Option Addr} {oc : Nat} (ha : (bvs a.addr).length = 20) (hb : (bvs (be32 a.bal)).length = 32) : (a54 a oa oc).length = 54 := by simp only [a54, List.length_append, List.length_cons, ha, hb, List.length_nil]
theorem a54_row {a : YA} {oa : Option Addr} {oc : Nat} {z : Nat → Value} {w : Value} (ha : (bvs a.addr).length = 20) (hb : (bvs (be32 a.bal)).length = 32) : Row (HL.updN z 0 (bvs a.addr ++ (.int .u64 (a.nonce : Nat) :: (bvs (be32 a.bal) ++ [.slice oa a.code.length oc, w])))) 0 (a54 a oa oc) := by
  have hl := a54_len (oa := oa) (oc := oc) ha hb
  rw [a54_app]
  refine ⟨fun i hi => ?_⟩
  rw [Nat.zero_add, updN_at (by rw [List.length_append]; omega), List.getD_eq_getElem?_getD, List.getElem?_append_left hi, ← List.getD_eq_getElem?_getD]
theorem a54_54 {a : YA} {oa : Option Addr} {oc : Nat} {z : Nat → Value} {w : Value} (ha : (bvs a.addr).length = 20) (hb : (bvs (be32 a.bal)).length = 32) : HL.updN z 0 (bvs a.addr ++ (.int .u64 (a.nonce : Nat) :: (bvs (be32 a.bal) ++ [.slice oa a.code.length oc, w]))) 54 = w := by
  have hl := a54_len (oa := oa) (oc := oc) ha hb
  rw [a54_app, updN_at (by rw [List.length_append, hl]; exact Nat.lt_succ_self 54), List.getD_eq_getElem?_getD, List.getElem?_append_right (by omega), hl]; rfl
theorem slots_el {I : Ent → Prop} {sa : Option Addr} {sc k : Nat} {ss : List (Nat × Nat)} (h : SlotsI I (.slice sa ss.length sc) ss) (hk : k < ss.length) : ∃ vs2 x2 o2 cap2, Value.slice sa ss.length sc = HL.sl x2.b o2 ss.length cap2 ∧ I x2 ∧ Els x2 o2 2 vs2 ∧ vs2.length = ss.length ∧ ∃ ka km kc va vm vc', vs2.getD k [] = [Value.slice ka km kc, Value.slice va vm vc'] ∧ NatI I (.slice ka km kc) (ss.getD k (0, 0)).1 ∧ NatI I (.slice va vm vc') (ss.getD k (0, 0)).2 := by
  obtain ⟨vs2, hR, hvl, hel⟩ := h.out
  obtain ⟨kv, vv, e1, h1, h2⟩ := hel k hk
  rcases hR.2 with ⟨_, h3⟩ | ⟨x2, o2, cap2, g1, g2, g3, g4⟩
  · rw [h3] at hvl; simp at hvl; omega
  · rw [hvl] at g1
    obtain ⟨d1, hb1, _⟩ := h1
    obtain ⟨ka, kc, rfl, _⟩ := hb1.form
    obtain ⟨d2, hb2, _⟩ := h2
    obtain ⟨va, vc', rfl, _⟩ := hb2.form
    exact ⟨vs2, x2, o2, cap2, g1, g3, g4, hvl, ka, _, kc, va, _, vc', e1, ⟨d1, hb1, ‹_›⟩, ⟨d2, hb2, ‹_›⟩⟩
theorem take_sn {l : List (Nat × Nat)} {k : Nat} (h : k < l.length) : l.take (k + 1) = l.take k ++ [l.getD k (0, 0)] := by
  rw [List.take_succ_eq_append_getElem h, List.getD_eq_getElem?_getD, List.getElem?_eq_getElem h]; rfl
theorem a54_all {a : YA} {oa : Option Addr} {oc : Nat} {c : Nat → Value} {w : Value} (ha : (bvs a.addr).length = 20) (hb : (bvs (be32 a.bal)).length = 32) (hr : Row c 0 (a54 a oa oc)) (h : c 54 = w) : Row c 0 (a54 a oa oc ++ [w]) := by
  have hl := a54_len (oa := oa) (oc := oc) ha hb
  refine ⟨fun i hi => ?_⟩
  rw [List.length_append, hl] at hi
  by_cases h1 : i < 54
  · rw [List.getD_eq_getElem?_getD, List.getElem?_append_left (by omega), ← List.getD_eq_getElem?_getD]; exact hr.get i (by omega)
  · have hi : i < 55 := hi
    obtain rfl : i = 54 := by omega
    rw [Nat.zero_add, h, List.getD_eq_getElem?_getD, List.getElem?_append_right (by omega), hl]; rfl
theorem exY_len (al : List YA) : (exY al).length ≤ al.length := by
  unfold exY; rw [List.length_map]; exact List.length_filter_le ..
theorem oacY {J2 : Ent → Prop} {a : YA} {oa w2a : Option Addr} {oc w2c : Nat} {M2 : List Ent} (hok : AdOk a.addr) (hoN : Byt ⟨J2, []⟩ (.slice oa a.code.length oc) a.code) (hW2 : OwnL 127 64 (.slice w2a (a.slots.map slV).length w2c) (a.slots.map slV) M2) (hsl : a.slots.length < 2 ^ 17) : OAC (fun x => J2 x ∨ x ∈ M2) (a54 a oa oc ++ [Value.slice w2a (a.slots.map slV).length w2c]) (oaY a) := by
  rw [← a54_app]
  refine ⟨hok, rfl, be32_lt2 _, ?_, ?_, _, _, rfl, hoN.mono (fun _ h => .inl h) (by simp), ?_⟩
  · intro p hp
    obtain ⟨p', _, rfl⟩ := List.mem_map.1 hp
    exact ⟨rfl, rfl, be32_lt2 _, be32_lt2 _⟩
  · show (a.slots.map _).length < 2 ^ 30
    rw [List.length_map]; omega
  · have e3 : ((a.slots.map fun p => (be32 p.1, be32 p.2)).map fun p => bvs p.1 ++ bvs p.2) = a.slots.map slV := by rw [List.map_map]; rfl
    show RowI _ 64 _ ((a.slots.map fun p => (be32 p.1, be32 p.2)).map fun p => bvs p.1 ++ bvs p.2)
    rw [e3]
    exact hW2.row (fun x hx => .inr hx)
theorem _root_.Go.HL.Rel.frzR {J : St → Prop} {I : Ent → Prop} {x y : Ent} {A M : List Ent} (h : J ⟨fun z => I z ∨ z ∈ M, x :: y :: A⟩) : Rel J ⟨I, x :: y :: (A ++ M)⟩ :=
  ⟨[], M, x :: y :: A, _, perm_sum fun f => by simp only [sumE, sumE_append]; omega, fun _ => .rfl, h⟩
/-- yp.Chain.Export -/
theorem yExport {I : Ent → Prop} {G : List Ent} {sb : Nat} {cs : Nat → Value} {al : List YA} (hsb : I ⟨sb, 179, 118, cs⟩) (hA : AcctsI I (cs 0) al) (hlen : al.length < 2 ^ 17) (hnn : ∀ a ∈ al, a.nonce < 2 ^ 64) (hbb : ∀ a ∈ al, a.bal < 2 ^ 256) (hsl : ∀ a ∈ al, a.slots.length < 2 ^ 17) (hss : ∀ a ∈ al, ∀ p ∈ a.slots, p.1 < 2 ^ 256 ∧ p.2 < 2 ^ 256) :
    CallG Hvaf.prog 15 #[ptr sb 0] ⟨I, G⟩ fun r S' => S'.G = G ∧ OWI S'.I r (exY al) := by
  obtain ⟨vss, hR, hvl, hel⟩ := hA.out
  obtain ⟨wa, wc, hav⟩ := hR.form
  rw [hvl] at hav
  have hrc : ∀ G, Rd ⟨I, G⟩ ⟨sb, 179, 118, cs⟩ := fun _ => .inl hsb
  refine CallG.start (C := mkC Hvaf.prog) cok (args := [ptr sb 0]) Hvaf.func15 rfl Hvaf.ntmps15 (by simp) (by kernel_rfl) ?_
  repeat (first | (refine QuG.keep ?_; refine QuG.ld cok (hrc _) rfl rfl rfl rfl (by dsimp only; omega) hav ?_) | refine SeqS.go cok ?_)
  refine W.loopF cok (by kernel_rfl) 0 (fun (i : Nat) e' S' => ∃ (J : Ent → Prop) (M : List Ent) (v : Value) (ms : List (List Value)), HL.Sub I J ∧ S' = ⟨J, G ++ M⟩ ∧ OwnL 58 55 v ms M ∧ L2 (OAC J) dOA ms (exY (al.take i)) ∧ i ≤ al.length ∧ slots [(3, v), (14, .slice wa al.length wc), (15, .int .i64 (al.length : Nat)), (16, .int .i64 (i : Nat))] e') (fun i => al.length - i) 0
    (Rel.perm (G ++ []) [] (by rw [List.append_nil, List.append_nil]) ⟨I, [], _, [], fun _ h => h, rfl, OwnL.nil _ _, L2.nil _ _, Nat.zero_le _, rfl, rfl, rfl, rfl, trivial⟩) (fun e' S' => ∃ (J : Ent → Prop) (M : List Ent) (v : Value) (ms : List (List Value)), HL.Sub I J ∧ S' = ⟨J, G ++ M⟩ ∧ OwnL 58 55 v ms M ∧ L2 (OAC J) dOA ms (exY al) ∧ slots [(3, v)] e') ?_ ?_
  · rintro e' S2 - ⟨J, M, v, ms, hs, rfl, hW, hL, hsl2⟩
    obtain ⟨vad, vcap, rfl⟩ := hW.form
    refine SeqS.slots cok _ hsl2 fun e => ?_
    repeat (first | refine SeqS.go cok ?_)
    exact Fin.own [] G M ⟨rfl, ms, hW.row (fun x hx => .inr hx), hL.mono fun _ _ h => h.up sub_frz⟩
  · rintro i e' S2 - ⟨J, M, v, ms, hs, rfl, hW, hL, hi, hsl2⟩
    obtain ⟨vad, vcap, rfl⟩ := hW.form
    refine W.slots _ hsl2 fun e => ?_
    by_cases hlt : i < al.length
    · obtain ⟨a, ha⟩ : ∃ a, al.getD i dA = a := ⟨_, rfl⟩
      have ham : a ∈ al := ha ▸ getD_mem hlt
      obtain ⟨l, hl⟩ : ∃ l, vss.getD i [] = l := ⟨_, rfl⟩
      have hC := hel i hlt
      rw [hl, show al.getD i ⟨[], 0, 0, [], []⟩ = a from ha] at hC
      obtain ⟨na, nm, nc, ba, bm, bc, ca, cc, sa, sc, hX⟩ := hC.acx
      obtain ⟨x, o, cap, hwx, hxI, hE⟩ : ∃ x o cap, Value.slice wa al.length wc = HL.sl x.b o al.length cap ∧ I x ∧ Els x o 24 vss := by
        rcases hR.2 with ⟨_, h2⟩ | ⟨x, o, cap, h1, h2, h3, h4⟩
        · rw [h2] at hvl; simp at hvl; omega
        · rw [hav, hvl] at h1; exact ⟨x, o, cap, h1, h3, h4⟩
      cases hwx
      have hrx : ∀ G, Rd ⟨J, G⟩ x := fun _ => .inl (hs _ hxI)
      have hix : i < vss.length := by omega
      have q1 := hX.len
      have q2 := hX.one
      have q3 := hX.ad
      have q4 := hX.c20
      have q5 := hX.c21
      have q6 := hX.c22
      have q7 := hX.c23
      have q8 := hC.ok.bv
      have hll : ((vss.getD i []).drop 0).take 24 = l := by rw [hl, List.drop_zero, List.take_of_length_le (by omega)]
      have hem := fun (z : Nat → Value) (b : Nat) (G : List Ent) => yEmpty (I := J) (G := G) (b := b) (sz := 24) (T := 121) (c := HL.updN z 0 l) (by decide) (by rw [updN_at (by omega), q4]; exact hX.n.up hs) (by rw [updN_at (by omega), q5]; exact hX.b.up hs) (by rw [updN_at (by omega), q6]; exact hX.cb.mono hs (by simp))
      by_cases hne : neY a = true
      · have hne2 : (decide (a.nonce = 0) && (decide (a.bal = 0) && decide (a.code.length = 0))) = false := by
          unfold neY at hne; rw [Bool.not_eq_true'] at hne; exact hne
        rw [hne2] at hem
        have hsm := fun (G : List Ent) => ySmall (I := J) (G := G) (hX.n.up hs)
        rw [if_pos (hnn a ham)] at hsm
        have hwd := fun (G : List Ent) => yWord (I := J) (G := G) (hX.b.up hs) (hbb a ham)
        have h32 : (bvs (be32 a.bal)).length = 32 := by rw [bvs_len']; rfl
        have hsn := hsl a ham
        repeat (first | (refine QuG.keep ?_; first | refine QuG.elE cok _ (by assumption) (by first | assumption | exact ‹∀ G, Rd ⟨_, G⟩ _› _) (by assumption) rfl rfl rfl rfl rfl (by omega) ?_) | refine SeqS.go cok ?_ | refine And.intro (by omega) ?_ | (refine NatS.keep ?_; first | with_reducible refine NatS.nat ?_) | (refine CondS.keep ?_; first | refine CondS.d1 rfl (by omega) ?_))
        intro b5
        repeat (first | (refine OpG.keep ?_; first | refine OpG.upS cok 0 rfl rfl rfl rfl rfl (by assumption) (by first | assumption | exact one_bvs _) (by first | exact Nat.le_of_ble_eq_true rfl | omega) ?_) | refine SeqS.go cok ?_)
        refine (hem _ _ _).mono ?_
        rintro r _ - ⟨rfl, rfl⟩
        repeat (first | (refine QuG.keep ?_; first | refine QuG.subL cok 0 rfl rfl rfl rfl rfl rfl (by assumption) (by assumption) (by first | exact Nat.le_of_ble_eq_true rfl | omega) ?_ | refine QuG.upC cok 0 rfl rfl rfl rfl rfl rfl (by first | exact Nat.le_of_ble_eq_true rfl | omega) (by first | exact Nat.le_of_ble_eq_true rfl | omega) (by assumption) ?_) | refine SeqS.go cok ?_ | refine CondS.f rfl ?_ | refine W.drawI 6 cok [0, 1, 0, 4, 12, 0, 32, 124, 0, 256, 1020, 2047, 0, 8191] [0, 1, 2, 3, 5, 6, 8, 9, 4, 7, 10, 11, 12, 13] [1, 3, 6, 9] (by kernel_rfl) (by kernel_rfl) ?_)
        refine (hsm _).mono ?_
        rintro r _ - ⟨rfl, rfl⟩
        repeat (first | (refine still_in ?_; first | refine still_nil ?_ | refine still_drop (by decide) ?_ | (refine still_keep (by decide) rfl ?_ ?_; first | exact QuV.of (QuG.subL cok 0 rfl rfl rfl rfl rfl rfl (by assumption) (by assumption) (by first | exact Nat.le_of_ble_eq_true rfl | omega) rfl) | exact QuV.of (QuG.upC cok 0 rfl rfl rfl rfl rfl rfl (by first | exact Nat.le_of_ble_eq_true rfl | omega) (by first | exact Nat.le_of_ble_eq_true rfl | omega) (by assumption) rfl))))
        refine (hwd _).mono ?_
        rintro r _ - ⟨rfl, rfl⟩
        repeat (first | (refine still_in ?_; first | refine still_nil ?_ | refine still_drop (by decide) ?_ | (refine still_keep (by decide) rfl ?_ ?_; first | exact QuV.of (QuG.subL cok 0 rfl rfl rfl rfl rfl rfl (by assumption) (by assumption) (by first | exact Nat.le_of_ble_eq_true rfl | omega) rfl) | exact QuV.of (QuG.upC cok 0 rfl rfl rfl rfl rfl rfl (by first | exact Nat.le_of_ble_eq_true rfl | omega) (by first | exact Nat.le_of_ble_eq_true rfl | omega) (by assumption) rfl))))
        refine callBS (yBytesOf (Byt.ext (hX.cb.mono hs (by simp)))) fun oa oc J2 hs2 hoN => ?_
        have hB := build_ac (z := z58) (n := a.nonce) (ca := oa) (cn := a.code.length) (cc := oc) q8 h32 rfl
        have m1 : (bvs a.addr ++ (.int .u64 (a.nonce : Nat) :: (bvs (be32 a.bal) ++ [Value.slice oa a.code.length oc, .slice none 0 0]))).length = 55 := by simp only [List.length_append, List.length_cons, q8, h32, List.length_nil]
        have m2 : ∀ u ∈ bvs a.addr ++ (.int .u64 (a.nonce : Nat) :: (bvs (be32 a.bal) ++ [Value.slice oa a.code.length oc, .slice none 0 0])), one u = true := by
          intro u hu
          simp only [List.mem_append, List.mem_cons, List.not_mem_nil, or_false] at hu
          rcases hu with hu | rfl | hu | rfl | rfl
          · exact one_bvs _ u hu
          · rfl
          · exact one_bvs _ u hu
          · rfl
          · rfl
        repeat (first | refine And.intro ⟨⟨by assumption, Nat.le_of_ble_eq_true rfl⟩, fillOk_of (Eq.refl true)⟩ ?_ | refine And.intro (Eq.refl true) ?_ | (refine still_in ?_; first | refine still_drop (by decide) ?_ | (refine still_keep (by decide) rfl ?_ ?_; first | exact QuV.of (QuG.subL cok 0 rfl rfl rfl rfl rfl rfl (by assumption) (by assumption) (by first | exact Nat.le_of_ble_eq_true rfl | omega) rfl))))
        intro b6
        repeat (first | (refine OpG.keep ?_; refine OpG.upS cok 0 (vs := bvs a.addr ++ (.int .u64 (a.nonce : Nat) :: (bvs (be32 a.bal) ++ [Value.slice oa a.code.length oc, .slice none 0 0]))) rfl rfl rfl rfl (congrArg (fun l : List Value => Value.agg l.toArray) hB) m1 m2 (Nat.le_of_ble_eq_true rfl) ?_) | (refine QuG.keep ?_; first | refine QuG.upC cok 1 rfl rfl rfl rfl rfl rfl (by first | exact Nat.le_of_ble_eq_true rfl | omega) (by first | exact Nat.le_of_ble_eq_true rfl | omega) (by assumption) ?_) | refine SeqS.go cok ?_ | (refine still_in ?_; first | refine still_drop (by decide) ?_))
        refine W.loopF cok (by kernel_rfl) 2 (fun (k : Nat) e' S' => (∃ (c6 c5 : Nat → Value) (w2 : Value) (M2 : List Ent), S' = ⟨J2, ⟨b6, 55, 58, c6⟩ :: ⟨b5, 24, 121, c5⟩ :: ((G ++ M) ++ M2)⟩ ∧ Row c6 0 (a54 a oa oc) ∧ c6 54 = w2 ∧ OwnL 127 64 w2 ((a.slots.take k).map slV) M2) ∧ k ≤ a.slots.length ∧ slots [(3, .slice vad ms.length vcap), (6, ptr b6 0), (14, HL.sl x.b o al.length wc), (15, .int .i64 (al.length : Nat)), (16, .int .i64 (i : Nat)), (34, .slice sa a.slots.length sc), (35, .int .i64 (a.slots.length : Nat)), (36, .int .i64 (k : Nat))] e') (fun k => a.slots.length - k) 0
          (Rel.perm (_ :: _ :: ((G ++ M) ++ [])) [] (by rw [List.append_nil, List.append_nil]; exact List.Perm.refl _) ⟨⟨_, _, _, [], rfl, a54_row q8 h32, a54_54 q8 h32, OwnL.nil _ _⟩, Nat.zero_le _, rfl, rfl, rfl, rfl, rfl, rfl, rfl, rfl, trivial⟩) (fun e' S' => (∃ (c6 c5 : Nat → Value) (w2 : Value) (M2 : List Ent), S' = ⟨J2, ⟨b6, 55, 58, c6⟩ :: ⟨b5, 24, 121, c5⟩ :: ((G ++ M) ++ M2)⟩ ∧ Row c6 0 (a54 a oa oc) ∧ c6 54 = w2 ∧ OwnL 127 64 w2 (a.slots.map slV) M2) ∧ slots [(3, .slice vad ms.length vcap), (6, ptr b6 0), (14, HL.sl x.b o al.length wc), (15, .int .i64 (al.length : Nat)), (16, .int .i64 (i : Nat))] e') ?_ ?_
        · rintro e' S3 - ⟨⟨c6, c5, w2, M2, rfl, hr6, h54, hW2⟩, hsl3⟩
          obtain ⟨w2a, w2c, rfl⟩ := hW2.form
          have hr7 := a54_all (w := .slice w2a (a.slots.map slV).length w2c) q8 h32 hr6 h54
          have hl7 : (a54 a oa oc ++ [Value.slice w2a (a.slots.map slV).length w2c]).length = 55 := by rw [List.length_append, a54_len q8 h32]; rfl
          have ho7 : ∀ u ∈ a54 a oa oc ++ [Value.slice w2a (a.slots.map slV).length w2c], one u = true := by
            rw [← a54_app]
            intro u hu
            simp only [List.mem_append, List.mem_cons, List.not_mem_nil, or_false] at hu
            rcases hu with hu | rfl | hu | rfl | rfl
            · exact one_bvs _ u hu
            · rfl
            · exact one_bvs _ u hu
            · rfl
            · rfl
          have hOA : OAC (fun x => J2 x ∨ x ∈ M2) (a54 a oa oc ++ [Value.slice w2a (a.slots.map slV).length w2c]) (oaY a) := oacY hC.ok hoN hW2 (hsl a ham)
          refine SeqS.rel (Rel.frzR ?_)
          refine SeqS.slots cok _ hsl3 fun e => ?_
          repeat (first | (refine QuG.keep ?_; refine QuG.rowE cok (x := ⟨b6, 55, 58, c6⟩) hr7 (.inr (by simp)) rfl rfl rfl rfl rfl hl7 (Nat.le_of_ble_eq_true rfl) ?_) | refine And.intro ⟨⟨by assumption, Nat.le_of_ble_eq_true rfl⟩, trivial⟩ ?_ | refine And.intro (by dsimp only; omega) ?_)
          intro tb
          skip
          refine OpG.keep ?_
          refine OpG.app1 cok (L := _ :: _ :: G) (M := M) (vss := ms) (el := a54 a oa oc ++ [Value.slice w2a (a.slots.map slV).length w2c]) rfl rfl rfl rfl rfl rfl rfl rfl rfl hW ?_ hl7 ho7 ?_ ?_
          · exact Row.updN2 _ 0 _
          · have := hL.1; have h2 := exY_len (al.take i); rw [List.length_take] at h2; omega
          intro v' M' hO'
          repeat (first | refine SeqS.go cok ?_ | (refine ValS.keep ?_; first | (with_reducible refine ValS.kI64 ?_; first | (with_reducible refine ValS.addI64_L ?_ ?_ ; omega))))
          exact ⟨i + 1, Rel.drop (G ++ M') [_, _] ⟨_, M', v', ms ++ [_], (hs.trans hs2).trans (fun _ h => .inl h), rfl, hO', by rw [exY_take hlt, ha, if_pos hne]; exact L2.snoc (hL.mono fun _ _ h => h.up (hs2.trans fun _ h => .inl h)) hOA, hlt, rfl, rfl, rfl, rfl, trivial⟩, by show al.length - (i + 1) < al.length - i; omega⟩
        · rintro k e' S3 - ⟨⟨c6, c5, w2, M2, rfl, hr6, h54, hW2⟩, hk, hsl3⟩
          obtain ⟨w2a, w2c, rfl⟩ := hW2.form
          refine W.slots _ hsl3 fun e => ?_
          by_cases hlt2 : k < a.slots.length
          · obtain ⟨p, hp⟩ : ∃ p, a.slots.getD k (0, 0) = p := ⟨_, rfl⟩
            have hpm : p ∈ a.slots := hp ▸ getD_mem hlt2
            obtain ⟨vs2, x2, o2, cap2, hsx, hx2, hE2, hvl2, ka, km, kc, va, vm, vc', hel2, hk1, hk2⟩ := slots_el hX.s hlt2
            cases hsx
            rw [hp] at hk1 hk2
            have hrx2 : ∀ G, Rd ⟨J2, G⟩ x2 := fun _ => .inl (hs2 _ (hs _ hx2))
            have hix2 : k < vs2.length := by omega
            have hll2 : ((vs2.getD k []).drop 0).take 2 = [Value.slice ka km kc, Value.slice va vm vc'] := by rw [hel2]; rfl
            have hpb := hss a ham p hpm
            have hw1 := fun (G : List Ent) => yWord (I := J2) (G := G) ((hk1.up hs).up hs2) hpb.1
            have hw2 := fun (G : List Ent) => yWord (I := J2) (G := G) ((hk2.up hs).up hs2) hpb.2
            have hB2 := build_sl (z := z127) (a := be32 p.1) (b := be32 p.2) rfl rfl
            have hone2 : ∀ u ∈ slV p, one u = true := fun u hu => by
              rcases List.mem_append.1 hu with hu | hu <;> exact one_bvs _ u hu
            repeat (first | (refine QuG.keep ?_; refine QuG.elS cok hE2 (hrx2 _) rfl rfl rfl rfl elO0 hix2 (by decide) hll2 ?_) | refine SeqS.go cok ?_ | refine And.intro (by omega) ?_ | (refine NatS.keep ?_; first | with_reducible refine NatS.nat ?_) | (refine CondS.keep ?_; first | refine CondS.d1 rfl (by omega) ?_))
            intro b8
            repeat (first | (refine QuG.keep ?_; first | refine QuG.l1E cok 1 rfl rfl rfl rfl rfl (by first | exact Nat.le_of_ble_eq_true rfl | omega | (dsimp only; omega) | (simp only [addS_eq, mulS_eq]; omega)) (by assumption) ?_) | refine SeqS.go cok ?_ | (refine QuG.keep ?_; first | refine QuG.l1 cok 0 rfl rfl rfl rfl rfl (by first | exact Nat.le_of_ble_eq_true rfl | omega | (dsimp only; omega) | (simp only [addS_eq, mulS_eq]; omega)) ?_) | (refine OpG.keep ?_; first | refine OpG.sL cok 0 rfl rfl rfl rfl rfl rfl rfl (by first | exact Nat.le_of_ble_eq_true rfl | omega | (dsimp only; omega) | (simp only [addS_eq, mulS_eq]; omega)) ?_) | refine W.drawI 10 cok [0, 1, 0, 4, 12, 0, 32, 124, 252, 508, 1023, 2047, 4095] [0, 1, 2, 3, 5, 6, 4, 7, 8, 9, 10, 11, 12] [1, 3, 6] (by kernel_rfl) (by kernel_rfl) ?_)
            refine (hw1 _).mono ?_
            rintro r _ - ⟨rfl, rfl⟩
            repeat (first | (refine still_in ?_; first | refine still_nil ?_ | refine still_drop (by decide) ?_ | (refine still_keep (by decide) rfl ?_ ?_; first | exact QuV.l1 cok 0 rfl rfl rfl rfl rfl (by first | exact Nat.le_of_ble_eq_true rfl | omega | (dsimp only; omega) | (simp only [addS_eq, mulS_eq]; omega)) rfl | exact QuV.l1 cok 1 rfl rfl rfl rfl rfl (by first | exact Nat.le_of_ble_eq_true rfl | omega | (dsimp only; omega) | (simp only [addS_eq, mulS_eq]; omega)) (by assumption))))
            refine (hw2 _).mono ?_
            rintro r _ - ⟨rfl, rfl⟩
            repeat (first | refine And.intro ⟨⟨by assumption, Nat.le_of_ble_eq_true rfl⟩, fillOk_of (Eq.refl true)⟩ ?_ | refine And.intro (fillOk_of (Eq.refl true)) ?_ | refine And.intro (Eq.refl true) ?_ | refine And.intro (by dsimp only; omega) ?_ | (refine still_in ?_; first | refine still_drop (by decide) ?_ | (refine still_keep (by decide) rfl ?_ ?_; first | exact QuV.l1 cok 1 rfl rfl rfl rfl rfl (by first | exact Nat.le_of_ble_eq_true rfl | omega | (dsimp only; omega) | (simp only [addS_eq, mulS_eq]; omega)) (by assumption))))
            intro tb
            repeat (first | (refine still_in ?_; first | refine still_nil ?_ | refine still_drop (by decide) ?_ | (refine still_keep (by decide) rfl ?_ ?_; first | exact QuV.l1 cok 2 rfl rfl rfl rfl rfl (by first | exact Nat.le_of_ble_eq_true rfl | omega | (dsimp only; omega) | (simp only [addS_eq, mulS_eq]; omega)) (by assumption))))
            refine OpG.keep ?_
            refine OpG.app1 cok (L := _ :: _ :: _ :: (G ++ M)) (M := M2) (vss := (a.slots.take k).map slV) (el := slV p) rfl rfl rfl rfl rfl rfl rfl rfl rfl hW2 ?_ ?_ ?_ ?_ ?_
            · exact row_eq hB2 (Row.updN2 _ 0 _)
            · rfl
            · exact hone2
            · rw [List.length_map, List.length_take]; omega
            intro v' M' hO'
            have hv1 := hO'.one
            repeat (first | (refine OpG.keep ?_; refine OpG.s1E cok 1 54 rfl rfl rfl rfl rfl rfl (Nat.le_of_ble_eq_true rfl) rfl hv1 ?_) | refine SeqS.go cok ?_ | (refine ValS.keep ?_; first | (with_reducible refine ValS.kI64 ?_; first | (with_reducible refine ValS.addI64_L ?_ ?_ ; omega))) | (refine still_in ?_; first | refine still_drop (by decide) ?_))
            exact ⟨k + 1, Rel.drop (_ :: _ :: ((G ++ M) ++ M')) [_] ⟨⟨_, c5, v', M', rfl, Row.congr hr6 fun j h1 h2 => upd_ne (by rw [a54_len q8 h32] at h2; omega), rfl, by rw [take_sn hlt2, hp, List.map_append]; exact hO'⟩, hlt2, rfl, rfl, rfl, rfl, rfl, rfl, rfl, rfl, trivial⟩, by show a.slots.length - (k + 1) < a.slots.length - k; omega⟩
          · obtain rfl : k = a.slots.length := by omega
            rw [List.take_length] at hW2 h54
            repeat (first | refine SeqS.go cok ?_ | (refine CondS.keep ?_; first | refine CondS.d0 rfl (by omega) ?_))
            exact ⟨⟨c6, c5, _, M2, rfl, hr6, h54, hW2⟩, rfl, rfl, rfl, rfl, rfl, trivial⟩
      · have hne2 : (decide (a.nonce = 0) && (decide (a.bal = 0) && decide (a.code.length = 0))) = true := by
          unfold neY at hne; simpa using hne
        rw [hne2] at hem
        repeat (first | (refine QuG.keep ?_; first | refine QuG.elE cok _ (by assumption) (by first | assumption | exact ‹∀ G, Rd ⟨_, G⟩ _› _) (by assumption) rfl rfl rfl rfl rfl (by omega) ?_) | refine SeqS.go cok ?_ | refine And.intro (by omega) ?_ | (refine NatS.keep ?_; first | with_reducible refine NatS.nat ?_) | (refine CondS.keep ?_; first | refine CondS.d1 rfl (by omega) ?_))
        intro b5
        repeat (first | (refine OpG.keep ?_; first | refine OpG.upS cok 0 rfl rfl rfl rfl rfl (by assumption) (by first | assumption | exact one_bvs _) (by first | exact Nat.le_of_ble_eq_true rfl | omega) ?_) | refine SeqS.go cok ?_)
        refine (hem _ _ _).mono ?_
        rintro r _ - ⟨rfl, rfl⟩
        repeat (first | refine SeqS.go cok ?_ | refine CondS.t rfl ?_ | (refine ValS.keep ?_; first | (with_reducible refine ValS.kI64 ?_; first | (with_reducible refine ValS.addI64_L ?_ ?_ ; omega))))
        exact ⟨i + 1, Rel.drop (G ++ M) [_] ⟨J, M, _, ms, hs, rfl, hW, by rw [exY_take hlt, ha, if_neg hne, List.append_nil]; exact hL, hlt, rfl, rfl, rfl, rfl, trivial⟩, by show al.length - (i + 1) < al.length - i; omega⟩
    · obtain rfl : i = al.length := by omega
      rw [List.take_length] at hL
      repeat (first | refine SeqS.go cok ?_ | (refine CondS.keep ?_; first | refine CondS.d0 rfl (by omega) ?_))
      exact ⟨J, M, _, ms, hs, rfl, hW, hL, rfl, trivial⟩
end Go.Proofs.YgvafwGreat
