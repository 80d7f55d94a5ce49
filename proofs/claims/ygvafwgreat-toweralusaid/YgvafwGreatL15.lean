import Derived.Test.YgvafwGreatHZ
import Derived.Test.YgvafwGreatHB3
import Derived.Test.YgvafwGreatY76
import Derived.Test.YgvafwGreatY41
import Derived.Test.YgvafwGreatL5
import Derived.Test.YgvafwGreatN10
set_option exponentiation.threshold 1000
set_option maxRecDepth 100000
set_option maxHeartbeats 4000000
set_option linter.unusedVariables false
set_option linter.unusedSimpArgs false
-- v2
-- v4
-- v5
-- v6
-- v7
-- still: exact QuV.of (QuG.boxL cok 0 rfl rfl rfl rfl rfl (by assumption) rfl)
-- still: exact QuV.of (QuG.boxL cok 1 rfl rfl rfl rfl rfl (by assumption) rfl)
-- still: exact QuV.of (QuG.boxL cok 2 rfl rfl rfl rfl rfl (by assumption) rfl)
-- still: exact QuV.of (QuG.boxL cok 3 rfl rfl rfl rfl rfl (by assumption) rfl)
namespace Go.Proofs.YgvafwGreat
open Go.HL Go.Proofs

/-- append of bytes into a row that has room -/
theorem _root_.Go.HL.OpG.appB {C : Cfg} {e : Env} {ty : TypeId} {K : Post} (hC : C.Ok) {s x : Operand} {ts tx : TypeId} {i i2 j : TI} {len cap b : Nat} {I : Ent → Prop} {L : List Ent} {T : TypeId} {c : Nat → Value} {xv : Value} {acc ds : List Nat} (hD : C.D ts = some i) (hk : i.kind = 4) (hj : C.D i.elem = some j) (hj1 : j.size = 1) (hD2 : C.D tx = some i2) (hk2 : i2.kind = 4)
    (hs : ev e s = HL.sl b 0 len cap) (hx : ev e x = xv) (hB : Byt ⟨I, []⟩ xv ds) (hlen : acc.length = len) (hP : ∀ p, p < len → c p = .int .u8 (acc.getD p 0 : Nat)) (hroom : len + ds.length ≤ cap)
    (h : ∀ c', (∀ p, p < len + ds.length → c' p = .int .u8 ((acc ++ ds).getD p 0 : Nat)) → K (HL.sl b 0 (len + ds.length) cap) ⟨I, ⟨b, mulS cap 1, T, c'⟩ :: L⟩) :
    OpG C.P (.call ⟨.builtin .append, #[s, x], #[ts, tx]⟩) ty e ⟨I, ⟨b, mulS cap 1, T, c⟩ :: L⟩ K := by
  rcases hB.cases with ⟨rfl, rfl⟩ | ⟨y, o, cap', rfl, h1, h2, hy, hbs⟩
  · refine OpG.appendNil hC hD hk hj hD2 hk2 hs hx (by simpa using hroom) (h c fun p hp => ?_)
    rw [List.append_nil]; exact hP p hp
  · have hy2 : Rd ⟨I, ⟨b, mulS cap 1, T, c⟩ :: L⟩ y := hy.mono (.refl _) (by simp)
    refine OpG.appendRoom hC 0 rfl hD hk hj hD2 hk2 hs rfl hx hy2 rfl ?_ hroom ?_ ?_ ?_
    · rw [hj1, mulS_eq, Nat.mul_one]; exact hbs.1
    · show 0 + mulS (len + ds.length) j.size ≤ mulS cap 1
      rw [hj1, mulS_eq, mulS_eq]; omega
    · intro p hp
      rw [hj1, mulS_eq, Nat.mul_one] at hp
      rw [hbs.2 p hp]; rfl
    · show K _ ⟨I, ⟨b, mulS cap 1, T, HL.updN c (0 + mulS len j.size) (cellsFrom y.c o (mulS ds.length j.size))⟩ :: L⟩
      refine h _ fun p hp => ?_
      rw [hj1, mulS_eq, mulS_eq, Nat.mul_one, Nat.mul_one, Nat.zero_add]
      simp only [HL.updN, cellsFrom_length]
      by_cases hp2 : p < len
      · rw [if_neg (by omega), hP p hp2, List.getD_eq_getElem?_getD, List.getD_eq_getElem?_getD, List.getElem?_append_left (by omega)]
      · rw [if_pos (by omega), cellsFrom_getD _ _ _ _ (by omega), hbs.2 (p - len) (by omega)]
        rw [List.getD_eq_getElem?_getD, List.getD_eq_getElem?_getD, List.getElem?_append_right (by omega), hlen]
theorem byt_row {J : Ent → Prop} {b cap n : Nat} {T : TypeId} {c : Nat → Value} {ds : List Nat} (hb : J ⟨b, mulS cap 1, T, c⟩) (hl : ds.length = n) (hc : ∀ p, p < n → c p = .int .u8 (ds.getD p 0 : Nat)) (h8 : ∀ d ∈ ds, d < 256) (hn : n ≤ cap) (hcap : cap < 2 ^ 63) (h47 : n < 2 ^ 47) : Byt ⟨J, []⟩ (HL.sl b 0 n cap) ds := by
  subst hl
  refine ⟨h8, h47, _, _, rfl, hn, hcap, .inr ⟨⟨b, mulS cap 1, T, c⟩, 0, rfl, .inl hb, ?_, fun i hi => ?_⟩⟩
  · show 0 + ds.length ≤ mulS cap 1; rw [mulS_eq]; omega
  · show c (0 + i) = _
    rw [Nat.zero_add]; exact hc i hi
theorem p32C {c3 : Nat → Value} {w : List Nat} (hl : w.length = 32) (r1 : ∀ p, p < mulS 1 1 → c3 p = .int .u8 ((127 : Nat) : Int)) (r2 : ∀ p, p < mulS 32 1 → c3 (mulS 1 1 + p) = vc (bytesV w) (0 + p)) : ∀ p, p < 1 + 32 → c3 p = .int .u8 ((127 :: w).getD p 0 : Nat) := by
  intro p hp
  rcases Nat.eq_zero_or_pos p with rfl | h
  · exact r1 0 (by decide)
  · obtain ⟨k, rfl⟩ : ∃ k, p = 1 + k := ⟨p - 1, by omega⟩
    have hk : k < 32 := by omega
    have e := r2 k hk
    rw [show mulS 1 1 = 1 from rfl] at e
    rw [e, show vc (bytesV w) (0 + k) = _ from (Row.box (bvs w)).get k (by simp; omega), Nat.add_comm 1 k, List.getD_cons_succ, bvs, List.getD_eq_getElem?_getD, List.getElem?_map, List.getElem?_eq_getElem (by omega), List.getD_eq_getElem?_getD, List.getElem?_eq_getElem (by omega)]; rfl
/-- law.push32 -/
theorem lPush32 {I : Ent → Prop} {G : List Ent} {w : List Nat} (hl : w.length = 32) (h8 : ∀ d ∈ w, d < 256) :
    CallG Hvaf.prog 20 #[bytesV w] ⟨I, G⟩ fun r S' => S'.G = G ∧ Byt ⟨S'.I, []⟩ r (127 :: w) := by
  have hsz : (bytesV w).cells.size = 32 := by show (bvs w).toArray.size = 32; simp [hl]
  have hb32 : (bvs w).length = 32 := by simp [hl]
  refine CallG.start (C := mkC Hvaf.prog) cok (args := [bytesV w]) Hvaf.func20 rfl Hvaf.ntmps20 (by simp) (by kernel_rfl) ?_
  intro b1
  repeat (first | refine SeqS.go cok ?_ | refine And.intro (fillOk_of (Eq.refl true)) ?_ | refine And.intro (by dsimp only; omega) ?_)
  intro b2
  repeat (first | refine And.intro (Eq.refl true) ?_ | (refine ValS.keep ?_; first | with_reducible refine ValS.sl0 ?_))
  refine OpG.keep ?_
  refine OpG.appendNewB cok (y := ⟨b1, (bytesV w).cells.size, _, vc (bytesV w)⟩) (len := 1) (cap := 1) (m := 32) (cs := fun _ => .int .u8 ((127 : Nat) : Int)) rfl rfl rfl (by decide) rfl rfl rfl ⟨_, rfl⟩ ?_ rfl (.inr (List.mem_of_getElem? (i := 1) rfl)) rfl (by show 0 + mulS 32 1 ≤ (bytesV w).cells.size; rw [hsz]; decide) (by decide) (by decide) (by decide) ?_
  · intro F w' hw
    exact firstCells_run hw (y := ⟨b2, 1, 5, _⟩) (.inr List.mem_cons_self) (o := 0) (by show 0 + 1 * 1 ≤ 1; decide) 1 1 rfl
  intro b3 cap3 c3 hc3 hm3 r1 r2
  repeat (first | refine SeqS.go cok ?_)
  exact Fin.frz1 ⟨rfl, byt_row (T := 5) (.inr List.mem_cons_self) (show (127 :: w).length = 1 + 32 by rw [List.length_cons, hl]) (p32C hl r1 r2) (fun d hd => by rcases List.mem_cons.1 hd with rfl | hd; decide; exact h8 d hd) hc3 hm3 (by decide)⟩
theorem _root_.Go.HL.Fin.frzA {K : Post} {v : Value} {I : Ent → Prop} {a : Ent} {G : List Ent} (h : K v ⟨fun x => I x ∨ x ∈ [a], G⟩) : HL.Fin K v ⟨I, a :: G⟩ :=
  ⟨[], [a], G, _, by simp, fun _ => .rfl, h⟩
/-- law.join -/
theorem lJoin {I : Ent → Prop} {G : List Ent} {va vb vc vd : Value} {da db dc dd : List Nat} (ha : Byt ⟨I, []⟩ va da) (hb : Byt ⟨I, []⟩ vb db) (hc : Byt ⟨I, []⟩ vc dc) (hd : Byt ⟨I, []⟩ vd dd) (hs : da.length + db.length + dc.length + dd.length < 2 ^ 20) :
    CallG Hvaf.prog 19 #[va, vb, vc, vd] ⟨I, G⟩ fun r S' => S'.G = G ∧ Byt ⟨S'.I, []⟩ r (da ++ db ++ dc ++ dd) := by
  obtain ⟨aa, ac, rfl, _⟩ := ha.form
  obtain ⟨ba, bc, rfl, _⟩ := hb.form
  obtain ⟨ca, cc, rfl, _⟩ := hc.form
  obtain ⟨xa, xc, rfl, _⟩ := hd.form
  have h8 : ∀ d ∈ [] ++ da ++ db ++ dc ++ dd, d < 256 := fun d h => by
    simp only [List.mem_append, List.not_mem_nil, false_or] at h
    rcases h with ((h | h) | h) | h
    · exact ha.1 d h
    · exact hb.1 d h
    · exact hc.1 d h
    · exact hd.1 d h
  refine CallG.start (C := mkC Hvaf.prog) cok (args := [.slice aa da.length ac, .slice ba db.length bc, .slice ca dc.length cc, .slice xa dd.length xc]) Hvaf.func19 rfl Hvaf.ntmps19 (by simp) (by kernel_rfl) ?_
  repeat (first | refine SeqS.go cok ?_ | refine And.intro (by dsimp only; omega) ?_ | (refine NatS.keep ?_; first | with_reducible refine NatS.lit ?_ | with_reducible refine NatS.nat ?_) | (refine ValS.keep ?_; first | (with_reducible refine ValS.kI64 ?_; first | (with_reducible refine ValS.addI64 ?_ ?_ ; omega))))
  intro b
  repeat (first | refine SeqS.go cok ?_)
  refine OpG.keep ?_
  refine OpG.appB cok (acc := []) (ds := da) rfl rfl rfl rfl rfl rfl rfl rfl ha rfl (fun p hp => absurd hp (by omega)) (by omega) ?_
  intro c1 q1
  repeat (first | refine SeqS.go cok ?_)
  refine OpG.keep ?_
  refine OpG.appB cok (acc := [] ++ da) (ds := db) rfl rfl rfl rfl rfl rfl rfl rfl hb (by simp) q1 (by omega) ?_
  intro c2 q2
  repeat (first | refine SeqS.go cok ?_)
  refine OpG.keep ?_
  refine OpG.appB cok (acc := [] ++ da ++ db) (ds := dc) rfl rfl rfl rfl rfl rfl rfl rfl hc (by simp) q2 (by omega) ?_
  intro c3 q3
  repeat (first | refine SeqS.go cok ?_)
  refine OpG.keep ?_
  refine OpG.appB cok (acc := [] ++ da ++ db ++ dc) (ds := dd) rfl rfl rfl rfl rfl rfl rfl rfl hd (by simp; omega) q3 (by omega) ?_
  intro c4 q4
  repeat (first | refine SeqS.go cok ?_)
  refine Fin.frzA ⟨rfl, byt_row (T := 5) (.inr List.mem_cons_self) (by simp; omega) q4 h8 (by omega) (by omega) (by omega)⟩
theorem frzB {P : Program} {f : FuncId} {args : Array Value} {I : Ent → Prop} {b : Nat} {T : TypeId} {c : Nat → Value} {G : List Ent} {K : Post} (ds : List Nat) (hn : ds.length < 2 ^ 40) (h8 : ∀ d ∈ ds, d < 256) (hc : ∀ p, p < ds.length → c p = .int .u8 (ds.getD p 0 : Nat)) (h : ∀ J, HL.Sub I J → Byt ⟨J, []⟩ (HL.sl b 0 ds.length ds.length) ds → CallG P f args ⟨J, G⟩ K) : CallG P f args ⟨I, ⟨b, ds.length, T, c⟩ :: G⟩ K := by
  have e : ds.length = mulS ds.length 1 := by rw [mulS_eq, Nat.mul_one]
  refine CallG.frz [⟨b, ds.length, T, c⟩] G (h _ (fun _ h => .inl h) (byt_row (T := T) (c := c) ?_ rfl hc h8 (Nat.le_refl _) (Nat.lt_of_lt_of_le hn (by decide)) (Nat.lt_of_lt_of_le hn (by decide))))
  rw [← e]
  exact .inr List.mem_cons_self
/-- law.aluProgram -/
theorem lAluProgram {I : Ent → Prop} {G : List Ent} {q : AQ} (hq : q.Ok) :
    CallG Hvaf.prog 6 #[.int .u8 (q.o : Nat), bytesV q.a, bytesV q.b, bytesV q.c] ⟨I, G⟩ fun r S' => S'.G = G ∧ Byt ⟨S'.I, []⟩ r q.code := by
  have ho := hq.o
  have a32 : (bvs q.a).length = 32 := by simp [hq.a.1]
  have b32 : (bvs q.b).length = 32 := by simp [hq.b.1]
  have c32 : (bvs q.c).length = 32 := by simp [hq.c.1]
  have sa : (bytesV q.a).cells.size = 32 := by show (bvs q.a).toArray.size = 32; simp [hq.a.1]
  have sb : (bytesV q.b).cells.size = 32 := by show (bvs q.b).toArray.size = 32; simp [hq.b.1]
  have sc : (bytesV q.c).cells.size = 32 := by show (bvs q.c).toArray.size = 32; simp [hq.c.1]
  have hlen : (127 :: q.c).length + (127 :: q.b).length + (127 :: q.a).length + [q.o].length < 2 ^ 20 := by
    rw [List.length_cons, List.length_cons, List.length_cons, hq.a.1, hq.b.1, hq.c.1]; show 32 + 1 + (32 + 1) + (32 + 1) + 1 < 2 ^ 20; decide
  have hlen2 : (127 :: q.c ++ 127 :: q.b ++ 127 :: q.a ++ [q.o]).length + [95, 82, 96, 32, 95, 243].length + ([] : List Nat).length + ([] : List Nat).length < 2 ^ 20 := by
    simp only [List.length_append, List.length_cons, hq.a.1, hq.b.1, hq.c.1, List.length_nil]; decide
  have hcode : 127 :: q.c ++ 127 :: q.b ++ 127 :: q.a ++ [q.o] ++ [95, 82, 96, 32, 95, 243] ++ [] ++ [] = q.code := by simp [AQ.code]
  refine CallG.start (C := mkC Hvaf.prog) cok (args := [.int .u8 (q.o : Nat), bytesV q.a, bytesV q.b, bytesV q.c]) Hvaf.func6 rfl Hvaf.ntmps6 (by simp) (by kernel_rfl) ?_
  intro b1 b2 b3
  repeat (first | (refine HB.W.drawB 1 cok [0, 1, 0, 7, 0, 31, 0, 64, 255, 0, 1023, 2047] [0, 2, 4, 6, 1, 3, 5, 7, 8, 9, 10, 11] [0, 2, 4] [6] (by kernel_rfl) (by kernel_rfl) ?_) | (refine QuG.keep ?_; first | refine QuG.boxL cok 0 rfl rfl rfl rfl rfl (by assumption) ?_ | refine QuG.boxL cok 1 rfl rfl rfl rfl rfl (by assumption) ?_ | refine QuG.boxL cok 2 rfl rfl rfl rfl rfl (by assumption) ?_) | refine SeqS.go cok ?_ | refine And.intro (Eq.refl true) ?_)
  refine callBS (lPush32 hq.c.1 hq.c.2) fun a1 k1 J1 hs1 hB1 => ?_
  replace hs1 : HL.Sub I J1 := hs1
  repeat (first | (refine still_in ?_; first | refine still_nil ?_ | refine still_drop (by decide) ?_ | (refine still_keep (by decide) rfl ?_ ?_; first | exact QuV.of (QuG.boxL cok 1 rfl rfl rfl rfl rfl (by assumption) rfl) | exact QuV.of (QuG.boxL cok 2 rfl rfl rfl rfl rfl (by assumption) rfl))))
  refine callBS (lPush32 hq.b.1 hq.b.2) fun a2 k2 J2 hs2 hB2 => ?_
  replace hs2 : HL.Sub J1 J2 := hs2
  repeat (first | (refine still_in ?_; first | refine still_nil ?_ | refine still_drop (by decide) ?_ | (refine still_keep (by decide) rfl ?_ ?_; first | exact QuV.of (QuG.boxL cok 2 rfl rfl rfl rfl rfl (by assumption) rfl))))
  refine callBS (lPush32 hq.a.1 hq.a.2) fun a3 k3 J3 hs3 hB3 => ?_
  replace hs3 : HL.Sub J2 J3 := hs3
  repeat (first | (refine still_in ?_; first | refine still_nil ?_ | refine still_drop (by decide) ?_))
  intro b4
  skip
  refine frzB [q.o] (by show 1 < 2 ^ 40; decide) ?_ ?_ fun J4 hs4 hB4 => ?_
  · intro d hd; rw [List.mem_singleton.1 hd]; exact ho
  · intro p hp
    have hp : p < 1 := hp
    obtain rfl : p = 0 := by omega
    rfl
  refine callBS (lJoin (hB1.mono ((hs2.trans hs3).trans hs4) (by simp)) (hB2.mono (hs3.trans hs4) (by simp)) (hB3.mono hs4 (by simp)) hB4 hlen) fun a5 k5 J5 hs5 hB5 => ?_
  replace hs5 : HL.Sub J4 J5 := hs5
  repeat (first | (refine still_in ?_; first | refine still_nil ?_ | refine still_drop (by decide) ?_))
  intro b5
  skip
  refine frzB [95, 82, 96, 32, 95, 243] (by decide) (by decide) ?_ fun J6 hs6 hB6 => ?_
  · intro p hp
    have hp : p < 6 := hp
    rcases (by omega : p = 0 ∨ p = 1 ∨ p = 2 ∨ p = 3 ∨ p = 4 ∨ p = 5) with rfl | rfl | rfl | rfl | rfl | rfl <;> rfl
  refine callBS (lJoin (hB5.mono hs6 (by simp)) hB6 (Byt.nil _) (Byt.nil _) hlen2) fun a7 k7 J7 hs7 hB7 => ?_
  repeat (first | refine SeqS.go cok ?_ | refine And.intro (Eq.refl true) ?_ | (refine still_in ?_; first | refine still_drop (by decide) ?_))
  exact Fin.drop G [_, _, _] ⟨rfl, hcode ▸ hB7⟩
end Go.Proofs.YgvafwGreat
