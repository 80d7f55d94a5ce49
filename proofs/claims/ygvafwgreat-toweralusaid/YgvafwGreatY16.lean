import Derived.Test.YgvafwGreatY15
set_option maxRecDepth 100000
set_option maxHeartbeats 4000000
set_option linter.unusedVariables false
set_option linter.unusedSimpArgs false
-- v2
-- v4
-- v5
namespace Go.Proofs.YgvafwGreat
open Go.HL Go.Proofs

def ltM (t x : TM) : Bool := ltL t.1 x.1 || (decide (t.1 = x.1) && decide (t.2.1 < x.2.1))
/-- The marks with one in its place. -/
def insM (t : TM) : List TM → List TM
  | [] => [t]
  | x :: l => if ltM t x then t :: x :: l else x :: insM t l
theorem insM_len (t : TM) : ∀ l, (insM t l).length = l.length + 1
  | [] => rfl
  | x :: l => by
    unfold insM; split
    · rfl
    · rw [List.length_cons, insM_len t l, List.length_cons]
theorem drop_consT {l : List TM} {i : Nat} (h : i < l.length) : l.drop i = l.getD i dT :: l.drop (i + 1) := by
  rw [List.drop_eq_getElem_cons h, List.getD_eq_getElem?_getD, List.getElem?_eq_getElem h]; rfl
theorem NatI.sform {I : Ent → Prop} {v : Value} {n : Nat} (h : NatI I v n) : ∃ a m cap, v = .slice a m cap := by
  obtain ⟨ds, a, _⟩ := h; obtain ⟨x, y, rfl, _⟩ := a.form; exact ⟨_, _, _, rfl⟩
theorem build21 {A : List Value} (h : A.length = 20) (z : Nat → Value) (k : Value) : cellsFrom (HL.updN (HL.updN z 0 A) 20 [k]) 0 21 = A ++ [k] := by
  apply List.ext_getElem?
  intro i
  by_cases hi : i < 21
  · rw [cellsFrom_get _ _ _ _ hi, Nat.zero_add]
    by_cases h20 : i < 20
    · rw [List.getElem?_append_left (by omega)]
      simp only [HL.updN, List.length_singleton, h, Nat.zero_add, Nat.zero_le, true_and, Nat.sub_zero]
      rw [if_neg (by omega), if_pos h20, List.getD_eq_getElem?_getD, List.getElem?_eq_getElem (by omega)]; rfl
    · obtain rfl : i = 20 := by omega
      rw [List.getElem?_append_right (by omega), h]; rfl
  · rw [List.getElem?_eq_none (by simp; omega), List.getElem?_eq_none (by simp; omega)]
theorem MkC.new {I : Ent → Prop} {a : List Nat} {k : Nat} {v : Value} (hA : AdOk a) (hv : NatI I v k) (x : Nat) : MkC I (bvs a ++ [v]) (a, k, x) := ⟨hA, v, rfl, hv⟩
/-- yp.World.warmSlot -/
theorem yWarmSlotNew {I : Ent → Prop} {G : List Ent} {wb sz k : Nat} {T : TypeId} {c : Nat → Value} {ml : List TM} {a : List Nat} {v : Value} (hsz : 8 ≤ sz) (hN : MarksI I (c 2) ml) (hA : AdOk a) (hN2 : NatI I v k) (hlen : ml.length < 2 ^ 18) (hnew : (findT a k ml).isSome = false) :
    CallG Hvaf.prog 62 #[ptr wb 0, bytesV a, v] ⟨I, ⟨wb, sz, T, c⟩ :: G⟩ fun r S' => ∃ J w, S' = ⟨J, ⟨wb, sz, T, upd c 2 w⟩ :: G⟩ ∧ MarksI J w (insM (a, k, 0) ml) := by
  have hw := fun (G : List Ent) => yIsWarmSlot (wb := wb) (T := T) (G := G) hsz hN hA hN2 (by omega)
  rw [hnew] at hw
  have ha := hA.bv
  have hla := hA.len
  obtain ⟨vss, hR, hL0⟩ := hN.out
  have hvl := hL0.len
  obtain ⟨ad, cap, hc⟩ := hR.form
  obtain ⟨ka, kn, kc, rfl⟩ := NatI.sform hN2
  obtain ⟨t, ht⟩ : ∃ t : TM, t = (a, k, 0) := ⟨_, rfl⟩
  obtain ⟨ln, hln⟩ : ∃ ln, ln = bvs a ++ [.slice ka kn kc] := ⟨_, rfl⟩
  have hT : MkC I ln t := by rw [hln, ht]; exact MkC.new hA hN2 0
  have hlnl := hT.len
  have hlno := hT.one
  have hbl := build21 ha (z242) (.slice ka kn kc)
  rw [← hln] at hbl
  rw [← ht]
  refine CallG.start (C := mkC Hvaf.prog) cok (args := [ptr wb 0, bytesV a, .slice ka kn kc]) Hvaf.func62 rfl Hvaf.ntmps62 (by simp) (by kernel_rfl) ?_
  intro b4
  repeat (first | (refine QuG.keep ?_; first | refine QuG.boxL cok 0 rfl rfl rfl rfl rfl (by assumption) ?_) | refine SeqS.go cok ?_)
  refine CallG.focus 1 rfl ?_
  refine (hw _).mono ?_
  rintro r _ - ⟨rfl, rfl⟩
  repeat (first | (refine QuG.keep ?_; first | refine QuG.l1E cok 0 rfl rfl rfl rfl rfl (by first | exact Nat.le_of_ble_eq_true rfl | omega | (dsimp only; omega) | (simp only [addS_eq, mulS_eq]; omega)) (by assumption) ?_) | refine SeqS.go cok ?_ | refine CondS.f rfl ?_)
  refine W.focus cok (by kernel_rfl) 1 rfl ?_
  refine W.loopF cok (by kernel_rfl) 0 (fun (p : Nat × Bool × List TM × List (List Value) × Value × List Ent) e' S' => S' = ⟨I, ⟨b4, (bvs a).length, 31, vc (bytesV a)⟩ :: ⟨wb, sz, T, c⟩ :: (G ++ p.2.2.2.2.2)⟩ ∧ p.1 ≤ ml.length ∧ OwnL 242 21 p.2.2.2.2.1 p.2.2.2.1 p.2.2.2.2.2 ∧ L2 (MkC I) dT p.2.2.2.1 p.2.2.1 ∧ p.2.2.1 ++ (if p.2.1 then ml.drop p.1 else insM t (ml.drop p.1)) = insM t ml ∧
      slots [(0, ptr wb 0), (2, .slice ka kn kc), (4, ptr b4 0), (6, p.2.2.2.2.1), (7, .bool p.2.1), (17, .slice ad vss.length cap), (18, .int .i64 (vss.length : Nat)), (19, .int .i64 (p.1 : Nat))] e') (fun p => ml.length - p.1) (0, false, [], [], .slice none 0 0, [])
    (Rel.perm (⟨b4, (bvs a).length, 31, vc (bytesV a)⟩ :: ⟨wb, sz, T, c⟩ :: (G ++ [])) [] (by (rw [List.append_nil, List.append_nil]; try exact List.Perm.refl _)) ⟨rfl, Nat.zero_le _, OwnL.nil _ _, L2.nil _ _, rfl, rfl, rfl, rfl, rfl, rfl, rfl, rfl, rfl, trivial⟩)
    (fun e' S' => ∃ laid out vo w M, S' = ⟨I, ⟨b4, (bvs a).length, 31, vc (bytesV a)⟩ :: ⟨wb, sz, T, c⟩ :: (G ++ M)⟩ ∧ OwnL 242 21 w vo M ∧ L2 (MkC I) dT vo out ∧ out ++ (if laid then [] else [t]) = insM t ml ∧ slots [(0, ptr wb 0), (2, .slice ka kn kc), (4, ptr b4 0), (6, w), (7, .bool laid)] e') ?_ ?_
  · rintro e' S2 - ⟨laid, out, vo, w, M, rfl, hO, hL, hout, hsl⟩
    refine SeqS.slots cok _ hsl fun e => ?_
    have hol := congrArg List.length hout
    rw [insM_len] at hol
    have hvo := hL.len
    rw [List.length_append] at hol
    cases laid
    · repeat (first | (refine QuG.keep ?_; first | refine QuG.boxL cok 0 rfl rfl rfl rfl rfl (by assumption) ?_) | refine And.intro ⟨⟨by assumption, Nat.le_of_ble_eq_true rfl⟩, fillOk_of (Eq.refl true)⟩ ?_ | refine SeqS.go cok ?_ | refine CondS.t rfl ?_ | refine And.intro (fillOk_of (Eq.refl true)) ?_ | refine And.intro (Eq.refl true) ?_ | refine And.intro (by dsimp only; omega) ?_)
      intro tb
      skip
      refine OpG.keep ?_
      refine OpG.app1 cok (L := _ :: _ :: G) (M := M) (vss := vo) (el := ln) rfl rfl rfl rfl rfl rfl rfl rfl rfl ?_ ?_ ?_ ?_ ?_ ?_
      · exact hO
      · rw [← hbl]; exact Row.updN2 _ 0 _
      · exact hlnl
      · exact hlno
      · (try simp only [List.length_append, List.length_singleton]); omega
      intro w' M' hO'
      have hone' := hO'.one
      repeat (first | (refine OpG.keep ?_; first | refine OpG.s1 cok 1 rfl rfl rfl rfl rfl (by first | exact Nat.le_of_ble_eq_true rfl | omega | (dsimp only; omega) | (simp only [addS_eq, mulS_eq]; omega)) rfl (by assumption) ?_) | refine SeqS.go cok ?_)
      refine ⟨[⟨b4, (bvs a).length, 31, vc (bytesV a)⟩], M', ⟨wb, sz, T, _⟩ :: G, _, ?_, fun _ => .rfl, _, w', rfl, ?_⟩
      · exact perm_put
      · rw [← hout]
        exact ⟨_, hO'.row (fun x hx => .inr hx), (hL.mono fun _ _ h => h.up sub_frz).snoc (hT.up sub_frz)⟩
    · have hone' := hO.one
      repeat (first | (refine OpG.keep ?_; first | refine OpG.s1 cok 1 rfl rfl rfl rfl rfl (by first | exact Nat.le_of_ble_eq_true rfl | omega | (dsimp only; omega) | (simp only [addS_eq, mulS_eq]; omega)) rfl (by assumption) ?_) | refine SeqS.go cok ?_ | refine CondS.f rfl ?_)
      refine ⟨[⟨b4, (bvs a).length, 31, vc (bytesV a)⟩], M, ⟨wb, sz, T, _⟩ :: G, _, ?_, fun _ => .rfl, _, w, rfl, ?_⟩
      · exact perm_put
      · rw [← hout, if_pos rfl, List.append_nil]
        exact ⟨_, hO.row (fun x hx => .inr hx), hL.mono fun _ _ h => h.up sub_frz⟩
  · rintro ⟨i, laid, out, vo, w, M⟩ e' S2 - ⟨hSt, hi, hO, hL, hout, hsl⟩
    dsimp only at hSt hi hO hL hout hsl
    subst hSt
    refine W.slots _ hsl fun e => ?_
    have hol := congrArg List.length hout
    rw [insM_len, List.length_append] at hol
    have hvo := hL.len
    by_cases hlt : i < ml.length
    · rw [hc] at hR
      obtain ⟨x, o, rfl, hx, hE⟩ := hR.some (by omega)
      have hac := hL0.at' i hlt
      obtain ⟨lx, hl⟩ : ∃ lx, vss.getD i [] = lx := ⟨_, rfl⟩
      obtain ⟨tx, htx⟩ : ∃ tx, ml.getD i dT = tx := ⟨_, rfl⟩
      rw [drop_consT hlt, htx] at hout
      rw [hl, htx] at hac
      have hrd : ∀ G, Rd ⟨I, G⟩ x := fun _ => .inl hx
      have hle := hac.len
      have hone := hac.one
      have had := hac.ad
      have hb20 := hac.ok.bv
      have hl20 := hac.ok.len
      obtain ⟨kv, hg20, m1⟩ := hac.get
      have hbf := fun (S : St) => yBefore (S := S) hla hl20 hA.b8 hac.ok.b8
      cases laid
      · rw [if_neg (by decide), insM] at hout
        cases hb : ltL a tx.1
        · rw [hb] at hbf
          by_cases heq : a = tx.1
          · rcases Nat.lt_trichotomy k tx.2.1 with h | h | h
            · rw [if_pos (by rw [ht]; simp [ltM, hb, heq, h])] at hout
              repeat (first | (refine QuG.keep ?_; first | refine QuG.elE cok _ (by assumption) (by first | assumption | exact ‹∀ G, Rd ⟨_, G⟩ _› _) (by assumption) rfl rfl rfl rfl rfl (by omega) ?_) | refine SeqS.go cok ?_ | refine And.intro (by omega) ?_ | (refine NatS.keep ?_; first | with_reducible refine NatS.nat ?_) | (refine CondS.keep ?_; first | refine CondS.d1 rfl (by omega) ?_))
              intro b9
              repeat (first | (refine QuG.keep ?_; first | refine QuG.subL cok 0 rfl rfl rfl rfl rfl rfl (by assumption) (by assumption) (by first | exact Nat.le_of_ble_eq_true rfl | omega) ?_ | refine QuG.boxL cok 1 rfl rfl rfl rfl rfl (by assumption) ?_) | (refine OpG.keep ?_; first | refine OpG.upS cok 0 rfl rfl rfl rfl rfl (by assumption) (by first | assumption | exact one_bvs _) (by first | exact Nat.le_of_ble_eq_true rfl | omega) ?_) | refine SeqS.go cok ?_ | refine GuardS.yes rfl ?_)
              refine (hbf _).mono ?_
              rintro r _ - ⟨rfl, rfl⟩
              repeat (first | (refine QuG.keep ?_; first | refine QuG.subL cok 0 rfl rfl rfl rfl rfl rfl (by assumption) (by assumption) (by first | exact Nat.le_of_ble_eq_true rfl | omega) ?_ | refine QuG.boxL cok 1 rfl rfl rfl rfl rfl (by assumption) ?_ | refine QuG.upC cok 0 rfl rfl rfl rfl rfl rfl (by first | exact Nat.le_of_ble_eq_true rfl | omega) (by first | exact Nat.le_of_ble_eq_true rfl | omega) (by assumption) ?_ | refine QuG.eqA cok .u8 rfl rfl rfl rfl rfl (by kernel_rfl) rfl rfl (by assumption) (by assumption) ?_) | refine GuardS.yes rfl ?_ | (refine GuardS.keep ?_; first | refine GuardS.T1 rfl (by omega) ?_))
              refine (nCmpL hN2 m1 h).mono ?_
              rintro r _ - ⟨rfl, rfl⟩
              repeat (first | (refine QuG.keep ?_; first | refine QuG.boxL cok 1 rfl rfl rfl rfl rfl (by assumption) ?_) | refine And.intro ⟨⟨by assumption, Nat.le_of_ble_eq_true rfl⟩, fillOk_of (Eq.refl true)⟩ ?_ | refine SeqS.go cok ?_ | refine GuardS.yes rfl ?_ | refine CondS.t rfl ?_ | refine And.intro (fillOk_of (Eq.refl true)) ?_ | refine And.intro (Eq.refl true) ?_ | refine And.intro (by dsimp only; omega) ?_)
              intro tb
              skip
              refine OpG.keep ?_
              refine OpG.app1 cok (L := _ :: _ :: _ :: G) (M := M) (vss := vo) (el := ln) rfl rfl rfl rfl rfl rfl rfl rfl rfl ?_ ?_ ?_ ?_ ?_ ?_
              · exact hO
              · rw [← hbl]; exact Row.updN2 _ 0 _
              · exact hlnl
              · exact hlno
              · (try simp only [List.length_append, List.length_singleton]); omega
              intro w' M' hO'
              repeat (first | (refine QuG.keep ?_; first | refine QuG.upL cok 0 rfl rfl rfl rfl rfl rfl (by assumption) (by first | exact Nat.le_of_ble_eq_true rfl | omega) ?_) | refine And.intro ⟨⟨by assumption, Nat.le_of_ble_eq_true rfl⟩, trivial⟩ ?_ | refine SeqS.go cok ?_ | refine And.intro (by dsimp only; omega) ?_)
              intro tb2
              skip
              refine OpG.keep ?_
              refine OpG.app1 cok (L := _ :: _ :: _ :: G) (M := M') (vss := vo ++ [ln]) (el := lx) rfl rfl rfl rfl rfl rfl rfl rfl rfl ?_ ?_ ?_ ?_ ?_ ?_
              · exact hO'
              · exact Row.updN2 _ 0 _
              · exact hle
              · exact hone
              · (try simp only [List.length_append, List.length_singleton]); omega
              intro w2 M2 hO2
              repeat (first | refine SeqS.go cok ?_ | (refine ValS.keep ?_; first | (with_reducible refine ValS.kI64 ?_; first | (with_reducible refine ValS.addI64_L ?_ ?_ ; omega))))
              refine ⟨⟨i + 1, true, out ++ [t] ++ [tx], vo ++ [ln] ++ [lx], w2, M2⟩, Rel.drop _ [_] ⟨rfl, hlt, hO2, (hL.snoc hT).snoc hac, ?_, rfl, rfl, rfl, rfl, rfl, rfl, rfl, rfl, trivial⟩, by show ml.length - (i + 1) < ml.length - i; omega⟩
              rw [← hout, List.append_assoc, List.append_assoc]; rfl
            · rw [if_neg (by rw [ht]; simp [ltM, hb, h])] at hout
              repeat (first | (refine QuG.keep ?_; first | refine QuG.elE cok _ (by assumption) (by first | assumption | exact ‹∀ G, Rd ⟨_, G⟩ _› _) (by assumption) rfl rfl rfl rfl rfl (by omega) ?_) | refine SeqS.go cok ?_ | refine And.intro (by omega) ?_ | (refine NatS.keep ?_; first | with_reducible refine NatS.nat ?_) | (refine CondS.keep ?_; first | refine CondS.d1 rfl (by omega) ?_))
              intro b9
              repeat (first | (refine QuG.keep ?_; first | refine QuG.subL cok 0 rfl rfl rfl rfl rfl rfl (by assumption) (by assumption) (by first | exact Nat.le_of_ble_eq_true rfl | omega) ?_ | refine QuG.boxL cok 1 rfl rfl rfl rfl rfl (by assumption) ?_) | (refine OpG.keep ?_; first | refine OpG.upS cok 0 rfl rfl rfl rfl rfl (by assumption) (by first | assumption | exact one_bvs _) (by first | exact Nat.le_of_ble_eq_true rfl | omega) ?_) | refine SeqS.go cok ?_ | refine GuardS.yes rfl ?_)
              refine (hbf _).mono ?_
              rintro r _ - ⟨rfl, rfl⟩
              repeat (first | (refine QuG.keep ?_; first | refine QuG.subL cok 0 rfl rfl rfl rfl rfl rfl (by assumption) (by assumption) (by first | exact Nat.le_of_ble_eq_true rfl | omega) ?_ | refine QuG.boxL cok 1 rfl rfl rfl rfl rfl (by assumption) ?_ | refine QuG.upC cok 0 rfl rfl rfl rfl rfl rfl (by first | exact Nat.le_of_ble_eq_true rfl | omega) (by first | exact Nat.le_of_ble_eq_true rfl | omega) (by assumption) ?_ | refine QuG.eqA cok .u8 rfl rfl rfl rfl rfl (by kernel_rfl) rfl rfl (by assumption) (by assumption) ?_) | refine GuardS.yes rfl ?_ | (refine GuardS.keep ?_; first | refine GuardS.T1 rfl (by omega) ?_))
              refine (nCmpE hN2 m1 h).mono ?_
              rintro r _ - ⟨rfl, rfl⟩
              repeat (first | (refine QuG.keep ?_; first | refine QuG.upL cok 0 rfl rfl rfl rfl rfl rfl (by assumption) (by first | exact Nat.le_of_ble_eq_true rfl | omega) ?_) | refine And.intro ⟨⟨by assumption, Nat.le_of_ble_eq_true rfl⟩, trivial⟩ ?_ | refine SeqS.go cok ?_ | refine GuardS.yes rfl ?_ | refine CondS.f rfl ?_ | refine And.intro (by dsimp only; omega) ?_)
              intro tb
              skip
              refine OpG.keep ?_
              refine OpG.app1 cok (L := _ :: _ :: _ :: G) (M := M) (vss := vo) (el := lx) rfl rfl rfl rfl rfl rfl rfl rfl rfl ?_ ?_ ?_ ?_ ?_ ?_
              · exact hO
              · exact Row.updN2 _ 0 _
              · exact hle
              · exact hone
              · (try simp only [List.length_append, List.length_singleton]); omega
              intro w' M' hO'
              repeat (first | refine SeqS.go cok ?_ | (refine ValS.keep ?_; first | (with_reducible refine ValS.kI64 ?_; first | (with_reducible refine ValS.addI64_L ?_ ?_ ; omega))))
              refine ⟨⟨i + 1, false, out ++ [tx], vo ++ [lx], w', M'⟩, Rel.drop _ [_] ⟨rfl, hlt, hO', hL.snoc hac, ?_, rfl, rfl, rfl, rfl, rfl, rfl, rfl, rfl, trivial⟩, by show ml.length - (i + 1) < ml.length - i; omega⟩
              rw [← hout, List.append_assoc]; rfl
            · rw [if_neg (by rw [ht]; simp [ltM, hb]; omega)] at hout
              repeat (first | (refine QuG.keep ?_; first | refine QuG.elE cok _ (by assumption) (by first | assumption | exact ‹∀ G, Rd ⟨_, G⟩ _› _) (by assumption) rfl rfl rfl rfl rfl (by omega) ?_) | refine SeqS.go cok ?_ | refine And.intro (by omega) ?_ | (refine NatS.keep ?_; first | with_reducible refine NatS.nat ?_) | (refine CondS.keep ?_; first | refine CondS.d1 rfl (by omega) ?_))
              intro b9
              repeat (first | (refine QuG.keep ?_; first | refine QuG.subL cok 0 rfl rfl rfl rfl rfl rfl (by assumption) (by assumption) (by first | exact Nat.le_of_ble_eq_true rfl | omega) ?_ | refine QuG.boxL cok 1 rfl rfl rfl rfl rfl (by assumption) ?_) | (refine OpG.keep ?_; first | refine OpG.upS cok 0 rfl rfl rfl rfl rfl (by assumption) (by first | assumption | exact one_bvs _) (by first | exact Nat.le_of_ble_eq_true rfl | omega) ?_) | refine SeqS.go cok ?_ | refine GuardS.yes rfl ?_)
              refine (hbf _).mono ?_
              rintro r _ - ⟨rfl, rfl⟩
              repeat (first | (refine QuG.keep ?_; first | refine QuG.subL cok 0 rfl rfl rfl rfl rfl rfl (by assumption) (by assumption) (by first | exact Nat.le_of_ble_eq_true rfl | omega) ?_ | refine QuG.boxL cok 1 rfl rfl rfl rfl rfl (by assumption) ?_ | refine QuG.upC cok 0 rfl rfl rfl rfl rfl rfl (by first | exact Nat.le_of_ble_eq_true rfl | omega) (by first | exact Nat.le_of_ble_eq_true rfl | omega) (by assumption) ?_ | refine QuG.eqA cok .u8 rfl rfl rfl rfl rfl (by kernel_rfl) rfl rfl (by assumption) (by assumption) ?_) | refine GuardS.yes rfl ?_ | (refine GuardS.keep ?_; first | refine GuardS.T1 rfl (by omega) ?_))
              refine (nCmpG hN2 m1 h).mono ?_
              rintro r _ - ⟨rfl, rfl⟩
              repeat (first | (refine QuG.keep ?_; first | refine QuG.upL cok 0 rfl rfl rfl rfl rfl rfl (by assumption) (by first | exact Nat.le_of_ble_eq_true rfl | omega) ?_) | refine And.intro ⟨⟨by assumption, Nat.le_of_ble_eq_true rfl⟩, trivial⟩ ?_ | refine SeqS.go cok ?_ | refine GuardS.yes rfl ?_ | refine CondS.f rfl ?_ | refine And.intro (by dsimp only; omega) ?_)
              intro tb
              skip
              refine OpG.keep ?_
              refine OpG.app1 cok (L := _ :: _ :: _ :: G) (M := M) (vss := vo) (el := lx) rfl rfl rfl rfl rfl rfl rfl rfl rfl ?_ ?_ ?_ ?_ ?_ ?_
              · exact hO
              · exact Row.updN2 _ 0 _
              · exact hle
              · exact hone
              · (try simp only [List.length_append, List.length_singleton]); omega
              intro w' M' hO'
              repeat (first | refine SeqS.go cok ?_ | (refine ValS.keep ?_; first | (with_reducible refine ValS.kI64 ?_; first | (with_reducible refine ValS.addI64_L ?_ ?_ ; omega))))
              refine ⟨⟨i + 1, false, out ++ [tx], vo ++ [lx], w', M'⟩, Rel.drop _ [_] ⟨rfl, hlt, hO', hL.snoc hac, ?_, rfl, rfl, rfl, rfl, rfl, rfl, rfl, rfl, trivial⟩, by show ml.length - (i + 1) < ml.length - i; omega⟩
              rw [← hout, List.append_assoc]; rfl
          · rw [if_neg (by rw [ht]; simp [ltM, hb, heq])] at hout
            repeat (first | (refine QuG.keep ?_; first | refine QuG.elE cok _ (by assumption) (by first | assumption | exact ‹∀ G, Rd ⟨_, G⟩ _› _) (by assumption) rfl rfl rfl rfl rfl (by omega) ?_) | refine SeqS.go cok ?_ | refine And.intro (by omega) ?_ | (refine NatS.keep ?_; first | with_reducible refine NatS.nat ?_) | (refine CondS.keep ?_; first | refine CondS.d1 rfl (by omega) ?_))
            intro b9
            repeat (first | (refine QuG.keep ?_; first | refine QuG.subL cok 0 rfl rfl rfl rfl rfl rfl (by assumption) (by assumption) (by first | exact Nat.le_of_ble_eq_true rfl | omega) ?_ | refine QuG.boxL cok 1 rfl rfl rfl rfl rfl (by assumption) ?_) | (refine OpG.keep ?_; first | refine OpG.upS cok 0 rfl rfl rfl rfl rfl (by assumption) (by first | assumption | exact one_bvs _) (by first | exact Nat.le_of_ble_eq_true rfl | omega) ?_) | refine SeqS.go cok ?_ | refine GuardS.yes rfl ?_)
            refine (hbf _).mono ?_
            rintro r _ - ⟨rfl, rfl⟩
            repeat (first | (refine QuG.keep ?_; first | refine QuG.upL cok 0 rfl rfl rfl rfl rfl rfl (by assumption) (by first | exact Nat.le_of_ble_eq_true rfl | omega) ?_ | refine QuG.subL cok 0 rfl rfl rfl rfl rfl rfl (by assumption) (by assumption) (by first | exact Nat.le_of_ble_eq_true rfl | omega) ?_ | refine QuG.boxL cok 1 rfl rfl rfl rfl rfl (by assumption) ?_ | refine QuG.eqA cok .u8 rfl rfl rfl rfl rfl (by kernel_rfl) rfl rfl (by assumption) (by assumption) ?_) | refine And.intro ⟨⟨by assumption, Nat.le_of_ble_eq_true rfl⟩, trivial⟩ ?_ | refine SeqS.go cok ?_ | refine GuardS.yes rfl ?_ | refine GuardS.no rfl ?_ | refine CondS.f rfl ?_ | refine And.intro (by dsimp only; omega) ?_ | (refine GuardS.keep ?_; first | refine GuardS.T0 rfl (by omega) ?_))
            intro tb
            skip
            refine OpG.keep ?_
            refine OpG.app1 cok (L := _ :: _ :: _ :: G) (M := M) (vss := vo) (el := lx) rfl rfl rfl rfl rfl rfl rfl rfl rfl ?_ ?_ ?_ ?_ ?_ ?_
            · exact hO
            · exact Row.updN2 _ 0 _
            · exact hle
            · exact hone
            · (try simp only [List.length_append, List.length_singleton]); omega
            intro w' M' hO'
            repeat (first | refine SeqS.go cok ?_ | (refine ValS.keep ?_; first | (with_reducible refine ValS.kI64 ?_; first | (with_reducible refine ValS.addI64_L ?_ ?_ ; omega))))
            refine ⟨⟨i + 1, false, out ++ [tx], vo ++ [lx], w', M'⟩, Rel.drop _ [_] ⟨rfl, hlt, hO', hL.snoc hac, ?_, rfl, rfl, rfl, rfl, rfl, rfl, rfl, rfl, trivial⟩, by show ml.length - (i + 1) < ml.length - i; omega⟩
            rw [← hout, List.append_assoc]; rfl
        · rw [hb] at hbf
          rw [if_pos (by rw [ht]; simp [ltM, hb])] at hout
          repeat (first | (refine QuG.keep ?_; first | refine QuG.elE cok _ (by assumption) (by first | assumption | exact ‹∀ G, Rd ⟨_, G⟩ _› _) (by assumption) rfl rfl rfl rfl rfl (by omega) ?_) | refine SeqS.go cok ?_ | refine And.intro (by omega) ?_ | (refine NatS.keep ?_; first | with_reducible refine NatS.nat ?_) | (refine CondS.keep ?_; first | refine CondS.d1 rfl (by omega) ?_))
          intro b9
          repeat (first | (refine QuG.keep ?_; first | refine QuG.subL cok 0 rfl rfl rfl rfl rfl rfl (by assumption) (by assumption) (by first | exact Nat.le_of_ble_eq_true rfl | omega) ?_ | refine QuG.boxL cok 1 rfl rfl rfl rfl rfl (by assumption) ?_) | (refine OpG.keep ?_; first | refine OpG.upS cok 0 rfl rfl rfl rfl rfl (by assumption) (by first | assumption | exact one_bvs _) (by first | exact Nat.le_of_ble_eq_true rfl | omega) ?_) | refine SeqS.go cok ?_ | refine GuardS.yes rfl ?_)
          refine (hbf _).mono ?_
          rintro r _ - ⟨rfl, rfl⟩
          repeat (first | (refine QuG.keep ?_; first | refine QuG.boxL cok 1 rfl rfl rfl rfl rfl (by assumption) ?_) | refine And.intro ⟨⟨by assumption, Nat.le_of_ble_eq_true rfl⟩, fillOk_of (Eq.refl true)⟩ ?_ | refine SeqS.go cok ?_ | refine GuardS.yes rfl ?_ | refine GuardS.no rfl ?_ | refine GuardS.U rfl ?_ | refine CondS.t rfl ?_ | refine And.intro (fillOk_of (Eq.refl true)) ?_ | refine And.intro (Eq.refl true) ?_ | refine And.intro (by dsimp only; omega) ?_)
          intro tb
          skip
          refine OpG.keep ?_
          refine OpG.app1 cok (L := _ :: _ :: _ :: G) (M := M) (vss := vo) (el := ln) rfl rfl rfl rfl rfl rfl rfl rfl rfl ?_ ?_ ?_ ?_ ?_ ?_
          · exact hO
          · rw [← hbl]; exact Row.updN2 _ 0 _
          · exact hlnl
          · exact hlno
          · (try simp only [List.length_append, List.length_singleton]); omega
          intro w' M' hO'
          repeat (first | (refine QuG.keep ?_; first | refine QuG.upL cok 0 rfl rfl rfl rfl rfl rfl (by assumption) (by first | exact Nat.le_of_ble_eq_true rfl | omega) ?_) | refine And.intro ⟨⟨by assumption, Nat.le_of_ble_eq_true rfl⟩, trivial⟩ ?_ | refine SeqS.go cok ?_ | refine And.intro (by dsimp only; omega) ?_)
          intro tb2
          skip
          refine OpG.keep ?_
          refine OpG.app1 cok (L := _ :: _ :: _ :: G) (M := M') (vss := vo ++ [ln]) (el := lx) rfl rfl rfl rfl rfl rfl rfl rfl rfl ?_ ?_ ?_ ?_ ?_ ?_
          · exact hO'
          · exact Row.updN2 _ 0 _
          · exact hle
          · exact hone
          · (try simp only [List.length_append, List.length_singleton]); omega
          intro w2 M2 hO2
          repeat (first | refine SeqS.go cok ?_ | (refine ValS.keep ?_; first | (with_reducible refine ValS.kI64 ?_; first | (with_reducible refine ValS.addI64_L ?_ ?_ ; omega))))
          refine ⟨⟨i + 1, true, out ++ [t] ++ [tx], vo ++ [ln] ++ [lx], w2, M2⟩, Rel.drop _ [_] ⟨rfl, hlt, hO2, (hL.snoc hT).snoc hac, ?_, rfl, rfl, rfl, rfl, rfl, rfl, rfl, rfl, trivial⟩, by show ml.length - (i + 1) < ml.length - i; omega⟩
          rw [← hout, List.append_assoc, List.append_assoc]; rfl
      · rw [if_pos rfl] at hout
        repeat (first | (refine QuG.keep ?_; first | refine QuG.elE cok _ (by assumption) (by first | assumption | exact ‹∀ G, Rd ⟨_, G⟩ _› _) (by assumption) rfl rfl rfl rfl rfl (by omega) ?_) | refine SeqS.go cok ?_ | refine And.intro (by omega) ?_ | (refine NatS.keep ?_; first | with_reducible refine NatS.nat ?_) | (refine CondS.keep ?_; first | refine CondS.d1 rfl (by omega) ?_))
        intro b9
        repeat (first | (refine QuG.keep ?_; first | refine QuG.upL cok 0 rfl rfl rfl rfl rfl rfl (by assumption) (by first | exact Nat.le_of_ble_eq_true rfl | omega) ?_) | (refine OpG.keep ?_; first | refine OpG.upS cok 0 rfl rfl rfl rfl rfl (by assumption) (by first | assumption | exact one_bvs _) (by first | exact Nat.le_of_ble_eq_true rfl | omega) ?_) | refine And.intro ⟨⟨by assumption, Nat.le_of_ble_eq_true rfl⟩, trivial⟩ ?_ | refine SeqS.go cok ?_ | refine GuardS.no rfl ?_ | refine GuardS.U rfl ?_ | refine CondS.f rfl ?_ | refine And.intro (by dsimp only; omega) ?_)
        intro tb
        skip
        refine OpG.keep ?_
        refine OpG.app1 cok (L := _ :: _ :: _ :: G) (M := M) (vss := vo) (el := lx) rfl rfl rfl rfl rfl rfl rfl rfl rfl ?_ ?_ ?_ ?_ ?_ ?_
        · exact hO
        · exact Row.updN2 _ 0 _
        · exact hle
        · exact hone
        · (try simp only [List.length_append, List.length_singleton]); omega
        intro w' M' hO'
        repeat (first | refine SeqS.go cok ?_ | (refine ValS.keep ?_; first | (with_reducible refine ValS.kI64 ?_; first | (with_reducible refine ValS.addI64_L ?_ ?_ ; omega))))
        refine ⟨⟨i + 1, true, out ++ [tx], vo ++ [lx], w', M'⟩, Rel.drop _ [_] ⟨rfl, hlt, hO', hL.snoc hac, ?_, rfl, rfl, rfl, rfl, rfl, rfl, rfl, rfl, trivial⟩, by show ml.length - (i + 1) < ml.length - i; omega⟩
        rw [← hout, List.append_assoc]; rfl
    · rw [List.drop_of_length_le (by omega)] at hout
      repeat (first | refine SeqS.go cok ?_ | (refine CondS.keep ?_; first | refine CondS.d0 rfl (by omega) ?_))
      exact ⟨laid, out, vo, w, M, rfl, hO, hL, hout, rfl, rfl, rfl, rfl, rfl, trivial⟩
end Go.Proofs.YgvafwGreat
