import Derived.Test.YgvafwGreatY18
set_option maxRecDepth 100000
set_option maxHeartbeats 4000000
set_option linter.unusedVariables false
set_option linter.unusedSimpArgs false
-- v2
-- v4
-- v5
namespace Go.Proofs.YgvafwGreat
open Go.HL Go.Proofs

theorem yTStoreP {I : Ent → Prop} {G : List Ent} {wb sz k n : Nat} {T : TypeId} {c : Nat → Value} {ml : List TM} {a : List Nat} {v u : Value} (hsz : 8 ≤ sz) (hN : TempsI I (c 5) ml) (hA : AdOk a) (hN2 : NatI I v k) (hN3 : NatI I u n) (hlen : ml.length < 2 ^ 18) (hn : 0 < n) :
    CallG Hvaf.prog 246 #[ptr wb 0, bytesV a, v, u] ⟨I, ⟨wb, sz, T, c⟩ :: G⟩ fun r S' => ∃ J w, S' = ⟨J, ⟨wb, sz, T, upd c 5 w⟩ :: G⟩ ∧ TempsI J w (tstT (a, k, n) false ml) := by
  have ha := hA.bv
  have hla := hA.len
  have hz := fun (G : List Ent) => yIsZero (G := G) hN3
  rw [show decide (n = 0) = false by simp; omega] at hz
  obtain ⟨vss, hR, hL0⟩ := hN.out
  have hvl := hL0.len
  obtain ⟨ad, cap, hc⟩ := hR.form
  obtain ⟨ka, kn, kc, rfl⟩ := NatI.sform hN2
  obtain ⟨va, vn, vcp, rfl⟩ := NatI.sform hN3
  obtain ⟨t, ht⟩ : ∃ t : TM, t = (a, k, n) := ⟨_, rfl⟩
  obtain ⟨ln, hln⟩ : ∃ ln, ln = bvs a ++ [.slice ka kn kc, .slice va vn vcp] := ⟨_, rfl⟩
  have hT : TmC I ln t := by rw [hln, ht]; exact TmC.new hA hN2 hN3
  have hlnl := hT.len
  have hlno := hT.one
  have hbl := build22 ha (z305) (.slice ka kn kc) (.slice va vn vcp)
  rw [← hln] at hbl
  rw [← ht]
  refine CallG.start (C := mkC Hvaf.prog) cok (args := [ptr wb 0, bytesV a, .slice ka kn kc, .slice va vn vcp]) Hvaf.func246 rfl Hvaf.ntmps246 (by simp) (by kernel_rfl) ?_
  intro b5
  repeat (first | refine SeqS.go cok ?_)
  refine (hz _).mono ?_
  rintro r _ - ⟨rfl, rfl⟩
  repeat (first | (refine QuG.keep ?_; first | refine QuG.l1E cok 1 rfl rfl rfl rfl rfl (by first | exact Nat.le_of_ble_eq_true rfl | omega | (dsimp only; omega) | (simp only [addS_eq, mulS_eq]; omega)) (by assumption) ?_) | refine SeqS.go cok ?_)
  refine W.loopF cok (by kernel_rfl) 0 (fun (p : Nat × Bool × List TM × List (List Value) × Value × List Ent) e' S' => S' = ⟨I, ⟨b5, (bvs a).length, 31, vc (bytesV a)⟩ :: ⟨wb, sz, T, c⟩ :: (G ++ p.2.2.2.2.2)⟩ ∧ p.1 ≤ ml.length ∧ OwnL 305 22 p.2.2.2.2.1 p.2.2.2.1 p.2.2.2.2.2 ∧ L2 (TmC I) dT p.2.2.2.1 p.2.2.1 ∧ p.2.2.1 ++ tstT t p.2.1 (ml.drop p.1) = tstT t false ml ∧
      slots [(0, ptr wb 0), (2, .slice ka kn kc), (3, .slice va vn vcp), (5, ptr b5 0), (8, p.2.2.2.2.1), (9, .bool p.2.1), (18, .slice ad vss.length cap), (19, .int .i64 (vss.length : Nat)), (20, .int .i64 (p.1 : Nat))] e') (fun p => ml.length - p.1) (0, false, [], [], .slice none 0 0, [])
    (Rel.perm (⟨b5, (bvs a).length, 31, vc (bytesV a)⟩ :: ⟨wb, sz, T, c⟩ :: (G ++ [])) [] (by (rw [List.append_nil, List.append_nil]; try exact List.Perm.refl _)) ⟨rfl, Nat.zero_le _, OwnL.nil _ _, L2.nil _ _, rfl, rfl, rfl, rfl, rfl, rfl, rfl, rfl, rfl, rfl, trivial⟩)
    (fun e' S' => ∃ laid out vo w M, S' = ⟨I, ⟨b5, (bvs a).length, 31, vc (bytesV a)⟩ :: ⟨wb, sz, T, c⟩ :: (G ++ M)⟩ ∧ OwnL 305 22 w vo M ∧ L2 (TmC I) dT vo out ∧ out ++ (if laid then [] else [t]) = tstT t false ml ∧ slots [(0, ptr wb 0), (2, .slice ka kn kc), (3, .slice va vn vcp), (5, ptr b5 0), (8, w), (9, .bool laid)] e') ?_ ?_
  · rintro e' S2 - ⟨laid, out, vo, w, M, rfl, hO, hL, hout, hsl⟩
    refine SeqS.slots cok _ hsl fun e => ?_
    have hol := congrArg List.length hout
    have hpl := (tstT_len t ml false).1
    have hvo := hL.len
    rw [List.length_append] at hol
    cases laid
    · repeat (first | (refine QuG.keep ?_; first | refine QuG.boxL cok 0 rfl rfl rfl rfl rfl (by assumption) ?_) | refine And.intro ⟨⟨by assumption, Nat.le_of_ble_eq_true rfl⟩, fillOk_of (Eq.refl true)⟩ ?_ | refine SeqS.go cok ?_ | refine CondS.t rfl ?_ | refine And.intro (fillOk_of (Eq.refl true)) ?_ | refine And.intro (Eq.refl true) ?_ | refine And.intro (by dsimp only; omega) ?_)
      intro tb
      skip
      refine OpG.keep ?_
      refine OpG.app1 cok (L := _ :: _ :: G) (M := M) (vss := vo) (el := ln) rfl rfl rfl rfl rfl rfl rfl rfl rfl ?_ ?_ ?_ ?_ ?_ ?_
      · exact hO
      · rw [← hbl]; exact Row.updN2 _ 0 _
      · exact hlnl
      · exact hlno
      · (try simp only [List.length_append, List.length_singleton]); omega
      intro w' M' hO'
      have hone' := hO'.one
      repeat (first | (refine OpG.keep ?_; first | refine OpG.s1 cok 1 rfl rfl rfl rfl rfl (by first | exact Nat.le_of_ble_eq_true rfl | omega | (dsimp only; omega) | (simp only [addS_eq, mulS_eq]; omega)) rfl (by assumption) ?_) | refine SeqS.go cok ?_)
      refine ⟨[⟨b5, (bvs a).length, 31, vc (bytesV a)⟩], M', ⟨wb, sz, T, _⟩ :: G, _, ?_, fun _ => .rfl, _, w', rfl, ?_⟩
      · exact perm_put
      · rw [← hout]
        exact ⟨_, hO'.row (fun x hx => .inr hx), (hL.mono fun _ _ h => h.up sub_frz).snoc (hT.up sub_frz)⟩
    · have hone' := hO.one
      repeat (first | (refine OpG.keep ?_; first | refine OpG.s1 cok 1 rfl rfl rfl rfl rfl (by first | exact Nat.le_of_ble_eq_true rfl | omega | (dsimp only; omega) | (simp only [addS_eq, mulS_eq]; omega)) rfl (by assumption) ?_) | refine SeqS.go cok ?_ | refine CondS.f rfl ?_)
      refine ⟨[⟨b5, (bvs a).length, 31, vc (bytesV a)⟩], M, ⟨wb, sz, T, _⟩ :: G, _, ?_, fun _ => .rfl, _, w, rfl, ?_⟩
      · exact perm_put
      · rw [← hout, if_pos rfl, List.append_nil]
        exact ⟨_, hO.row (fun x hx => .inr hx), hL.mono fun _ _ h => h.up sub_frz⟩
  · rintro ⟨i, laid, out, vo, w, M⟩ e' S2 - ⟨hSt, hi, hO, hL, hout, hsl⟩
    dsimp only at hSt hi hO hL hout hsl
    subst hSt
    refine W.slots _ hsl fun e => ?_
    have hol := congrArg List.length hout
    have hpl := (tstT_len t ml false).1
    rw [List.length_append] at hol
    have hvo := hL.len
    by_cases hlt : i < ml.length
    · rw [hc] at hR
      obtain ⟨x, o, rfl, hx, hE⟩ := hR.some (by omega)
      have hac := hL0.at' i hlt
      obtain ⟨lx, hl⟩ : ∃ lx, vss.getD i [] = lx := ⟨_, rfl⟩
      obtain ⟨tx, htx⟩ : ∃ tx, ml.getD i dT = tx := ⟨_, rfl⟩
      rw [drop_consT hlt, htx] at hout
      rw [hl, htx] at hac
      have hrd : ∀ G, Rd ⟨I, G⟩ x := fun _ => .inl hx
      have hle := hac.len
      have hone := hac.one
      have had := hac.ad
      have hb20 := hac.ok.bv
      have hl20 := hac.ok.len
      obtain ⟨kv, vv, hg20, hg21, m1, m2⟩ := hac.get
      have hbf := fun (S : St) => yBefore (S := S) hla hl20 hA.b8 hac.ok.b8
      rw [tstT] at hout
      by_cases heq : tx.1 = a
      · have heq' : a = tx.1 := heq.symm
        rcases Nat.lt_trichotomy tx.2.1 k with h | h | h
        · cases laid
          · cases hb : ltL a tx.1
            · rw [hb] at hbf
              have hs0 : sameT t tx = false := by rw [ht]; show (decide (tx.1 = a) && decide (tx.2.1 = k)) = false; rw [decide_eq_true heq, decide_eq_false (show ¬ tx.2.1 = k by omega)]; rfl
              rw [hs0] at hout
              have hi0 : insT t tx = false := by rw [insT, hs0, ht]; show (false || (ltL a tx.1 || (decide (a = tx.1) && decide (k < tx.2.1)))) = false; rw [hb, decide_eq_true heq', decide_eq_false (show ¬ k < tx.2.1 by omega)]; rfl
              rw [hi0] at hout
              repeat (first | (refine QuG.keep ?_; first | refine QuG.elE cok _ (by assumption) (by first | assumption | exact ‹∀ G, Rd ⟨_, G⟩ _› _) (by assumption) rfl rfl rfl rfl rfl (by omega) ?_) | refine SeqS.go cok ?_ | refine And.intro (by omega) ?_ | (refine NatS.keep ?_; first | with_reducible refine NatS.nat ?_) | (refine CondS.keep ?_; first | refine CondS.d1 rfl (by omega) ?_))
              intro b11
              repeat (first | (refine QuG.keep ?_; first | refine QuG.subL cok 0 rfl rfl rfl rfl rfl rfl (by assumption) (by assumption) (by first | exact Nat.le_of_ble_eq_true rfl | omega) ?_ | refine QuG.boxL cok 1 rfl rfl rfl rfl rfl (by assumption) ?_ | refine QuG.upC cok 0 rfl rfl rfl rfl rfl rfl (by first | exact Nat.le_of_ble_eq_true rfl | omega) (by first | exact Nat.le_of_ble_eq_true rfl | omega) (by assumption) ?_ | refine QuG.eqA cok .u8 rfl rfl rfl rfl rfl (by kernel_rfl) rfl rfl (by assumption) (by assumption) ?_) | (refine OpG.keep ?_; first | refine OpG.upS cok 0 rfl rfl rfl rfl rfl (by assumption) (by first | assumption | exact one_bvs _) (by first | exact Nat.le_of_ble_eq_true rfl | omega) ?_) | refine SeqS.go cok ?_ | refine GuardS.yes rfl ?_ | (refine GuardS.keep ?_; first | refine GuardS.T1 rfl (by omega) ?_))
              refine (nCmpL m1 hN2 h).mono ?_
              rintro r _ - ⟨rfl, rfl⟩
              repeat (first | (refine QuG.keep ?_; first | refine QuG.subL cok 0 rfl rfl rfl rfl rfl rfl (by assumption) (by assumption) (by first | exact Nat.le_of_ble_eq_true rfl | omega) ?_ | refine QuG.boxL cok 1 rfl rfl rfl rfl rfl (by assumption) ?_) | refine SeqS.go cok ?_ | refine GuardS.yes rfl ?_)
              refine (hbf _).mono ?_
              rintro r _ - ⟨rfl, rfl⟩
              repeat (first | (refine QuG.keep ?_; first | refine QuG.subL cok 0 rfl rfl rfl rfl rfl rfl (by assumption) (by assumption) (by first | exact Nat.le_of_ble_eq_true rfl | omega) ?_ | refine QuG.boxL cok 1 rfl rfl rfl rfl rfl (by assumption) ?_ | refine QuG.upC cok 0 rfl rfl rfl rfl rfl rfl (by first | exact Nat.le_of_ble_eq_true rfl | omega) (by first | exact Nat.le_of_ble_eq_true rfl | omega) (by assumption) ?_ | refine QuG.eqA cok .u8 rfl rfl rfl rfl rfl (by kernel_rfl) rfl rfl (by assumption) (by assumption) ?_) | refine GuardS.yes rfl ?_ | (refine GuardS.keep ?_; first | refine GuardS.T1 rfl (by omega) ?_))
              refine (nCmpG hN2 m1 h).mono ?_
              rintro r _ - ⟨rfl, rfl⟩
              repeat (first | (refine QuG.keep ?_; first | refine QuG.upL cok 0 rfl rfl rfl rfl rfl rfl (by assumption) (by first | exact Nat.le_of_ble_eq_true rfl | omega) ?_) | refine And.intro ⟨⟨by assumption, Nat.le_of_ble_eq_true rfl⟩, trivial⟩ ?_ | refine SeqS.go cok ?_ | refine GuardS.yes rfl ?_ | refine CondS.t rfl ?_ | refine CondS.f rfl ?_ | refine And.intro (by dsimp only; omega) ?_)
              intro tb
              skip
              refine OpG.keep ?_
              refine OpG.app1 cok (L := _ :: _ :: _ :: G) (M := M) (vss := vo) (el := lx) rfl rfl rfl rfl rfl rfl rfl rfl rfl ?_ ?_ ?_ ?_ ?_ ?_
              · exact hO
              · exact Row.updN2 _ 0 _
              · exact hle
              · exact hone
              · (try simp only [List.length_append, List.length_singleton]); omega
              intro w' M' hO'
              repeat (first | refine SeqS.go cok ?_ | (refine ValS.keep ?_; first | (with_reducible refine ValS.kI64 ?_; first | (with_reducible refine ValS.addI64_L ?_ ?_ ; omega))))
              refine ⟨⟨i + 1, false, out ++ [tx], vo ++ [lx], w', M'⟩, Rel.drop _ [_] ⟨rfl, hlt, hO', hL.snoc hac, ?_, rfl, rfl, rfl, rfl, rfl, rfl, rfl, rfl, rfl, trivial⟩, by show ml.length - (i + 1) < ml.length - i; omega⟩
              rw [← hout, List.append_assoc]; rfl
            · rw [hb] at hbf
              have hs0 : sameT t tx = false := by rw [ht]; show (decide (tx.1 = a) && decide (tx.2.1 = k)) = false; rw [decide_eq_true heq, decide_eq_false (show ¬ tx.2.1 = k by omega)]; rfl
              rw [hs0] at hout
              have hi0 : insT t tx = true := by rw [insT, hs0, ht]; show (false || (ltL a tx.1 || (decide (a = tx.1) && decide (k < tx.2.1)))) = true; rw [hb]; simp
              rw [hi0] at hout
              repeat (first | (refine QuG.keep ?_; first | refine QuG.elE cok _ (by assumption) (by first | assumption | exact ‹∀ G, Rd ⟨_, G⟩ _› _) (by assumption) rfl rfl rfl rfl rfl (by omega) ?_) | refine SeqS.go cok ?_ | refine And.intro (by omega) ?_ | (refine NatS.keep ?_; first | with_reducible refine NatS.nat ?_) | (refine CondS.keep ?_; first | refine CondS.d1 rfl (by omega) ?_))
              intro b11
              repeat (first | (refine QuG.keep ?_; first | refine QuG.subL cok 0 rfl rfl rfl rfl rfl rfl (by assumption) (by assumption) (by first | exact Nat.le_of_ble_eq_true rfl | omega) ?_ | refine QuG.boxL cok 1 rfl rfl rfl rfl rfl (by assumption) ?_ | refine QuG.upC cok 0 rfl rfl rfl rfl rfl rfl (by first | exact Nat.le_of_ble_eq_true rfl | omega) (by first | exact Nat.le_of_ble_eq_true rfl | omega) (by assumption) ?_ | refine QuG.eqA cok .u8 rfl rfl rfl rfl rfl (by kernel_rfl) rfl rfl (by assumption) (by assumption) ?_) | (refine OpG.keep ?_; first | refine OpG.upS cok 0 rfl rfl rfl rfl rfl (by assumption) (by first | assumption | exact one_bvs _) (by first | exact Nat.le_of_ble_eq_true rfl | omega) ?_) | refine SeqS.go cok ?_ | refine GuardS.yes rfl ?_ | (refine GuardS.keep ?_; first | refine GuardS.T1 rfl (by omega) ?_))
              refine (nCmpL m1 hN2 h).mono ?_
              rintro r _ - ⟨rfl, rfl⟩
              repeat (first | (refine QuG.keep ?_; first | refine QuG.subL cok 0 rfl rfl rfl rfl rfl rfl (by assumption) (by assumption) (by first | exact Nat.le_of_ble_eq_true rfl | omega) ?_ | refine QuG.boxL cok 1 rfl rfl rfl rfl rfl (by assumption) ?_) | refine SeqS.go cok ?_ | refine GuardS.yes rfl ?_)
              refine (hbf _).mono ?_
              rintro r _ - ⟨rfl, rfl⟩
              repeat (first | (refine QuG.keep ?_; first | refine QuG.boxL cok 1 rfl rfl rfl rfl rfl (by assumption) ?_) | refine And.intro ⟨⟨by assumption, Nat.le_of_ble_eq_true rfl⟩, fillOk_of (Eq.refl true)⟩ ?_ | refine SeqS.go cok ?_ | refine GuardS.yes rfl ?_ | refine GuardS.no rfl ?_ | refine GuardS.U rfl ?_ | refine CondS.t rfl ?_ | refine And.intro (fillOk_of (Eq.refl true)) ?_ | refine And.intro (Eq.refl true) ?_ | refine And.intro (by dsimp only; omega) ?_)
              intro tb
              skip
              refine OpG.keep ?_
              refine OpG.app1 cok (L := _ :: _ :: _ :: G) (M := M) (vss := vo) (el := ln) rfl rfl rfl rfl rfl rfl rfl rfl rfl ?_ ?_ ?_ ?_ ?_ ?_
              · exact hO
              · rw [← hbl]; exact Row.updN2 _ 0 _
              · exact hlnl
              · exact hlno
              · (try simp only [List.length_append, List.length_singleton]); omega
              intro w' M' hO'
              repeat (first | (refine QuG.keep ?_; first | refine QuG.upL cok 0 rfl rfl rfl rfl rfl rfl (by assumption) (by first | exact Nat.le_of_ble_eq_true rfl | omega) ?_) | refine And.intro ⟨⟨by assumption, Nat.le_of_ble_eq_true rfl⟩, trivial⟩ ?_ | refine SeqS.go cok ?_ | refine CondS.t rfl ?_ | refine And.intro (by dsimp only; omega) ?_)
              intro tb2
              skip
              refine OpG.keep ?_
              refine OpG.app1 cok (L := _ :: _ :: _ :: G) (M := M') (vss := vo ++ [ln]) (el := lx) rfl rfl rfl rfl rfl rfl rfl rfl rfl ?_ ?_ ?_ ?_ ?_ ?_
              · exact hO'
              · exact Row.updN2 _ 0 _
              · exact hle
              · exact hone
              · (try simp only [List.length_append, List.length_singleton]); omega
              intro w2 M2 hO2
              repeat (first | refine SeqS.go cok ?_ | (refine ValS.keep ?_; first | (with_reducible refine ValS.kI64 ?_; first | (with_reducible refine ValS.addI64_L ?_ ?_ ; omega))))
              refine ⟨⟨i + 1, true, out ++ [t] ++ [tx], vo ++ [ln] ++ [lx], w2, M2⟩, Rel.drop _ [_] ⟨rfl, hlt, hO2, (hL.snoc hT).snoc hac, ?_, rfl, rfl, rfl, rfl, rfl, rfl, rfl, rfl, rfl, trivial⟩, by show ml.length - (i + 1) < ml.length - i; omega⟩
              rw [← hout, List.append_assoc, List.append_assoc]; rfl
          · skip
            have hs0 : sameT t tx = false := by rw [ht]; show (decide (tx.1 = a) && decide (tx.2.1 = k)) = false; rw [decide_eq_true heq, decide_eq_false (show ¬ tx.2.1 = k by omega)]; rfl
            rw [hs0] at hout
            repeat (first | (refine QuG.keep ?_; first | refine QuG.elE cok _ (by assumption) (by first | assumption | exact ‹∀ G, Rd ⟨_, G⟩ _› _) (by assumption) rfl rfl rfl rfl rfl (by omega) ?_) | refine SeqS.go cok ?_ | refine And.intro (by omega) ?_ | (refine NatS.keep ?_; first | with_reducible refine NatS.nat ?_) | (refine CondS.keep ?_; first | refine CondS.d1 rfl (by omega) ?_))
            intro b11
            repeat (first | (refine QuG.keep ?_; first | refine QuG.subL cok 0 rfl rfl rfl rfl rfl rfl (by assumption) (by assumption) (by first | exact Nat.le_of_ble_eq_true rfl | omega) ?_ | refine QuG.boxL cok 1 rfl rfl rfl rfl rfl (by assumption) ?_ | refine QuG.upC cok 0 rfl rfl rfl rfl rfl rfl (by first | exact Nat.le_of_ble_eq_true rfl | omega) (by first | exact Nat.le_of_ble_eq_true rfl | omega) (by assumption) ?_ | refine QuG.eqA cok .u8 rfl rfl rfl rfl rfl (by kernel_rfl) rfl rfl (by assumption) (by assumption) ?_) | (refine OpG.keep ?_; first | refine OpG.upS cok 0 rfl rfl rfl rfl rfl (by assumption) (by first | assumption | exact one_bvs _) (by first | exact Nat.le_of_ble_eq_true rfl | omega) ?_) | refine SeqS.go cok ?_ | refine GuardS.yes rfl ?_ | (refine GuardS.keep ?_; first | refine GuardS.T1 rfl (by omega) ?_))
            refine (nCmpL m1 hN2 h).mono ?_
            rintro r _ - ⟨rfl, rfl⟩
            repeat (first | (refine QuG.keep ?_; first | refine QuG.upL cok 0 rfl rfl rfl rfl rfl rfl (by assumption) (by first | exact Nat.le_of_ble_eq_true rfl | omega) ?_) | refine And.intro ⟨⟨by assumption, Nat.le_of_ble_eq_true rfl⟩, trivial⟩ ?_ | refine SeqS.go cok ?_ | refine GuardS.yes rfl ?_ | refine GuardS.no rfl ?_ | refine GuardS.U rfl ?_ | refine CondS.t rfl ?_ | refine CondS.f rfl ?_ | refine And.intro (by dsimp only; omega) ?_)
            intro tb
            skip
            refine OpG.keep ?_
            refine OpG.app1 cok (L := _ :: _ :: _ :: G) (M := M) (vss := vo) (el := lx) rfl rfl rfl rfl rfl rfl rfl rfl rfl ?_ ?_ ?_ ?_ ?_ ?_
            · exact hO
            · exact Row.updN2 _ 0 _
            · exact hle
            · exact hone
            · (try simp only [List.length_append, List.length_singleton]); omega
            intro w' M' hO'
            repeat (first | refine SeqS.go cok ?_ | (refine ValS.keep ?_; first | (with_reducible refine ValS.kI64 ?_; first | (with_reducible refine ValS.addI64_L ?_ ?_ ; omega))))
            refine ⟨⟨i + 1, true, out ++ [tx], vo ++ [lx], w', M'⟩, Rel.drop _ [_] ⟨rfl, hlt, hO', hL.snoc hac, ?_, rfl, rfl, rfl, rfl, rfl, rfl, rfl, rfl, rfl, trivial⟩, by show ml.length - (i + 1) < ml.length - i; omega⟩
            rw [← hout, List.append_assoc]; rfl
        · cases laid
          · skip
            have hs0 : sameT t tx = true := by rw [ht]; show (decide (tx.1 = a) && decide (tx.2.1 = k)) = true; rw [decide_eq_true heq, decide_eq_true h]; rfl
            rw [hs0] at hout
            have hi0 : insT t tx = true := by rw [insT, hs0, ht]; show (true || (ltL a tx.1 || (decide (a = tx.1) && decide (k < tx.2.1)))) = true; simp
            rw [hi0] at hout
            repeat (first | (refine QuG.keep ?_; first | refine QuG.elE cok _ (by assumption) (by first | assumption | exact ‹∀ G, Rd ⟨_, G⟩ _› _) (by assumption) rfl rfl rfl rfl rfl (by omega) ?_) | refine SeqS.go cok ?_ | refine And.intro (by omega) ?_ | (refine NatS.keep ?_; first | with_reducible refine NatS.nat ?_) | (refine CondS.keep ?_; first | refine CondS.d1 rfl (by omega) ?_))
            intro b11
            repeat (first | (refine QuG.keep ?_; first | refine QuG.subL cok 0 rfl rfl rfl rfl rfl rfl (by assumption) (by assumption) (by first | exact Nat.le_of_ble_eq_true rfl | omega) ?_ | refine QuG.boxL cok 1 rfl rfl rfl rfl rfl (by assumption) ?_ | refine QuG.upC cok 0 rfl rfl rfl rfl rfl rfl (by first | exact Nat.le_of_ble_eq_true rfl | omega) (by first | exact Nat.le_of_ble_eq_true rfl | omega) (by assumption) ?_ | refine QuG.eqA cok .u8 rfl rfl rfl rfl rfl (by kernel_rfl) rfl rfl (by assumption) (by assumption) ?_) | (refine OpG.keep ?_; first | refine OpG.upS cok 0 rfl rfl rfl rfl rfl (by assumption) (by first | assumption | exact one_bvs _) (by first | exact Nat.le_of_ble_eq_true rfl | omega) ?_) | refine SeqS.go cok ?_ | refine GuardS.yes rfl ?_ | (refine GuardS.keep ?_; first | refine GuardS.T1 rfl (by omega) ?_))
            refine (nCmpE m1 hN2 h).mono ?_
            rintro r _ - ⟨rfl, rfl⟩
            repeat (first | (refine QuG.keep ?_; first | refine QuG.boxL cok 1 rfl rfl rfl rfl rfl (by assumption) ?_) | refine And.intro ⟨⟨by assumption, Nat.le_of_ble_eq_true rfl⟩, fillOk_of (Eq.refl true)⟩ ?_ | refine SeqS.go cok ?_ | refine GuardS.yes rfl ?_ | refine GuardS.no rfl ?_ | refine GuardS.U rfl ?_ | refine CondS.t rfl ?_ | refine And.intro (fillOk_of (Eq.refl true)) ?_ | refine And.intro (Eq.refl true) ?_ | refine And.intro (by dsimp only; omega) ?_)
            intro tb
            skip
            refine OpG.keep ?_
            refine OpG.app1 cok (L := _ :: _ :: _ :: G) (M := M) (vss := vo) (el := ln) rfl rfl rfl rfl rfl rfl rfl rfl rfl ?_ ?_ ?_ ?_ ?_ ?_
            · exact hO
            · rw [← hbl]; exact Row.updN2 _ 0 _
            · exact hlnl
            · exact hlno
            · (try simp only [List.length_append, List.length_singleton]); omega
            intro w' M' hO'
            repeat (first | refine SeqS.go cok ?_ | refine CondS.f rfl ?_ | (refine ValS.keep ?_; first | (with_reducible refine ValS.kI64 ?_; first | (with_reducible refine ValS.addI64_L ?_ ?_ ; omega))))
            refine ⟨⟨i + 1, true, out ++ [t], vo ++ [ln], w', M'⟩, Rel.drop _ [_] ⟨rfl, hlt, hO', hL.snoc hT, ?_, rfl, rfl, rfl, rfl, rfl, rfl, rfl, rfl, rfl, trivial⟩, by show ml.length - (i + 1) < ml.length - i; omega⟩
            rw [← hout, List.append_assoc]; rfl
          · skip
            have hs0 : sameT t tx = true := by rw [ht]; show (decide (tx.1 = a) && decide (tx.2.1 = k)) = true; rw [decide_eq_true heq, decide_eq_true h]; rfl
            rw [hs0] at hout
            repeat (first | (refine QuG.keep ?_; first | refine QuG.elE cok _ (by assumption) (by first | assumption | exact ‹∀ G, Rd ⟨_, G⟩ _› _) (by assumption) rfl rfl rfl rfl rfl (by omega) ?_) | refine SeqS.go cok ?_ | refine And.intro (by omega) ?_ | (refine NatS.keep ?_; first | with_reducible refine NatS.nat ?_) | (refine CondS.keep ?_; first | refine CondS.d1 rfl (by omega) ?_))
            intro b11
            repeat (first | (refine QuG.keep ?_; first | refine QuG.subL cok 0 rfl rfl rfl rfl rfl rfl (by assumption) (by assumption) (by first | exact Nat.le_of_ble_eq_true rfl | omega) ?_ | refine QuG.boxL cok 1 rfl rfl rfl rfl rfl (by assumption) ?_ | refine QuG.upC cok 0 rfl rfl rfl rfl rfl rfl (by first | exact Nat.le_of_ble_eq_true rfl | omega) (by first | exact Nat.le_of_ble_eq_true rfl | omega) (by assumption) ?_ | refine QuG.eqA cok .u8 rfl rfl rfl rfl rfl (by kernel_rfl) rfl rfl (by assumption) (by assumption) ?_) | (refine OpG.keep ?_; first | refine OpG.upS cok 0 rfl rfl rfl rfl rfl (by assumption) (by first | assumption | exact one_bvs _) (by first | exact Nat.le_of_ble_eq_true rfl | omega) ?_) | refine SeqS.go cok ?_ | refine GuardS.yes rfl ?_ | (refine GuardS.keep ?_; first | refine GuardS.T1 rfl (by omega) ?_))
            refine (nCmpE m1 hN2 h).mono ?_
            rintro r _ - ⟨rfl, rfl⟩
            repeat (first | refine SeqS.go cok ?_ | refine GuardS.yes rfl ?_ | refine GuardS.no rfl ?_ | refine GuardS.U rfl ?_ | refine CondS.f rfl ?_ | (refine ValS.keep ?_; first | (with_reducible refine ValS.kI64 ?_; first | (with_reducible refine ValS.addI64_L ?_ ?_ ; omega))))
            skip
            refine ⟨⟨i + 1, true, out, vo, w, M⟩, Rel.drop _ [_] ⟨rfl, hlt, hO, hL, ?_, rfl, rfl, rfl, rfl, rfl, rfl, rfl, rfl, rfl, trivial⟩, by show ml.length - (i + 1) < ml.length - i; omega⟩
            rw [← hout]; rfl
        · cases laid
          · cases hb : ltL a tx.1
            · rw [hb] at hbf
              have hs0 : sameT t tx = false := by rw [ht]; show (decide (tx.1 = a) && decide (tx.2.1 = k)) = false; rw [decide_eq_true heq, decide_eq_false (show ¬ tx.2.1 = k by omega)]; rfl
              rw [hs0] at hout
              have hi0 : insT t tx = true := by rw [insT, hs0, ht]; show (false || (ltL a tx.1 || (decide (a = tx.1) && decide (k < tx.2.1)))) = true; rw [hb, decide_eq_true heq', decide_eq_true h]; rfl
              rw [hi0] at hout
              repeat (first | (refine QuG.keep ?_; first | refine QuG.elE cok _ (by assumption) (by first | assumption | exact ‹∀ G, Rd ⟨_, G⟩ _› _) (by assumption) rfl rfl rfl rfl rfl (by omega) ?_) | refine SeqS.go cok ?_ | refine And.intro (by omega) ?_ | (refine NatS.keep ?_; first | with_reducible refine NatS.nat ?_) | (refine CondS.keep ?_; first | refine CondS.d1 rfl (by omega) ?_))
              intro b11
              repeat (first | (refine QuG.keep ?_; first | refine QuG.subL cok 0 rfl rfl rfl rfl rfl rfl (by assumption) (by assumption) (by first | exact Nat.le_of_ble_eq_true rfl | omega) ?_ | refine QuG.boxL cok 1 rfl rfl rfl rfl rfl (by assumption) ?_ | refine QuG.upC cok 0 rfl rfl rfl rfl rfl rfl (by first | exact Nat.le_of_ble_eq_true rfl | omega) (by first | exact Nat.le_of_ble_eq_true rfl | omega) (by assumption) ?_ | refine QuG.eqA cok .u8 rfl rfl rfl rfl rfl (by kernel_rfl) rfl rfl (by assumption) (by assumption) ?_) | (refine OpG.keep ?_; first | refine OpG.upS cok 0 rfl rfl rfl rfl rfl (by assumption) (by first | assumption | exact one_bvs _) (by first | exact Nat.le_of_ble_eq_true rfl | omega) ?_) | refine SeqS.go cok ?_ | refine GuardS.yes rfl ?_ | (refine GuardS.keep ?_; first | refine GuardS.T1 rfl (by omega) ?_))
              refine (nCmpG m1 hN2 h).mono ?_
              rintro r _ - ⟨rfl, rfl⟩
              repeat (first | (refine QuG.keep ?_; first | refine QuG.subL cok 0 rfl rfl rfl rfl rfl rfl (by assumption) (by assumption) (by first | exact Nat.le_of_ble_eq_true rfl | omega) ?_ | refine QuG.boxL cok 1 rfl rfl rfl rfl rfl (by assumption) ?_) | refine SeqS.go cok ?_ | refine GuardS.yes rfl ?_)
              refine (hbf _).mono ?_
              rintro r _ - ⟨rfl, rfl⟩
              repeat (first | (refine QuG.keep ?_; first | refine QuG.subL cok 0 rfl rfl rfl rfl rfl rfl (by assumption) (by assumption) (by first | exact Nat.le_of_ble_eq_true rfl | omega) ?_ | refine QuG.boxL cok 1 rfl rfl rfl rfl rfl (by assumption) ?_ | refine QuG.upC cok 0 rfl rfl rfl rfl rfl rfl (by first | exact Nat.le_of_ble_eq_true rfl | omega) (by first | exact Nat.le_of_ble_eq_true rfl | omega) (by assumption) ?_ | refine QuG.eqA cok .u8 rfl rfl rfl rfl rfl (by kernel_rfl) rfl rfl (by assumption) (by assumption) ?_) | refine GuardS.yes rfl ?_ | (refine GuardS.keep ?_; first | refine GuardS.T1 rfl (by omega) ?_))
              refine (nCmpL hN2 m1 h).mono ?_
              rintro r _ - ⟨rfl, rfl⟩
              repeat (first | (refine QuG.keep ?_; first | refine QuG.boxL cok 1 rfl rfl rfl rfl rfl (by assumption) ?_) | refine And.intro ⟨⟨by assumption, Nat.le_of_ble_eq_true rfl⟩, fillOk_of (Eq.refl true)⟩ ?_ | refine SeqS.go cok ?_ | refine GuardS.yes rfl ?_ | refine CondS.t rfl ?_ | refine And.intro (fillOk_of (Eq.refl true)) ?_ | refine And.intro (Eq.refl true) ?_ | refine And.intro (by dsimp only; omega) ?_)
              intro tb
              skip
              refine OpG.keep ?_
              refine OpG.app1 cok (L := _ :: _ :: _ :: G) (M := M) (vss := vo) (el := ln) rfl rfl rfl rfl rfl rfl rfl rfl rfl ?_ ?_ ?_ ?_ ?_ ?_
              · exact hO
              · rw [← hbl]; exact Row.updN2 _ 0 _
              · exact hlnl
              · exact hlno
              · (try simp only [List.length_append, List.length_singleton]); omega
              intro w' M' hO'
              repeat (first | (refine QuG.keep ?_; first | refine QuG.upL cok 0 rfl rfl rfl rfl rfl rfl (by assumption) (by first | exact Nat.le_of_ble_eq_true rfl | omega) ?_) | refine And.intro ⟨⟨by assumption, Nat.le_of_ble_eq_true rfl⟩, trivial⟩ ?_ | refine SeqS.go cok ?_ | refine CondS.t rfl ?_ | refine And.intro (by dsimp only; omega) ?_)
              intro tb2
              skip
              refine OpG.keep ?_
              refine OpG.app1 cok (L := _ :: _ :: _ :: G) (M := M') (vss := vo ++ [ln]) (el := lx) rfl rfl rfl rfl rfl rfl rfl rfl rfl ?_ ?_ ?_ ?_ ?_ ?_
              · exact hO'
              · exact Row.updN2 _ 0 _
              · exact hle
              · exact hone
              · (try simp only [List.length_append, List.length_singleton]); omega
              intro w2 M2 hO2
              repeat (first | refine SeqS.go cok ?_ | (refine ValS.keep ?_; first | (with_reducible refine ValS.kI64 ?_; first | (with_reducible refine ValS.addI64_L ?_ ?_ ; omega))))
              refine ⟨⟨i + 1, true, out ++ [t] ++ [tx], vo ++ [ln] ++ [lx], w2, M2⟩, Rel.drop _ [_] ⟨rfl, hlt, hO2, (hL.snoc hT).snoc hac, ?_, rfl, rfl, rfl, rfl, rfl, rfl, rfl, rfl, rfl, trivial⟩, by show ml.length - (i + 1) < ml.length - i; omega⟩
              rw [← hout, List.append_assoc, List.append_assoc]; rfl
            · rw [hb] at hbf
              have hs0 : sameT t tx = false := by rw [ht]; show (decide (tx.1 = a) && decide (tx.2.1 = k)) = false; rw [decide_eq_true heq, decide_eq_false (show ¬ tx.2.1 = k by omega)]; rfl
              rw [hs0] at hout
              have hi0 : insT t tx = true := by rw [insT, hs0, ht]; show (false || (ltL a tx.1 || (decide (a = tx.1) && decide (k < tx.2.1)))) = true; rw [hb]; simp
              rw [hi0] at hout
              repeat (first | (refine QuG.keep ?_; first | refine QuG.elE cok _ (by assumption) (by first | assumption | exact ‹∀ G, Rd ⟨_, G⟩ _› _) (by assumption) rfl rfl rfl rfl rfl (by omega) ?_) | refine SeqS.go cok ?_ | refine And.intro (by omega) ?_ | (refine NatS.keep ?_; first | with_reducible refine NatS.nat ?_) | (refine CondS.keep ?_; first | refine CondS.d1 rfl (by omega) ?_))
              intro b11
              repeat (first | (refine QuG.keep ?_; first | refine QuG.subL cok 0 rfl rfl rfl rfl rfl rfl (by assumption) (by assumption) (by first | exact Nat.le_of_ble_eq_true rfl | omega) ?_ | refine QuG.boxL cok 1 rfl rfl rfl rfl rfl (by assumption) ?_ | refine QuG.upC cok 0 rfl rfl rfl rfl rfl rfl (by first | exact Nat.le_of_ble_eq_true rfl | omega) (by first | exact Nat.le_of_ble_eq_true rfl | omega) (by assumption) ?_ | refine QuG.eqA cok .u8 rfl rfl rfl rfl rfl (by kernel_rfl) rfl rfl (by assumption) (by assumption) ?_) | (refine OpG.keep ?_; first | refine OpG.upS cok 0 rfl rfl rfl rfl rfl (by assumption) (by first | assumption | exact one_bvs _) (by first | exact Nat.le_of_ble_eq_true rfl | omega) ?_) | refine SeqS.go cok ?_ | refine GuardS.yes rfl ?_ | (refine GuardS.keep ?_; first | refine GuardS.T1 rfl (by omega) ?_))
              refine (nCmpG m1 hN2 h).mono ?_
              rintro r _ - ⟨rfl, rfl⟩
              repeat (first | (refine QuG.keep ?_; first | refine QuG.subL cok 0 rfl rfl rfl rfl rfl rfl (by assumption) (by assumption) (by first | exact Nat.le_of_ble_eq_true rfl | omega) ?_ | refine QuG.boxL cok 1 rfl rfl rfl rfl rfl (by assumption) ?_) | refine SeqS.go cok ?_ | refine GuardS.yes rfl ?_)
              refine (hbf _).mono ?_
              rintro r _ - ⟨rfl, rfl⟩
              repeat (first | (refine QuG.keep ?_; first | refine QuG.boxL cok 1 rfl rfl rfl rfl rfl (by assumption) ?_) | refine And.intro ⟨⟨by assumption, Nat.le_of_ble_eq_true rfl⟩, fillOk_of (Eq.refl true)⟩ ?_ | refine SeqS.go cok ?_ | refine GuardS.yes rfl ?_ | refine GuardS.no rfl ?_ | refine GuardS.U rfl ?_ | refine CondS.t rfl ?_ | refine And.intro (fillOk_of (Eq.refl true)) ?_ | refine And.intro (Eq.refl true) ?_ | refine And.intro (by dsimp only; omega) ?_)
              intro tb
              skip
              refine OpG.keep ?_
              refine OpG.app1 cok (L := _ :: _ :: _ :: G) (M := M) (vss := vo) (el := ln) rfl rfl rfl rfl rfl rfl rfl rfl rfl ?_ ?_ ?_ ?_ ?_ ?_
              · exact hO
              · rw [← hbl]; exact Row.updN2 _ 0 _
              · exact hlnl
              · exact hlno
              · (try simp only [List.length_append, List.length_singleton]); omega
              intro w' M' hO'
              repeat (first | (refine QuG.keep ?_; first | refine QuG.upL cok 0 rfl rfl rfl rfl rfl rfl (by assumption) (by first | exact Nat.le_of_ble_eq_true rfl | omega) ?_) | refine And.intro ⟨⟨by assumption, Nat.le_of_ble_eq_true rfl⟩, trivial⟩ ?_ | refine SeqS.go cok ?_ | refine CondS.t rfl ?_ | refine And.intro (by dsimp only; omega) ?_)
              intro tb2
              skip
              refine OpG.keep ?_
              refine OpG.app1 cok (L := _ :: _ :: _ :: G) (M := M') (vss := vo ++ [ln]) (el := lx) rfl rfl rfl rfl rfl rfl rfl rfl rfl ?_ ?_ ?_ ?_ ?_ ?_
              · exact hO'
              · exact Row.updN2 _ 0 _
              · exact hle
              · exact hone
              · (try simp only [List.length_append, List.length_singleton]); omega
              intro w2 M2 hO2
              repeat (first | refine SeqS.go cok ?_ | (refine ValS.keep ?_; first | (with_reducible refine ValS.kI64 ?_; first | (with_reducible refine ValS.addI64_L ?_ ?_ ; omega))))
              refine ⟨⟨i + 1, true, out ++ [t] ++ [tx], vo ++ [ln] ++ [lx], w2, M2⟩, Rel.drop _ [_] ⟨rfl, hlt, hO2, (hL.snoc hT).snoc hac, ?_, rfl, rfl, rfl, rfl, rfl, rfl, rfl, rfl, rfl, trivial⟩, by show ml.length - (i + 1) < ml.length - i; omega⟩
              rw [← hout, List.append_assoc, List.append_assoc]; rfl
          · skip
            have hs0 : sameT t tx = false := by rw [ht]; show (decide (tx.1 = a) && decide (tx.2.1 = k)) = false; rw [decide_eq_true heq, decide_eq_false (show ¬ tx.2.1 = k by omega)]; rfl
            rw [hs0] at hout
            repeat (first | (refine QuG.keep ?_; first | refine QuG.elE cok _ (by assumption) (by first | assumption | exact ‹∀ G, Rd ⟨_, G⟩ _› _) (by assumption) rfl rfl rfl rfl rfl (by omega) ?_) | refine SeqS.go cok ?_ | refine And.intro (by omega) ?_ | (refine NatS.keep ?_; first | with_reducible refine NatS.nat ?_) | (refine CondS.keep ?_; first | refine CondS.d1 rfl (by omega) ?_))
            intro b11
            repeat (first | (refine QuG.keep ?_; first | refine QuG.subL cok 0 rfl rfl rfl rfl rfl rfl (by assumption) (by assumption) (by first | exact Nat.le_of_ble_eq_true rfl | omega) ?_ | refine QuG.boxL cok 1 rfl rfl rfl rfl rfl (by assumption) ?_ | refine QuG.upC cok 0 rfl rfl rfl rfl rfl rfl (by first | exact Nat.le_of_ble_eq_true rfl | omega) (by first | exact Nat.le_of_ble_eq_true rfl | omega) (by assumption) ?_ | refine QuG.eqA cok .u8 rfl rfl rfl rfl rfl (by kernel_rfl) rfl rfl (by assumption) (by assumption) ?_) | (refine OpG.keep ?_; first | refine OpG.upS cok 0 rfl rfl rfl rfl rfl (by assumption) (by first | assumption | exact one_bvs _) (by first | exact Nat.le_of_ble_eq_true rfl | omega) ?_) | refine SeqS.go cok ?_ | refine GuardS.yes rfl ?_ | (refine GuardS.keep ?_; first | refine GuardS.T1 rfl (by omega) ?_))
            refine (nCmpG m1 hN2 h).mono ?_
            rintro r _ - ⟨rfl, rfl⟩
            repeat (first | (refine QuG.keep ?_; first | refine QuG.upL cok 0 rfl rfl rfl rfl rfl rfl (by assumption) (by first | exact Nat.le_of_ble_eq_true rfl | omega) ?_) | refine And.intro ⟨⟨by assumption, Nat.le_of_ble_eq_true rfl⟩, trivial⟩ ?_ | refine SeqS.go cok ?_ | refine GuardS.yes rfl ?_ | refine GuardS.no rfl ?_ | refine GuardS.U rfl ?_ | refine CondS.t rfl ?_ | refine CondS.f rfl ?_ | refine And.intro (by dsimp only; omega) ?_)
            intro tb
            skip
            refine OpG.keep ?_
            refine OpG.app1 cok (L := _ :: _ :: _ :: G) (M := M) (vss := vo) (el := lx) rfl rfl rfl rfl rfl rfl rfl rfl rfl ?_ ?_ ?_ ?_ ?_ ?_
            · exact hO
            · exact Row.updN2 _ 0 _
            · exact hle
            · exact hone
            · (try simp only [List.length_append, List.length_singleton]); omega
            intro w' M' hO'
            repeat (first | refine SeqS.go cok ?_ | (refine ValS.keep ?_; first | (with_reducible refine ValS.kI64 ?_; first | (with_reducible refine ValS.addI64_L ?_ ?_ ; omega))))
            refine ⟨⟨i + 1, true, out ++ [tx], vo ++ [lx], w', M'⟩, Rel.drop _ [_] ⟨rfl, hlt, hO', hL.snoc hac, ?_, rfl, rfl, rfl, rfl, rfl, rfl, rfl, rfl, rfl, trivial⟩, by show ml.length - (i + 1) < ml.length - i; omega⟩
            rw [← hout, List.append_assoc]; rfl
      · have heq' : ¬ a = tx.1 := fun h => heq h.symm
        cases laid
        · cases hb : ltL a tx.1
          · rw [hb] at hbf
            have hs0 : sameT t tx = false := by rw [ht]; show (decide (tx.1 = a) && decide (tx.2.1 = k)) = false; rw [decide_eq_false heq]; rfl
            rw [hs0] at hout
            have hi0 : insT t tx = false := by rw [insT, hs0, ht]; show (false || (ltL a tx.1 || (decide (a = tx.1) && decide (k < tx.2.1)))) = false; rw [hb, decide_eq_false heq']; rfl
            rw [hi0] at hout
            repeat (first | (refine QuG.keep ?_; first | refine QuG.elE cok _ (by assumption) (by first | assumption | exact ‹∀ G, Rd ⟨_, G⟩ _› _) (by assumption) rfl rfl rfl rfl rfl (by omega) ?_) | refine SeqS.go cok ?_ | refine And.intro (by omega) ?_ | (refine NatS.keep ?_; first | with_reducible refine NatS.nat ?_) | (refine CondS.keep ?_; first | refine CondS.d1 rfl (by omega) ?_))
            intro b11
            repeat (first | (refine QuG.keep ?_; first | refine QuG.subL cok 0 rfl rfl rfl rfl rfl rfl (by assumption) (by assumption) (by first | exact Nat.le_of_ble_eq_true rfl | omega) ?_ | refine QuG.boxL cok 1 rfl rfl rfl rfl rfl (by assumption) ?_ | refine QuG.eqA cok .u8 rfl rfl rfl rfl rfl (by kernel_rfl) rfl rfl (by assumption) (by assumption) ?_) | (refine OpG.keep ?_; first | refine OpG.upS cok 0 rfl rfl rfl rfl rfl (by assumption) (by first | assumption | exact one_bvs _) (by first | exact Nat.le_of_ble_eq_true rfl | omega) ?_) | refine SeqS.go cok ?_ | refine GuardS.yes rfl ?_ | refine GuardS.no rfl ?_ | (refine GuardS.keep ?_; first | refine GuardS.T0 rfl (by omega) ?_))
            refine (hbf _).mono ?_
            rintro r _ - ⟨rfl, rfl⟩
            repeat (first | (refine QuG.keep ?_; first | refine QuG.upL cok 0 rfl rfl rfl rfl rfl rfl (by assumption) (by first | exact Nat.le_of_ble_eq_true rfl | omega) ?_ | refine QuG.subL cok 0 rfl rfl rfl rfl rfl rfl (by assumption) (by assumption) (by first | exact Nat.le_of_ble_eq_true rfl | omega) ?_ | refine QuG.boxL cok 1 rfl rfl rfl rfl rfl (by assumption) ?_ | refine QuG.eqA cok .u8 rfl rfl rfl rfl rfl (by kernel_rfl) rfl rfl (by assumption) (by assumption) ?_) | refine And.intro ⟨⟨by assumption, Nat.le_of_ble_eq_true rfl⟩, trivial⟩ ?_ | refine SeqS.go cok ?_ | refine GuardS.yes rfl ?_ | refine GuardS.no rfl ?_ | refine CondS.t rfl ?_ | refine CondS.f rfl ?_ | refine And.intro (by dsimp only; omega) ?_ | (refine GuardS.keep ?_; first | refine GuardS.T0 rfl (by omega) ?_))
            intro tb
            skip
            refine OpG.keep ?_
            refine OpG.app1 cok (L := _ :: _ :: _ :: G) (M := M) (vss := vo) (el := lx) rfl rfl rfl rfl rfl rfl rfl rfl rfl ?_ ?_ ?_ ?_ ?_ ?_
            · exact hO
            · exact Row.updN2 _ 0 _
            · exact hle
            · exact hone
            · (try simp only [List.length_append, List.length_singleton]); omega
            intro w' M' hO'
            repeat (first | refine SeqS.go cok ?_ | (refine ValS.keep ?_; first | (with_reducible refine ValS.kI64 ?_; first | (with_reducible refine ValS.addI64_L ?_ ?_ ; omega))))
            refine ⟨⟨i + 1, false, out ++ [tx], vo ++ [lx], w', M'⟩, Rel.drop _ [_] ⟨rfl, hlt, hO', hL.snoc hac, ?_, rfl, rfl, rfl, rfl, rfl, rfl, rfl, rfl, rfl, trivial⟩, by show ml.length - (i + 1) < ml.length - i; omega⟩
            rw [← hout, List.append_assoc]; rfl
          · rw [hb] at hbf
            have hs0 : sameT t tx = false := by rw [ht]; show (decide (tx.1 = a) && decide (tx.2.1 = k)) = false; rw [decide_eq_false heq]; rfl
            rw [hs0] at hout
            have hi0 : insT t tx = true := by rw [insT, hs0, ht]; show (false || (ltL a tx.1 || (decide (a = tx.1) && decide (k < tx.2.1)))) = true; rw [hb]; simp
            rw [hi0] at hout
            repeat (first | (refine QuG.keep ?_; first | refine QuG.elE cok _ (by assumption) (by first | assumption | exact ‹∀ G, Rd ⟨_, G⟩ _› _) (by assumption) rfl rfl rfl rfl rfl (by omega) ?_) | refine SeqS.go cok ?_ | refine And.intro (by omega) ?_ | (refine NatS.keep ?_; first | with_reducible refine NatS.nat ?_) | (refine CondS.keep ?_; first | refine CondS.d1 rfl (by omega) ?_))
            intro b11
            repeat (first | (refine QuG.keep ?_; first | refine QuG.subL cok 0 rfl rfl rfl rfl rfl rfl (by assumption) (by assumption) (by first | exact Nat.le_of_ble_eq_true rfl | omega) ?_ | refine QuG.boxL cok 1 rfl rfl rfl rfl rfl (by assumption) ?_ | refine QuG.eqA cok .u8 rfl rfl rfl rfl rfl (by kernel_rfl) rfl rfl (by assumption) (by assumption) ?_) | (refine OpG.keep ?_; first | refine OpG.upS cok 0 rfl rfl rfl rfl rfl (by assumption) (by first | assumption | exact one_bvs _) (by first | exact Nat.le_of_ble_eq_true rfl | omega) ?_) | refine SeqS.go cok ?_ | refine GuardS.yes rfl ?_ | refine GuardS.no rfl ?_ | (refine GuardS.keep ?_; first | refine GuardS.T0 rfl (by omega) ?_))
            refine (hbf _).mono ?_
            rintro r _ - ⟨rfl, rfl⟩
            repeat (first | (refine QuG.keep ?_; first | refine QuG.boxL cok 1 rfl rfl rfl rfl rfl (by assumption) ?_) | refine And.intro ⟨⟨by assumption, Nat.le_of_ble_eq_true rfl⟩, fillOk_of (Eq.refl true)⟩ ?_ | refine SeqS.go cok ?_ | refine GuardS.yes rfl ?_ | refine GuardS.no rfl ?_ | refine GuardS.U rfl ?_ | refine CondS.t rfl ?_ | refine And.intro (fillOk_of (Eq.refl true)) ?_ | refine And.intro (Eq.refl true) ?_ | refine And.intro (by dsimp only; omega) ?_)
            intro tb
            skip
            refine OpG.keep ?_
            refine OpG.app1 cok (L := _ :: _ :: _ :: G) (M := M) (vss := vo) (el := ln) rfl rfl rfl rfl rfl rfl rfl rfl rfl ?_ ?_ ?_ ?_ ?_ ?_
            · exact hO
            · rw [← hbl]; exact Row.updN2 _ 0 _
            · exact hlnl
            · exact hlno
            · (try simp only [List.length_append, List.length_singleton]); omega
            intro w' M' hO'
            repeat (first | (refine QuG.keep ?_; first | refine QuG.upL cok 0 rfl rfl rfl rfl rfl rfl (by assumption) (by first | exact Nat.le_of_ble_eq_true rfl | omega) ?_) | refine And.intro ⟨⟨by assumption, Nat.le_of_ble_eq_true rfl⟩, trivial⟩ ?_ | refine SeqS.go cok ?_ | refine CondS.t rfl ?_ | refine And.intro (by dsimp only; omega) ?_)
            intro tb2
            skip
            refine OpG.keep ?_
            refine OpG.app1 cok (L := _ :: _ :: _ :: G) (M := M') (vss := vo ++ [ln]) (el := lx) rfl rfl rfl rfl rfl rfl rfl rfl rfl ?_ ?_ ?_ ?_ ?_ ?_
            · exact hO'
            · exact Row.updN2 _ 0 _
            · exact hle
            · exact hone
            · (try simp only [List.length_append, List.length_singleton]); omega
            intro w2 M2 hO2
            repeat (first | refine SeqS.go cok ?_ | (refine ValS.keep ?_; first | (with_reducible refine ValS.kI64 ?_; first | (with_reducible refine ValS.addI64_L ?_ ?_ ; omega))))
            refine ⟨⟨i + 1, true, out ++ [t] ++ [tx], vo ++ [ln] ++ [lx], w2, M2⟩, Rel.drop _ [_] ⟨rfl, hlt, hO2, (hL.snoc hT).snoc hac, ?_, rfl, rfl, rfl, rfl, rfl, rfl, rfl, rfl, rfl, trivial⟩, by show ml.length - (i + 1) < ml.length - i; omega⟩
            rw [← hout, List.append_assoc, List.append_assoc]; rfl
        · skip
          have hs0 : sameT t tx = false := by rw [ht]; show (decide (tx.1 = a) && decide (tx.2.1 = k)) = false; rw [decide_eq_false heq]; rfl
          rw [hs0] at hout
          repeat (first | (refine QuG.keep ?_; first | refine QuG.elE cok _ (by assumption) (by first | assumption | exact ‹∀ G, Rd ⟨_, G⟩ _› _) (by assumption) rfl rfl rfl rfl rfl (by omega) ?_) | refine SeqS.go cok ?_ | refine And.intro (by omega) ?_ | (refine NatS.keep ?_; first | with_reducible refine NatS.nat ?_) | (refine CondS.keep ?_; first | refine CondS.d1 rfl (by omega) ?_))
          intro b11
          repeat (first | (refine QuG.keep ?_; first | refine QuG.upL cok 0 rfl rfl rfl rfl rfl rfl (by assumption) (by first | exact Nat.le_of_ble_eq_true rfl | omega) ?_ | refine QuG.subL cok 0 rfl rfl rfl rfl rfl rfl (by assumption) (by assumption) (by first | exact Nat.le_of_ble_eq_true rfl | omega) ?_ | refine QuG.boxL cok 1 rfl rfl rfl rfl rfl (by assumption) ?_ | refine QuG.eqA cok .u8 rfl rfl rfl rfl rfl (by kernel_rfl) rfl rfl (by assumption) (by assumption) ?_) | (refine OpG.keep ?_; first | refine OpG.upS cok 0 rfl rfl rfl rfl rfl (by assumption) (by first | assumption | exact one_bvs _) (by first | exact Nat.le_of_ble_eq_true rfl | omega) ?_) | refine And.intro ⟨⟨by assumption, Nat.le_of_ble_eq_true rfl⟩, trivial⟩ ?_ | refine SeqS.go cok ?_ | refine GuardS.no rfl ?_ | refine GuardS.U rfl ?_ | refine CondS.t rfl ?_ | refine CondS.f rfl ?_ | refine And.intro (by dsimp only; omega) ?_ | (refine GuardS.keep ?_; first | refine GuardS.T0 rfl (by omega) ?_))
          intro tb
          skip
          refine OpG.keep ?_
          refine OpG.app1 cok (L := _ :: _ :: _ :: G) (M := M) (vss := vo) (el := lx) rfl rfl rfl rfl rfl rfl rfl rfl rfl ?_ ?_ ?_ ?_ ?_ ?_
          · exact hO
          · exact Row.updN2 _ 0 _
          · exact hle
          · exact hone
          · (try simp only [List.length_append, List.length_singleton]); omega
          intro w' M' hO'
          repeat (first | refine SeqS.go cok ?_ | (refine ValS.keep ?_; first | (with_reducible refine ValS.kI64 ?_; first | (with_reducible refine ValS.addI64_L ?_ ?_ ; omega))))
          refine ⟨⟨i + 1, true, out ++ [tx], vo ++ [lx], w', M'⟩, Rel.drop _ [_] ⟨rfl, hlt, hO', hL.snoc hac, ?_, rfl, rfl, rfl, rfl, rfl, rfl, rfl, rfl, rfl, trivial⟩, by show ml.length - (i + 1) < ml.length - i; omega⟩
          rw [← hout, List.append_assoc]; rfl
    · rw [List.drop_of_length_le (by omega)] at hout
      repeat (first | refine SeqS.go cok ?_ | (refine CondS.keep ?_; first | refine CondS.d0 rfl (by omega) ?_))
      exact ⟨laid, out, vo, w, M, rfl, hO, hL, hout, rfl, rfl, rfl, rfl, rfl, rfl, trivial⟩
end Go.Proofs.YgvafwGreat
