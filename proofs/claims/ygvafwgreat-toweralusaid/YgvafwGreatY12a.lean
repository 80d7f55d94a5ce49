import Derived.Test.YgvafwGreatY12z
set_option maxRecDepth 100000
set_option maxHeartbeats 4000000
set_option linter.unusedVariables false
set_option linter.unusedSimpArgs false
-- v2
-- v4
namespace Go.Proofs.YgvafwGreat
open Go.HL Go.Proofs

theorem yPutA {I : Ent → Prop} {G : List Ent} {wb sz svn : Nat} {T : TypeId} {c : Nat → Value} {al : List YA} {l : List Value} {a : YA} (hsz : 8 ≤ sz) (hN : AcctsI I (c 0) al) (hA : AcctC I l a) (hlen : al.length < 2 ^ 19) (hE : emptyA a = false) (hsn : a.slots.length = svn) (hS : 0 ≤ svn) :
    CallG Hvaf.prog 137 #[ptr wb 0, .agg l.toArray] ⟨I, ⟨wb, sz, T, c⟩ :: G⟩ fun r S' => ∃ J w, S' = ⟨J, ⟨wb, sz, T, upd c 0 w⟩ :: G⟩ ∧ AcctsI J w (putL a false al) := by
  skip
  have h24a := hA.len
  have honea := hA.one
  have hada : (l.drop 0).take 20 = bvs a.addr ∧ 0 < (bvs a.addr).length := ⟨hA.ad, by rw [hA.ok.bv]; decide⟩
  have hb20a := hA.ok.bv
  have hl20a := hA.ok.len
  obtain ⟨nv, bv, cv, sv, el, hn1, hn2, hn3, hn4⟩ := hA.out
  obtain ⟨svs, hsr, hsl0, _⟩ := hn4.out
  obtain ⟨sad, scap, hsv⟩ := hsr.form
  rw [hsl0, hsn] at hsv
  have hg : ∀ k, k < 4 → vc (.agg l.toArray) (20 + k) = [nv, bv, cv, sv].getD k undef := by
    intro k hk
    show l.getD (20 + k) undef = _
    rw [el, List.getD_eq_getElem?_getD, List.getElem?_append_right (by omega), hb20a, List.getD_eq_getElem?_getD, show 20 + k - 20 = k by omega]
  have hem := fun b3 => yEmpty (I := I) (G := ⟨wb, sz, T, c⟩ :: G) (b := b3) (sz := l.length) (T := 121) (c := vc (.agg l.toArray)) (n := a.nonce) (m := a.bal) (code := a.code) (by omega) (by rw [hg 0 (by omega)]; exact hn1) (by rw [hg 1 (by omega)]; exact hn2) (by rw [hg 2 (by omega)]; exact hn3)
  have hE2 : (decide (a.nonce = 0) && (decide (a.bal = 0) && decide (a.code.length = 0))) = false := hE
  rw [hE2] at hem
  have hgs : vc (.agg l.toArray) 23 = .slice sad svn scap := by rw [hg 3 (by omega)]; exact hsv
  obtain ⟨vss, hR, hvl, hel0⟩ := hN.out
  obtain ⟨ad, cap, hc0⟩ := hR.form
  refine CallG.start (C := mkC Hvaf.prog) cok (args := [ptr wb 0, .agg l.toArray]) Hvaf.func137 rfl Hvaf.ntmps137 (by simp) (by kernel_rfl) ?_
  intro b3
  repeat (first | refine SeqS.go cok ?_)
  refine (hem b3).mono ?_
  rintro r _ - ⟨rfl, rfl⟩
  repeat (first | (refine QuG.keep ?_; first | refine QuG.l1E cok 1 rfl rfl rfl rfl rfl (by first | exact Nat.le_of_ble_eq_true rfl | omega | (dsimp only; omega) | (simp only [addS_eq, mulS_eq]; omega)) (by assumption) ?_) | refine SeqS.go cok ?_ | refine GuardS.no rfl ?_)
  refine W.loopF cok (by kernel_rfl) 0 (fun (p : Nat × Bool × List YA × List (List Value) × Value × List Ent) e' S' => S' = ⟨I, ⟨b3, l.length, 121, vc (.agg l.toArray)⟩ :: ⟨wb, sz, T, c⟩ :: (G ++ p.2.2.2.2.2)⟩ ∧ p.1 ≤ al.length ∧ OwnL 121 24 p.2.2.2.2.1 p.2.2.2.1 p.2.2.2.2.2 ∧ L2 (AcctC I) dA p.2.2.2.1 p.2.2.1 ∧ p.2.2.1 ++ putL a p.2.1 (al.drop p.1) = putL a false al ∧
      slots [(0, ptr wb 0), (3, ptr b3 0), (4, p.2.2.2.2.1), (5, .bool p.2.1), (18, .slice ad vss.length cap), (19, .int .i64 (vss.length : Nat)), (20, .int .i64 (p.1 : Nat))] e') (fun p => al.length - p.1) (0, false, [], [], .slice none 0 0, [])
    (Rel.perm (⟨b3, l.length, 121, vc (.agg l.toArray)⟩ :: ⟨wb, sz, T, c⟩ :: (G ++ [])) [] (by simp) ⟨rfl, Nat.zero_le _, OwnL.nil _ _, L2.nil _ _, rfl, rfl, rfl, rfl, vB rfl (by first | rfl | (simp; omega)), rfl, rfl, rfl, trivial⟩)
    (fun e' S' => ∃ laid out vo w M, S' = ⟨I, ⟨b3, l.length, 121, vc (.agg l.toArray)⟩ :: ⟨wb, sz, T, c⟩ :: (G ++ M)⟩ ∧ OwnL 121 24 w vo M ∧ L2 (AcctC I) dA vo out ∧ out ++ (if laid then [] else [a]) = putL a false al ∧ slots [(0, ptr wb 0), (3, ptr b3 0), (4, w), (5, .bool laid)] e') ?_ ?_
  · rintro e' S2 - ⟨laid, out, vo, w, M, rfl, hO, hL, hout, hsl⟩
    refine SeqS.slots cok _ hsl fun e => ?_
    have hol := congrArg List.length hout
    have hpl := (putL_len a al false).1
    have hvo := hL.len
    rw [List.length_append] at hol
    cases laid
    · repeat (first | (refine QuG.keep ?_; first | refine QuG.boxL cok 0 rfl rfl rfl rfl rfl (by assumption) ?_) | refine And.intro ⟨⟨by assumption, Nat.le_of_ble_eq_true rfl⟩, trivial⟩ ?_ | refine SeqS.go cok ?_ | refine CondS.t rfl ?_ | refine And.intro (by dsimp only; omega) ?_)
      intro tb
      skip
      refine OpG.keep ?_
      refine OpG.app1 cok (L := _ :: _ :: G) (M := M) (vss := vo) (el := l) rfl rfl rfl rfl rfl rfl rfl rfl rfl ?_ ?_ ?_ ?_ ?_ ?_
      · exact hO
      · exact Row.updN2 _ 0 _
      · exact h24a
      · exact honea
      · (try simp only [List.length_append, List.length_singleton]); omega
      intro w' M' hO'
      have hone' := hO'.one
      repeat (first | (refine OpG.keep ?_; first | refine OpG.s1 cok 1 rfl rfl rfl rfl rfl (by first | exact Nat.le_of_ble_eq_true rfl | omega | (dsimp only; omega) | (simp only [addS_eq, mulS_eq]; omega)) rfl (by assumption) ?_) | refine SeqS.go cok ?_)
      refine ⟨[⟨b3, l.length, 121, vc (.agg l.toArray)⟩], M', ⟨wb, sz, T, _⟩ :: G, _, ?_, fun _ => .rfl, _, w', rfl, ?_⟩
      · exact perm_put
      · rw [← hout]
        exact AcctsI.mk' (hO'.row (fun x hx => .inr hx)) ((hL.mono fun _ _ h => h.up sub_frz).snoc (hA.up sub_frz))
    · have hone' := hO.one
      repeat (first | (refine OpG.keep ?_; first | refine OpG.s1 cok 1 rfl rfl rfl rfl rfl (by first | exact Nat.le_of_ble_eq_true rfl | omega | (dsimp only; omega) | (simp only [addS_eq, mulS_eq]; omega)) rfl (by assumption) ?_) | refine SeqS.go cok ?_ | refine CondS.f rfl ?_)
      refine ⟨[⟨b3, l.length, 121, vc (.agg l.toArray)⟩], M, ⟨wb, sz, T, _⟩ :: G, _, ?_, fun _ => .rfl, _, w, rfl, ?_⟩
      · exact perm_put
      · rw [← hout, if_pos rfl, List.append_nil]
        exact AcctsI.mk' (hO.row (fun x hx => .inr hx)) (hL.mono fun _ _ h => h.up sub_frz)
  · rintro ⟨i, laid, out, vo, w, M⟩ e' S2 - ⟨hSt, hi, hO, hL, hout, hsl⟩
    dsimp only at hSt hi hO hL hout hsl
    subst hSt
    refine W.slots _ hsl fun e => ?_
    have hol := congrArg List.length hout
    have hpl := (putL_len a al false).1
    have hvo := hL.len
    rw [List.length_append] at hol
    by_cases hlt : i < al.length
    · rw [hc0] at hR
      obtain ⟨x, o, rfl, hx, hEl⟩ := hR.some (by omega)
      have hac := hel0 i hlt
      obtain ⟨lx, hl⟩ : ∃ lx, vss.getD i [] = lx := ⟨_, rfl⟩
      obtain ⟨ax, hax⟩ : ∃ ax, al.getD i dA = ax := ⟨_, rfl⟩
      rw [drop_consA hlt, hax] at hout
      replace hac : AcctC I lx ax := by rw [← hl, ← hax]; exact hac
      have hrd : ∀ G, Rd ⟨I, G⟩ x := fun _ => .inl hx
      have h24 := hac.len
      have hone := hac.one
      have had := hac.ad
      have hb20 := hac.ok.bv
      have hl20 := hac.ok.len
      have hbf := fun (S : St) => yBefore (S := S) hl20 hl20a hac.ok.b8 hA.ok.b8
      rw [putL] at hout
      cases laid
      · cases hb : ltL ax.addr a.addr
        · rw [hb] at hbf hout
          by_cases heq : ax.addr = a.addr
          · rw [if_pos heq] at hout
            repeat (first | (refine QuG.keep ?_; first | refine QuG.elE cok _ (by assumption) (by first | assumption | exact ‹∀ G, Rd ⟨_, G⟩ _› _) (by assumption) rfl rfl rfl rfl rfl (by omega) ?_) | refine SeqS.go cok ?_ | refine And.intro (by omega) ?_ | (refine NatS.keep ?_; first | with_reducible refine NatS.nat ?_) | (refine CondS.keep ?_; first | refine CondS.d1 rfl (by omega) ?_))
            intro b7
            repeat (first | (refine QuG.keep ?_; first | refine QuG.subL cok 0 rfl rfl rfl rfl rfl rfl (by assumption) (by assumption) (by first | exact Nat.le_of_ble_eq_true rfl | omega) ?_ | refine QuG.boxS cok 1 rfl rfl rfl rfl rfl rfl (by assumption) (by assumption) ?_) | (refine OpG.keep ?_; first | refine OpG.upS cok 0 rfl rfl rfl rfl rfl (by assumption) (by first | assumption | exact one_bvs _) (by first | exact Nat.le_of_ble_eq_true rfl | omega) ?_) | refine SeqS.go cok ?_ | refine GuardS.yes rfl ?_)
            refine (hbf _).mono ?_
            rintro r _ - ⟨rfl, rfl⟩
            repeat (first | (refine QuG.keep ?_; first | refine QuG.boxL cok 1 rfl rfl rfl rfl rfl (by assumption) ?_) | refine And.intro ⟨⟨by assumption, Nat.le_of_ble_eq_true rfl⟩, trivial⟩ ?_ | refine SeqS.go cok ?_ | refine GuardS.yes rfl ?_ | refine CondS.t rfl ?_ | refine And.intro (by dsimp only; omega) ?_)
            intro tb
            skip
            refine OpG.keep ?_
            refine OpG.app1 cok (L := _ :: _ :: _ :: G) (M := M) (vss := vo) (el := l) rfl rfl rfl rfl rfl rfl rfl rfl rfl ?_ ?_ ?_ ?_ ?_ ?_
            · exact hO
            · exact Row.updN2 _ 0 _
            · exact h24a
            · exact honea
            · (try simp only [List.length_append, List.length_singleton]); omega
            intro w' M' hO'
            repeat (first | (refine QuG.keep ?_; first | refine QuG.subL cok 0 rfl rfl rfl rfl rfl rfl (by assumption) (by assumption) (by first | exact Nat.le_of_ble_eq_true rfl | omega) ?_ | refine QuG.boxS cok 1 rfl rfl rfl rfl rfl rfl (by assumption) (by assumption) ?_ | refine QuG.neA cok .u8 rfl rfl rfl rfl rfl (by kernel_rfl) rfl rfl (by assumption) (by assumption) ?_) | refine SeqS.go cok ?_ | (refine ValS.keep ?_; first | (with_reducible refine ValS.kI64 ?_; first | (with_reducible refine ValS.addI64_L ?_ ?_ ; omega))) | (refine CondS.keep ?_; first | refine CondS.nd0 rfl (by omega) ?_))
            refine ⟨⟨i + 1, true, out ++ [a], vo ++ [l], w', M'⟩, Rel.drop _ [_] ⟨rfl, hlt, hO', hL.snoc hA, ?_, rfl, rfl, rfl, rfl, rfl, rfl, rfl, trivial⟩, by show al.length - (i + 1) < al.length - i; omega⟩
            rw [← hout, List.append_assoc]; rfl
          · rw [if_neg heq] at hout
            repeat (first | (refine QuG.keep ?_; first | refine QuG.elE cok _ (by assumption) (by first | assumption | exact ‹∀ G, Rd ⟨_, G⟩ _› _) (by assumption) rfl rfl rfl rfl rfl (by omega) ?_) | refine SeqS.go cok ?_ | refine And.intro (by omega) ?_ | (refine NatS.keep ?_; first | with_reducible refine NatS.nat ?_) | (refine CondS.keep ?_; first | refine CondS.d1 rfl (by omega) ?_))
            intro b7
            repeat (first | (refine QuG.keep ?_; first | refine QuG.subL cok 0 rfl rfl rfl rfl rfl rfl (by assumption) (by assumption) (by first | exact Nat.le_of_ble_eq_true rfl | omega) ?_ | refine QuG.boxS cok 1 rfl rfl rfl rfl rfl rfl (by assumption) (by assumption) ?_) | (refine OpG.keep ?_; first | refine OpG.upS cok 0 rfl rfl rfl rfl rfl (by assumption) (by first | assumption | exact one_bvs _) (by first | exact Nat.le_of_ble_eq_true rfl | omega) ?_) | refine SeqS.go cok ?_ | refine GuardS.yes rfl ?_)
            refine (hbf _).mono ?_
            rintro r _ - ⟨rfl, rfl⟩
            repeat (first | (refine QuG.keep ?_; first | refine QuG.boxL cok 1 rfl rfl rfl rfl rfl (by assumption) ?_) | refine And.intro ⟨⟨by assumption, Nat.le_of_ble_eq_true rfl⟩, trivial⟩ ?_ | refine SeqS.go cok ?_ | refine GuardS.yes rfl ?_ | refine CondS.t rfl ?_ | refine And.intro (by dsimp only; omega) ?_)
            intro tb
            skip
            refine OpG.keep ?_
            refine OpG.app1 cok (L := _ :: _ :: _ :: G) (M := M) (vss := vo) (el := l) rfl rfl rfl rfl rfl rfl rfl rfl rfl ?_ ?_ ?_ ?_ ?_ ?_
            · exact hO
            · exact Row.updN2 _ 0 _
            · exact h24a
            · exact honea
            · (try simp only [List.length_append, List.length_singleton]); omega
            intro w' M' hO'
            repeat (first | (refine QuG.keep ?_; first | refine QuG.upL cok 0 rfl rfl rfl rfl rfl rfl (by assumption) (by first | exact Nat.le_of_ble_eq_true rfl | omega) ?_ | refine QuG.subL cok 0 rfl rfl rfl rfl rfl rfl (by assumption) (by assumption) (by first | exact Nat.le_of_ble_eq_true rfl | omega) ?_ | refine QuG.boxS cok 1 rfl rfl rfl rfl rfl rfl (by assumption) (by assumption) ?_ | refine QuG.neA cok .u8 rfl rfl rfl rfl rfl (by kernel_rfl) rfl rfl (by assumption) (by assumption) ?_) | refine And.intro ⟨⟨by assumption, Nat.le_of_ble_eq_true rfl⟩, trivial⟩ ?_ | refine SeqS.go cok ?_ | refine And.intro (by dsimp only; omega) ?_ | (refine CondS.keep ?_; first | refine CondS.nd1 rfl (by omega) ?_))
            intro tb2
            skip
            refine OpG.keep ?_
            refine OpG.app1 cok (L := _ :: _ :: _ :: G) (M := M') (vss := vo ++ [l]) (el := lx) rfl rfl rfl rfl rfl rfl rfl rfl rfl ?_ ?_ ?_ ?_ ?_ ?_
            · exact hO'
            · exact Row.updN2 _ 0 _
            · exact h24
            · exact hone
            · (try simp only [List.length_append, List.length_singleton]); omega
            intro w2 M2 hO2
            repeat (first | refine SeqS.go cok ?_ | (refine ValS.keep ?_; first | (with_reducible refine ValS.kI64 ?_; first | (with_reducible refine ValS.addI64_L ?_ ?_ ; omega))))
            refine ⟨⟨i + 1, true, out ++ [a] ++ [ax], vo ++ [l] ++ [lx], w2, M2⟩, Rel.drop _ [_] ⟨rfl, hlt, hO2, (hL.snoc hA).snoc hac, ?_, rfl, rfl, rfl, rfl, rfl, rfl, rfl, trivial⟩, by show al.length - (i + 1) < al.length - i; omega⟩
            rw [← hout, List.append_assoc, List.append_assoc]; rfl
        · rw [hb] at hbf hout
          by_cases heq : ax.addr = a.addr
          · rw [if_pos heq] at hout
            repeat (first | (refine QuG.keep ?_; first | refine QuG.elE cok _ (by assumption) (by first | assumption | exact ‹∀ G, Rd ⟨_, G⟩ _› _) (by assumption) rfl rfl rfl rfl rfl (by omega) ?_) | refine SeqS.go cok ?_ | refine And.intro (by omega) ?_ | (refine NatS.keep ?_; first | with_reducible refine NatS.nat ?_) | (refine CondS.keep ?_; first | refine CondS.d1 rfl (by omega) ?_))
            intro b7
            repeat (first | (refine QuG.keep ?_; first | refine QuG.subL cok 0 rfl rfl rfl rfl rfl rfl (by assumption) (by assumption) (by first | exact Nat.le_of_ble_eq_true rfl | omega) ?_ | refine QuG.boxS cok 1 rfl rfl rfl rfl rfl rfl (by assumption) (by assumption) ?_) | (refine OpG.keep ?_; first | refine OpG.upS cok 0 rfl rfl rfl rfl rfl (by assumption) (by first | assumption | exact one_bvs _) (by first | exact Nat.le_of_ble_eq_true rfl | omega) ?_) | refine SeqS.go cok ?_ | refine GuardS.yes rfl ?_)
            refine (hbf _).mono ?_
            rintro r _ - ⟨rfl, rfl⟩
            repeat (first | (refine QuG.keep ?_; first | refine QuG.subL cok 0 rfl rfl rfl rfl rfl rfl (by assumption) (by assumption) (by first | exact Nat.le_of_ble_eq_true rfl | omega) ?_ | refine QuG.boxS cok 1 rfl rfl rfl rfl rfl rfl (by assumption) (by assumption) ?_ | refine QuG.neA cok .u8 rfl rfl rfl rfl rfl (by kernel_rfl) rfl rfl (by assumption) (by assumption) ?_) | refine SeqS.go cok ?_ | refine GuardS.yes rfl ?_ | refine CondS.f rfl ?_ | (refine ValS.keep ?_; first | (with_reducible refine ValS.kI64 ?_; first | (with_reducible refine ValS.addI64_L ?_ ?_ ; omega))) | (refine CondS.keep ?_; first | refine CondS.nd0 rfl (by omega) ?_))
            skip
            refine ⟨⟨i + 1, false, out, vo, w, M⟩, Rel.drop _ [_] ⟨rfl, hlt, hO, hL, ?_, rfl, rfl, rfl, rfl, rfl, rfl, rfl, trivial⟩, by show al.length - (i + 1) < al.length - i; omega⟩
            rw [← hout]; rfl
          · rw [if_neg heq] at hout
            repeat (first | (refine QuG.keep ?_; first | refine QuG.elE cok _ (by assumption) (by first | assumption | exact ‹∀ G, Rd ⟨_, G⟩ _› _) (by assumption) rfl rfl rfl rfl rfl (by omega) ?_) | refine SeqS.go cok ?_ | refine And.intro (by omega) ?_ | (refine NatS.keep ?_; first | with_reducible refine NatS.nat ?_) | (refine CondS.keep ?_; first | refine CondS.d1 rfl (by omega) ?_))
            intro b7
            repeat (first | (refine QuG.keep ?_; first | refine QuG.subL cok 0 rfl rfl rfl rfl rfl rfl (by assumption) (by assumption) (by first | exact Nat.le_of_ble_eq_true rfl | omega) ?_ | refine QuG.boxS cok 1 rfl rfl rfl rfl rfl rfl (by assumption) (by assumption) ?_) | (refine OpG.keep ?_; first | refine OpG.upS cok 0 rfl rfl rfl rfl rfl (by assumption) (by first | assumption | exact one_bvs _) (by first | exact Nat.le_of_ble_eq_true rfl | omega) ?_) | refine SeqS.go cok ?_ | refine GuardS.yes rfl ?_)
            refine (hbf _).mono ?_
            rintro r _ - ⟨rfl, rfl⟩
            repeat (first | (refine QuG.keep ?_; first | refine QuG.upL cok 0 rfl rfl rfl rfl rfl rfl (by assumption) (by first | exact Nat.le_of_ble_eq_true rfl | omega) ?_ | refine QuG.subL cok 0 rfl rfl rfl rfl rfl rfl (by assumption) (by assumption) (by first | exact Nat.le_of_ble_eq_true rfl | omega) ?_ | refine QuG.boxS cok 1 rfl rfl rfl rfl rfl rfl (by assumption) (by assumption) ?_ | refine QuG.neA cok .u8 rfl rfl rfl rfl rfl (by kernel_rfl) rfl rfl (by assumption) (by assumption) ?_) | refine And.intro ⟨⟨by assumption, Nat.le_of_ble_eq_true rfl⟩, trivial⟩ ?_ | refine SeqS.go cok ?_ | refine GuardS.yes rfl ?_ | refine CondS.f rfl ?_ | refine And.intro (by dsimp only; omega) ?_ | (refine CondS.keep ?_; first | refine CondS.nd1 rfl (by omega) ?_))
            intro tb
            skip
            refine OpG.keep ?_
            refine OpG.app1 cok (L := _ :: _ :: _ :: G) (M := M) (vss := vo) (el := lx) rfl rfl rfl rfl rfl rfl rfl rfl rfl ?_ ?_ ?_ ?_ ?_ ?_
            · exact hO
            · exact Row.updN2 _ 0 _
            · exact h24
            · exact hone
            · (try simp only [List.length_append, List.length_singleton]); omega
            intro w' M' hO'
            repeat (first | refine SeqS.go cok ?_ | (refine ValS.keep ?_; first | (with_reducible refine ValS.kI64 ?_; first | (with_reducible refine ValS.addI64_L ?_ ?_ ; omega))))
            refine ⟨⟨i + 1, false, out ++ [ax], vo ++ [lx], w', M'⟩, Rel.drop _ [_] ⟨rfl, hlt, hO', hL.snoc hac, ?_, rfl, rfl, rfl, rfl, rfl, rfl, rfl, trivial⟩, by show al.length - (i + 1) < al.length - i; omega⟩
            rw [← hout, List.append_assoc]; rfl
      · by_cases heq : ax.addr = a.addr
        · rw [if_pos heq] at hout
          repeat (first | (refine QuG.keep ?_; first | refine QuG.elE cok _ (by assumption) (by first | assumption | exact ‹∀ G, Rd ⟨_, G⟩ _› _) (by assumption) rfl rfl rfl rfl rfl (by omega) ?_) | refine SeqS.go cok ?_ | refine And.intro (by omega) ?_ | (refine NatS.keep ?_; first | with_reducible refine NatS.nat ?_) | (refine CondS.keep ?_; first | refine CondS.d1 rfl (by omega) ?_))
          intro b7
          repeat (first | (refine QuG.keep ?_; first | refine QuG.subL cok 0 rfl rfl rfl rfl rfl rfl (by assumption) (by assumption) (by first | exact Nat.le_of_ble_eq_true rfl | omega) ?_ | refine QuG.boxS cok 1 rfl rfl rfl rfl rfl rfl (by assumption) (by assumption) ?_ | refine QuG.neA cok .u8 rfl rfl rfl rfl rfl (by kernel_rfl) rfl rfl (by assumption) (by assumption) ?_) | (refine OpG.keep ?_; first | refine OpG.upS cok 0 rfl rfl rfl rfl rfl (by assumption) (by first | assumption | exact one_bvs _) (by first | exact Nat.le_of_ble_eq_true rfl | omega) ?_) | refine SeqS.go cok ?_ | refine GuardS.no rfl ?_ | refine CondS.f rfl ?_ | (refine ValS.keep ?_; first | (with_reducible refine ValS.kI64 ?_; first | (with_reducible refine ValS.addI64_L ?_ ?_ ; omega))) | (refine CondS.keep ?_; first | refine CondS.nd0 rfl (by omega) ?_))
          refine ⟨⟨i + 1, true, out, vo, w, M⟩, Rel.drop _ [_] ⟨rfl, hlt, hO, hL, ?_, rfl, rfl, rfl, rfl, rfl, rfl, rfl, trivial⟩, by show al.length - (i + 1) < al.length - i; omega⟩
          rw [← hout]; rfl
        · rw [if_neg heq] at hout
          repeat (first | (refine QuG.keep ?_; first | refine QuG.elE cok _ (by assumption) (by first | assumption | exact ‹∀ G, Rd ⟨_, G⟩ _› _) (by assumption) rfl rfl rfl rfl rfl (by omega) ?_) | refine SeqS.go cok ?_ | refine And.intro (by omega) ?_ | (refine NatS.keep ?_; first | with_reducible refine NatS.nat ?_) | (refine CondS.keep ?_; first | refine CondS.d1 rfl (by omega) ?_))
          intro b7
          repeat (first | (refine QuG.keep ?_; first | refine QuG.upL cok 0 rfl rfl rfl rfl rfl rfl (by assumption) (by first | exact Nat.le_of_ble_eq_true rfl | omega) ?_ | refine QuG.subL cok 0 rfl rfl rfl rfl rfl rfl (by assumption) (by assumption) (by first | exact Nat.le_of_ble_eq_true rfl | omega) ?_ | refine QuG.boxS cok 1 rfl rfl rfl rfl rfl rfl (by assumption) (by assumption) ?_ | refine QuG.neA cok .u8 rfl rfl rfl rfl rfl (by kernel_rfl) rfl rfl (by assumption) (by assumption) ?_) | (refine OpG.keep ?_; first | refine OpG.upS cok 0 rfl rfl rfl rfl rfl (by assumption) (by first | assumption | exact one_bvs _) (by first | exact Nat.le_of_ble_eq_true rfl | omega) ?_) | refine And.intro ⟨⟨by assumption, Nat.le_of_ble_eq_true rfl⟩, trivial⟩ ?_ | refine SeqS.go cok ?_ | refine GuardS.no rfl ?_ | refine CondS.f rfl ?_ | refine And.intro (by dsimp only; omega) ?_ | (refine CondS.keep ?_; first | refine CondS.nd1 rfl (by omega) ?_))
          intro tb
          skip
          refine OpG.keep ?_
          refine OpG.app1 cok (L := _ :: _ :: _ :: G) (M := M) (vss := vo) (el := lx) rfl rfl rfl rfl rfl rfl rfl rfl rfl ?_ ?_ ?_ ?_ ?_ ?_
          · exact hO
          · exact Row.updN2 _ 0 _
          · exact h24
          · exact hone
          · (try simp only [List.length_append, List.length_singleton]); omega
          intro w' M' hO'
          repeat (first | refine SeqS.go cok ?_ | (refine ValS.keep ?_; first | (with_reducible refine ValS.kI64 ?_; first | (with_reducible refine ValS.addI64_L ?_ ?_ ; omega))))
          refine ⟨⟨i + 1, true, out ++ [ax], vo ++ [lx], w', M'⟩, Rel.drop _ [_] ⟨rfl, hlt, hO', hL.snoc hac, ?_, rfl, rfl, rfl, rfl, rfl, rfl, rfl, trivial⟩, by show al.length - (i + 1) < al.length - i; omega⟩
          rw [← hout, List.append_assoc]; rfl
    · rw [List.drop_of_length_le (by omega)] at hout
      repeat (first | refine SeqS.go cok ?_ | (refine CondS.keep ?_; first | refine CondS.d0 rfl (by omega) ?_))
      exact ⟨laid, out, vo, w, M, rfl, hO, hL, hout, rfl, rfl, rfl, rfl, trivial⟩
end Go.Proofs.YgvafwGreat
