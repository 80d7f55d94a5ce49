import Derived.Test.YgvafwGreatY8
set_option maxRecDepth 100000
set_option maxHeartbeats 4000000
set_option linter.unusedVariables false
set_option linter.unusedSimpArgs false
-- v2
-- plus: (refine QuG.keep ?_; fail "none")
-- plus: (refine OpG.keep ?_; fail "none")
-- plus: refine And.intro ⟨⟨by assumption, Nat.le_of_ble_eq_true rfl⟩, trivial⟩ ?_
namespace Go.Proofs.YgvafwGreat
open Go.HL Go.Proofs

theorem _root_.Go.HL.OpG.app1 {C : Cfg} {e : Env} {ty : TypeId} (hC : C.Ok) {s x : Operand} {ts tx : TypeId} {i i2 j : TI} {K : Post} {I : Ent → Prop} {v : Value} {vss : List (List Value)} {M L : List Ent} {tb tz : Nat} {Tt : TypeId} {tc : Nat → Value} {el : List Value}
    (hD : C.D ts = some i) (hk : i.kind = 4) (hj : C.D i.elem = some j) (hb : (Nat.blt 0 j.size && Nat.ble j.bytes 1048576) = true) (hD2 : C.D tx = some i2) (hk2 : i2.kind = 4)
    (htz : tz = j.size) (hs : ev e s = v) (hx : ev e x = sl tb 0 1 1) (ho : OwnL i.elem j.size v vss M) (hr : Row tc 0 el) (hel : el.length = j.size) (h1 : ∀ u ∈ el, one u = true) (hlen : vss.length < 2 ^ 20)
    (h : ∀ v' M', OwnL i.elem j.size v' (vss ++ [el]) M' → K v' ⟨I, L ++ M'⟩) : OpG C.P (.call ⟨.builtin .append, #[s, x], #[ts, tx]⟩) ty e ⟨I, ⟨tb, tz, Tt, tc⟩ :: (L ++ M)⟩ K := by
  subst htz
  simp only [Bool.and_eq_true, Nat.blt_eq, Nat.ble_eq] at hb
  exact OpG.appendOwn hC ho hD hk hj hb.1 hD2 hk2 hs hx hr hel h1 hlen hb.2 h
theorem insA_len (a : List Nat) : ∀ l, (insA a l).length = l.length + 1
  | [] => rfl
  | x :: l => by
    unfold insA; split
    · rfl
    · rw [List.length_cons, insA_len a l, List.length_cons]
theorem drop_cons2 {l : List (List Nat)} {i : Nat} (h : i < l.length) : l.drop i = l.getD i [] :: l.drop (i + 1) := by
  rw [List.drop_eq_getElem_cons h, List.getD_eq_getElem?_getD, List.getElem?_eq_getElem h]; rfl
/-- yp.withAddr -/
theorem yWithAddr {I : Ent → Prop} {G : List Ent} {v : Value} {al : List (List Nat)} {a : List Nat} (hN : RowI I 20 v (al.map bvs)) (ha : (bvs a).length = 20) (hla : a.length = 20) (h8 : ∀ d ∈ a, d < 256) (hall : ∀ x ∈ al, x.length = 20) (h8all : ∀ x ∈ al, ∀ d ∈ x, d < 256) (hlen : al.length < 2 ^ 19) :
    CallG Hvaf.prog 138 #[v, bytesV a] ⟨I, G⟩ fun r S' => S'.G = G ∧ RowI S'.I 20 r ((withA a al).map bvs) := by
  have hls := fun (G : List Ent) => yListed (G := G) hN ha hla hall (by omega)
  unfold withA
  by_cases hm : a ∈ al
  · rw [if_pos hm]
    rw [decide_eq_true hm] at hls
    refine CallG.start (C := mkC Hvaf.prog) cok (args := [v, bytesV a]) Hvaf.func138 rfl Hvaf.ntmps138 (by simp) (by kernel_rfl) ?_
    intro b3
    repeat (first | (refine QuG.keep ?_; first | refine QuG.boxL cok 0 rfl rfl rfl rfl rfl (by assumption) ?_) | refine SeqS.go cok ?_)
    refine (hls _).mono ?_
    rintro r _ - ⟨rfl, rfl⟩
    repeat (first | refine SeqS.go cok ?_ | refine CondS.t rfl ?_)
    exact Fin.drop G [_] ⟨rfl, hN⟩
  · rw [if_neg hm]
    rw [decide_eq_false hm] at hls
    obtain ⟨ad, cap, rfl⟩ := hN.form
    have hml : (al.map bvs).length = al.length := by simp
    refine CallG.start (C := mkC Hvaf.prog) cok (args := [.slice ad (al.map bvs).length cap, bytesV a]) Hvaf.func138 rfl Hvaf.ntmps138 (by simp) (by kernel_rfl) ?_
    intro b3
    repeat (first | (refine QuG.keep ?_; first | refine QuG.boxL cok 0 rfl rfl rfl rfl rfl (by assumption) ?_) | refine SeqS.go cok ?_)
    refine (hls _).mono ?_
    rintro r _ - ⟨rfl, rfl⟩
    repeat (first | refine SeqS.go cok ?_ | refine CondS.f rfl ?_)
    refine W.loopF cok (by kernel_rfl) 0 (fun (p : Nat × Bool × List (List Nat) × Value × List Ent) e' S' => S' = ⟨I, ⟨b3, (bvs a).length, 31, vc (bytesV a)⟩ :: (G ++ p.2.2.2.2)⟩ ∧ p.1 ≤ al.length ∧ OwnL 31 20 p.2.2.2.1 (p.2.2.1.map bvs) p.2.2.2.2 ∧ p.2.2.1 ++ (if p.2.1 then al.drop p.1 else insA a (al.drop p.1)) = insA a al ∧
        slots [(3, ptr b3 0), (5, p.2.2.2.1), (6, .bool p.2.1), (13, .slice ad (al.map bvs).length cap), (14, .int .i64 ((al.map bvs).length : Nat)), (15, .int .i64 (p.1 : Nat))] e') (fun p => al.length - p.1) (0, false, [], .slice none 0 0, [])
      (Rel.perm (⟨b3, (bvs a).length, 31, vc (bytesV a)⟩ :: (G ++ [])) [] (by rw [List.append_nil, List.append_nil]; exact List.Perm.refl _) ⟨rfl, Nat.zero_le _, OwnL.nil _ _, rfl, rfl, rfl, rfl, rfl, rfl, rfl, trivial⟩)
      (fun e' S' => ∃ laid out w M, S' = ⟨I, ⟨b3, (bvs a).length, 31, vc (bytesV a)⟩ :: (G ++ M)⟩ ∧ OwnL 31 20 w (out.map bvs) M ∧ out ++ (if laid then [] else [a]) = insA a al ∧ slots [(3, ptr b3 0), (5, w), (6, .bool laid)] e') ?_ ?_
    · rintro e' S2 - ⟨laid, out, w, M, rfl, hO, hout, hsl⟩
      refine SeqS.slots cok _ hsl fun e => ?_
      have hol := congrArg List.length hout
      rw [insA_len, List.length_append] at hol
      cases laid
      · repeat (first | (refine QuG.keep ?_; first | refine QuG.boxL cok 0 rfl rfl rfl rfl rfl (by assumption) ?_) | refine And.intro ⟨⟨by assumption, Nat.le_of_ble_eq_true rfl⟩, trivial⟩ ?_ | refine SeqS.go cok ?_ | refine CondS.t rfl ?_ | refine And.intro (by dsimp only; omega) ?_)
        intro tb
        skip
        refine OpG.keep ?_
        refine OpG.app1 cok (L := _ :: G) (M := M) (vss := out.map bvs) (el := bvs a) rfl rfl rfl rfl rfl rfl rfl rfl rfl ?_ ?_ ?_ ?_ ?_ ?_
        · exact hO
        · exact Row.updN2 _ 0 _
        · exact ha
        · exact one_bvs a
        · simp; omega
        intro w' M' hO'
        repeat (first | refine SeqS.go cok ?_)
        refine Fin.own [_] G M' ⟨rfl, ?_⟩
        rw [← hout, List.map_append]
        exact hO'.row (fun x hx => .inr hx)
      · repeat (first | refine SeqS.go cok ?_ | refine CondS.f rfl ?_)
        refine Fin.own [_] G M ⟨rfl, ?_⟩
        rw [← hout, if_pos rfl, List.append_nil]
        exact hO.row (fun x hx => .inr hx)
    · rintro ⟨i, laid, out, w, M⟩ e' S2 - ⟨hS, hi, hO, hout, hsl⟩
      dsimp only at hS hi hO hout hsl
      subst hS
      refine W.slots _ hsl fun e => ?_
      have hol := congrArg List.length hout
      rw [insA_len, List.length_append] at hol
      by_cases hlt : i < al.length
      · obtain ⟨x, o, rfl, hx, hE⟩ := hN.some (by omega)
        have hel : (al.map bvs).getD i [] = bvs (al.getD i []) := by simp [List.getD_eq_getElem?_getD, List.getElem?_eq_getElem hlt]
        have hrd : ∀ G, Rd ⟨I, G⟩ x := fun _ => .inl hx
        have hmem : al.getD i [] ∈ al := by rw [List.getD_eq_getElem?_getD, List.getElem?_eq_getElem hlt]; exact List.getElem_mem hlt
        have hl20 := hall _ hmem
        have hb20 : (bvs (al.getD i [])).length = 20 := by rw [bvs_len]; exact hl20
        have hbf := fun (S : St) => yBefore (S := S) hla hl20 h8 (h8all _ hmem)
        rw [drop_cons2 hlt] at hout
        cases laid
        · rw [if_neg (by decide), insA] at hout
          cases hb : ltL a (al.getD i [])
          · rw [hb, if_neg (by decide)] at hout
            rw [hb] at hbf
            repeat (first | (refine QuG.keep ?_; first | refine QuG.elE cok _ (by assumption) (by first | assumption | exact ‹∀ G, Rd ⟨_, G⟩ _› _) (by assumption) rfl rfl rfl rfl rfl (by omega) ?_) | refine SeqS.go cok ?_ | refine And.intro (by omega) ?_ | (refine NatS.keep ?_; first | with_reducible refine NatS.nat ?_) | (refine CondS.keep ?_; first | refine CondS.d1 rfl (by omega) ?_))
            intro b8
            repeat (first | (refine QuG.keep ?_; first | refine QuG.upL cok 0 rfl rfl rfl rfl rfl rfl (by assumption) (by first | exact Nat.le_of_ble_eq_true rfl | omega) ?_ | refine QuG.boxL cok 1 rfl rfl rfl rfl rfl (by assumption) ?_) | (refine OpG.keep ?_; first | refine OpG.upS cok 0 rfl rfl rfl rfl rfl (by assumption) (one_bvs _) (by first | exact Nat.le_of_ble_eq_true rfl | omega) ?_) | refine SeqS.go cok ?_ | refine GuardS.yes rfl ?_)
            refine (hbf _).mono ?_
            rintro r _ - ⟨rfl, rfl⟩
            repeat (first | (refine QuG.keep ?_; first | refine QuG.upL cok 0 rfl rfl rfl rfl rfl rfl (by assumption) (by first | exact Nat.le_of_ble_eq_true rfl | omega) ?_) | refine And.intro ⟨⟨by assumption, Nat.le_of_ble_eq_true rfl⟩, trivial⟩ ?_ | refine SeqS.go cok ?_ | refine CondS.f rfl ?_ | refine And.intro (by dsimp only; omega) ?_)
            intro tb
            skip
            refine OpG.keep ?_
            refine OpG.app1 cok (L := _ :: _ :: G) (M := M) (vss := out.map bvs) (el := bvs (al.getD i [])) rfl rfl rfl rfl rfl rfl rfl rfl rfl ?_ ?_ ?_ ?_ ?_ ?_
            · exact hO
            · exact Row.updN2 _ 0 _
            · exact hb20
            · exact one_bvs _
            · simp; omega
            intro w' M' hO'
            repeat (first | refine SeqS.go cok ?_ | (refine ValS.keep ?_; first | (with_reducible refine ValS.kI64 ?_; first | (with_reducible refine ValS.addI64_L ?_ ?_ ; omega))))
            refine ⟨⟨i + 1, false, out ++ [al.getD i []], w', M'⟩, Rel.drop _ [_] ⟨rfl, hlt, by rw [List.map_append]; exact hO', ?_, rfl, rfl, rfl, rfl, rfl, rfl, trivial⟩, by show al.length - (i + 1) < al.length - i; omega⟩
            rw [← hout, if_neg (fun h => Bool.noConfusion h), List.append_assoc]; rfl
          · rw [hb, if_pos rfl] at hout
            rw [hb] at hbf
            repeat (first | (refine QuG.keep ?_; first | refine QuG.elE cok _ (by assumption) (by first | assumption | exact ‹∀ G, Rd ⟨_, G⟩ _› _) (by assumption) rfl rfl rfl rfl rfl (by omega) ?_) | refine SeqS.go cok ?_ | refine And.intro (by omega) ?_ | (refine NatS.keep ?_; first | with_reducible refine NatS.nat ?_) | (refine CondS.keep ?_; first | refine CondS.d1 rfl (by omega) ?_))
            intro b8
            repeat (first | (refine QuG.keep ?_; first | refine QuG.upL cok 0 rfl rfl rfl rfl rfl rfl (by assumption) (by first | exact Nat.le_of_ble_eq_true rfl | omega) ?_ | refine QuG.boxL cok 1 rfl rfl rfl rfl rfl (by assumption) ?_) | (refine OpG.keep ?_; first | refine OpG.upS cok 0 rfl rfl rfl rfl rfl (by assumption) (one_bvs _) (by first | exact Nat.le_of_ble_eq_true rfl | omega) ?_) | refine SeqS.go cok ?_ | refine GuardS.yes rfl ?_)
            refine (hbf _).mono ?_
            rintro r _ - ⟨rfl, rfl⟩
            repeat (first | (refine QuG.keep ?_; first | refine QuG.boxL cok 1 rfl rfl rfl rfl rfl (by assumption) ?_) | refine And.intro ⟨⟨by assumption, Nat.le_of_ble_eq_true rfl⟩, trivial⟩ ?_ | refine SeqS.go cok ?_ | refine CondS.t rfl ?_ | refine And.intro (by dsimp only; omega) ?_)
            intro tb
            skip
            refine OpG.keep ?_
            refine OpG.app1 cok (L := _ :: _ :: G) (M := M) (vss := out.map bvs) (el := bvs a) rfl rfl rfl rfl rfl rfl rfl rfl rfl ?_ ?_ ?_ ?_ ?_ ?_
            · exact hO
            · exact Row.updN2 _ 0 _
            · exact ha
            · exact one_bvs _
            · simp; omega
            intro w' M' hO'
            repeat (first | (refine QuG.keep ?_; first | refine QuG.upL cok 0 rfl rfl rfl rfl rfl rfl (by assumption) (by first | exact Nat.le_of_ble_eq_true rfl | omega) ?_) | refine And.intro ⟨⟨by assumption, Nat.le_of_ble_eq_true rfl⟩, trivial⟩ ?_ | refine SeqS.go cok ?_ | refine And.intro (by dsimp only; omega) ?_)
            intro tb2
            skip
            refine OpG.keep ?_
            refine OpG.app1 cok (L := _ :: _ :: G) (M := M') (vss := out.map bvs ++ [bvs a]) (el := bvs (al.getD i [])) rfl rfl rfl rfl rfl rfl rfl rfl rfl ?_ ?_ ?_ ?_ ?_ ?_
            · exact hO'
            · exact Row.updN2 _ 0 _
            · exact hb20
            · exact one_bvs _
            · simp; omega
            intro w2 M2 hO2
            repeat (first | refine SeqS.go cok ?_ | (refine ValS.keep ?_; first | (with_reducible refine ValS.kI64 ?_; first | (with_reducible refine ValS.addI64_L ?_ ?_ ; omega))))
            refine ⟨⟨i + 1, true, out ++ [a] ++ [al.getD i []], w2, M2⟩, Rel.drop _ [_] ⟨rfl, hlt, by rw [List.map_append, List.map_append]; exact hO2, ?_, rfl, rfl, rfl, rfl, rfl, rfl, trivial⟩, by show al.length - (i + 1) < al.length - i; omega⟩
            rw [← hout, if_pos rfl, List.append_assoc, List.append_assoc]; rfl
        · repeat (first | (refine QuG.keep ?_; first | refine QuG.elE cok _ (by assumption) (by first | assumption | exact ‹∀ G, Rd ⟨_, G⟩ _› _) (by assumption) rfl rfl rfl rfl rfl (by omega) ?_) | refine SeqS.go cok ?_ | refine And.intro (by omega) ?_ | (refine NatS.keep ?_; first | with_reducible refine NatS.nat ?_) | (refine CondS.keep ?_; first | refine CondS.d1 rfl (by omega) ?_))
          intro b8
          repeat (first | (refine QuG.keep ?_; first | refine QuG.upL cok 0 rfl rfl rfl rfl rfl rfl (by assumption) (by first | exact Nat.le_of_ble_eq_true rfl | omega) ?_) | (refine OpG.keep ?_; first | refine OpG.upS cok 0 rfl rfl rfl rfl rfl (by assumption) (one_bvs _) (by first | exact Nat.le_of_ble_eq_true rfl | omega) ?_) | refine And.intro ⟨⟨by assumption, Nat.le_of_ble_eq_true rfl⟩, trivial⟩ ?_ | refine SeqS.go cok ?_ | refine GuardS.no rfl ?_ | refine CondS.f rfl ?_ | refine And.intro (by dsimp only; omega) ?_)
          intro tb
          skip
          refine OpG.keep ?_
          refine OpG.app1 cok (L := _ :: _ :: G) (M := M) (vss := out.map bvs) (el := bvs (al.getD i [])) rfl rfl rfl rfl rfl rfl rfl rfl rfl ?_ ?_ ?_ ?_ ?_ ?_
          · exact hO
          · exact Row.updN2 _ 0 _
          · exact hb20
          · exact one_bvs _
          · simp; omega
          intro w' M' hO'
          repeat (first | refine SeqS.go cok ?_ | (refine ValS.keep ?_; first | (with_reducible refine ValS.kI64 ?_; first | (with_reducible refine ValS.addI64_L ?_ ?_ ; omega))))
          refine ⟨⟨i + 1, true, out ++ [al.getD i []], w', M'⟩, Rel.drop _ [_] ⟨rfl, hlt, by rw [List.map_append]; exact hO', ?_, rfl, rfl, rfl, rfl, rfl, rfl, trivial⟩, by show al.length - (i + 1) < al.length - i; omega⟩
          rw [← hout, if_pos rfl, if_pos rfl, List.append_assoc]; rfl
      · rw [List.drop_of_length_le (by omega)] at hout
        repeat (first | refine SeqS.go cok ?_ | (refine CondS.keep ?_; first | refine CondS.d0 rfl (by omega) ?_))
        exact ⟨laid, out, w, M, rfl, hO, hout, rfl, rfl, rfl, trivial⟩
end Go.Proofs.YgvafwGreat
