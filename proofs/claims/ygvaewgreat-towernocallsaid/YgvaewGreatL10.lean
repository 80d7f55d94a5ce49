import Derived.Test.YgvaewGreatL9
import Derived.Test.YgvaewGreatL0
set_option maxRecDepth 100000
set_option maxHeartbeats 4000000
set_option linter.unusedVariables false
set_option linter.unusedSimpArgs false
-- v2
-- v4
-- v5
-- v6
-- v7
-- plus: (refine QuG.keep ?_; refine QuG.ow cok 0 rfl how2 rfl rfl rfl rfl rfl rfl (by omega) (by show _ ≤ ds.length; omega) ?_)
-- plus: (refine OpG.keep ?_; refine OpG.ow cok 0 rfl how2 rfl rfl rfl rfl rfl rfl rfl (by omega) (by show _ ≤ ds.length; omega) ?_)
namespace Go.Proofs.YgvaewGreat
open Go.HL Go.Proofs

/-- copy of nothing, from anywhere. -/
theorem _root_.Go.HL.OpG.copyZ {C : Cfg} {ty : TypeId} {e : Env} {S : St} {K : Post} (hC : C.Ok) {ad sr : Operand} {td ts : TypeId} {i j : TI} {a a' : Addr} {dl dc sc : Nat} (hD : C.D td = some i) (hk : i.kind = 4) (hj : C.D i.elem = some j)
    (hd : ev e ad = .slice (some a) dl dc) (hs : ev e sr = .slice (some a') 0 sc) (h : K (.int .i64 0) S) : OpG C.P (.call ⟨.builtin .copy, #[ad, sr], #[td, ts]⟩) ty e S K := by
  refine ⟨fun F w hw => ?_⟩
  have hok := (hC.tab td i hD).desc
  unfold descOk at hok; rw [hk] at hok; simp only at hok
  have hsz := (hC.tab i.elem j hj).sizeOf w
  have hm : Nat.min 0 dl = 0 := Nat.zero_min _
  simp only [execOp, resolve, invoke, builtin, Builtin.copy_, List.map_toArray, List.map_cons, List.map_nil, List.getElem?_toArray, List.getElem?_cons_zero, List.getElem?_cons_succ, hd, hs, Builtin.lenOf, Builtin.firstCells, hm, Nat.zero_mul, loadCells, loadCellsFrom, run_underlying hok, Sem.run_bind, Sem.run_pure, Result.andThen, hsz, storeCells, OpUpon, goInt]
  exact ⟨_, hw, .refl _, h⟩
/-- law.copyBytes of an empty slice -/
theorem lCopyZ {I : Ent → Prop} {G : List Ent} {a : Addr} :
    CallG Hvae.prog 17 #[.slice (some a) 0 0] ⟨I, G⟩ fun r S' => ∃ b c, r = sl b 0 0 0 ∧ S' = ⟨I, ⟨b, 0, 5, c⟩ :: G⟩ := by
  refine CallG.start (C := mkC Hvae.prog) cok (args := [.slice (some a) 0 0]) Hvae.func17 rfl Hvae.ntmps17 (by simp) (by kernel_rfl) ?_
  repeat (first | refine SeqS.go cok ?_ | refine CondS.f rfl ?_ | refine And.intro ⟨by omega, by omega⟩ ?_ | (refine NatS.keep ?_; first | with_reducible refine NatS.nat ?_))
  intro b
  repeat (first | refine SeqS.go cok ?_)
  refine OpG.keep ?_
  refine OpG.copyZ cok rfl rfl rfl rfl rfl ?_
  repeat (first | refine SeqS.go cok ?_)
  exact Fin.same ⟨b, _, rfl, rfl⟩
theorem _root_.Go.HL.BytE.up {I J : Ent → Prop} {v : Value} {ds : List Nat} (h : BytE ⟨I, []⟩ v ds) (hs : HL.Sub I J) : BytE ⟨J, []⟩ v ds := h.elim (fun h => .inl (h.mono hs (by simp))) .inr
theorem lCopyOE {I : Ent → Prop} {G : List Ent} {v : Value} {ds : List Nat} (hb : BytE ⟨I, []⟩ v ds) :
    CallG Hvae.prog 17 #[v] ⟨I, G⟩ fun r S' => (ds = [] ∧ r = .slice none 0 0 ∧ S' = ⟨I, G⟩) ∨ ∃ b c, r = sl b 0 ds.length ds.length ∧ S' = ⟨I, ⟨b, ds.length, 5, c⟩ :: G⟩ ∧ Ow c ds := by
  rcases hb with hb | ⟨rfl, a, rfl⟩
  · exact lCopyO (Byt.ext hb)
  · refine lCopyZ.mono ?_
    rintro r _ - ⟨b, c, rfl, rfl⟩
    exact .inr ⟨b, c, rfl, rfl, ⟨fun i hi => absurd hi (Nat.not_lt_zero _)⟩⟩
theorem lCopyBE {I : Ent → Prop} {G : List Ent} {v : Value} {ds : List Nat} (hb : BytE ⟨I, []⟩ v ds) :
    CallG Hvae.prog 17 #[v] ⟨I, G⟩ fun r S' => S'.G = G ∧ ∃ a c, r = .slice a ds.length c ∧ Byt ⟨S'.I, []⟩ (.slice a ds.length c) ds := by
  rcases hb with hb | ⟨rfl, a, rfl⟩
  · refine (lCopy (Byt.ext hb)).mono ?_
    rintro r S' - ⟨h1, h2⟩
    obtain ⟨a, c, rfl, _⟩ := h2.form
    exact ⟨h1, a, c, rfl, h2⟩
  · refine CallG.post (lCopyZ.mono ?_)
    rintro r _ - ⟨b, c, rfl, rfl⟩
    refine Rel.frz [_] G ⟨rfl, _, _, rfl, ?_⟩
    exact Byt.mk0 (x := ⟨b, 0, _, c⟩) (L := []) (.inr List.mem_cons_self) rfl (by decide) (by simp) (Nat.le_refl _) fun i hi => absurd hi (Nat.not_lt_zero _)
/-- law.callOf -/
theorem lCallOfE {I : Ent → Prop} {G : List Ent} {v : Value} {ds : List Nat} {gas : Nat} (hg : gas < 2 ^ 64) (hb : BytE ⟨I, []⟩ v ds) :
    CallG Hvae.prog 8 #[v, .int .u64 (gas : Nat)] ⟨I, G⟩ fun r S' => S'.G = G ∧ ∃ da dc, r = txV (.slice da ds.length dc) gas ∧ Byt ⟨S'.I, []⟩ (.slice da ds.length dc) ds := by
  have hcp := fun (G : List Ent) => lCopyBE (G := G) hb
  obtain ⟨h8, h47, a, cap, rfl⟩ := hb.b
  refine CallG.start (C := mkC Hvae.prog) cok (args := [.slice a ds.length cap, .int .u64 (gas : Nat)]) Hvae.func8 rfl Hvae.ntmps8 (by simp) (by kernel_rfl) ?_
  intro b4
  repeat (first | refine SeqS.go cok ?_)
  refine lToA1.mono ?_
  rintro r _ - ⟨rfl, rfl⟩
  intro b5
  repeat (first | refine SeqS.go cok ?_ | (refine OpG.keep ?_; first | refine OpG.sL cok 0 rfl rfl rfl rfl rfl rfl rfl (by first | exact Nat.le_of_ble_eq_true rfl | omega | (dsimp only; omega) | (simp only [addS_eq, mulS_eq]; omega)) ?_))
  refine (hcp _).mono ?_
  rintro r ⟨J, _⟩ hs ⟨rfl, a2, cap2, rfl, hr⟩
  repeat (first | (refine OpG.keep ?_; first | refine OpG.upF cok 0 rfl rfl rfl rfl rfl rfl (by first | exact Nat.le_of_ble_eq_true rfl | omega) (by first | exact Nat.le_of_ble_eq_true rfl | omega) rfl (by first | rfl | assumption) ?_) | refine SeqS.go cok ?_ | (refine QuG.keep ?_; first | refine QuG.lN cok 0 rfl rfl rfl rfl rfl (by first | exact Nat.le_of_ble_eq_true rfl | omega | (dsimp only; omega) | (simp only [addS_eq, mulS_eq]; omega)) ?_) | (refine LdG.keep ?_; first | refine LdG.lN cok 1 rfl rfl rfl rfl rfl (by first | exact Nat.le_of_ble_eq_true rfl | omega | (dsimp only; omega) | (simp only [addS_eq, mulS_eq]; omega)) ?_) | (refine OpG.keep ?_; first | refine OpG.sL cok 1 rfl rfl rfl rfl rfl rfl rfl (by first | exact Nat.le_of_ble_eq_true rfl | omega | (dsimp only; omega) | (simp only [addS_eq, mulS_eq]; omega)) ?_))
  exact Fin.drop G [_, _] ⟨rfl, _, _, rfl, hr⟩
/-- law.unmade -/
theorem lUnmadeE {I : Ent → Prop} {G : List Ent} {v cv : Value} {ds : List Nat} {vss : List (List Value)} (hR : RowI I 1 v vss) (hv1 : vss.length = 1) (hv0 : vss.getD 0 [] = [cv]) (hcf : ∃ ca cn, cv = .slice ca ds.length cn) (h8 : ∀ d ∈ ds, d < 256) (hl47 : ds.length < 2 ^ 47) (hcp : ∀ (G : List Ent), CallG Hvae.prog 17 #[cv] ⟨I, G⟩ fun r S' => (ds = [] ∧ r = .slice none 0 0 ∧ S' = ⟨I, G⟩) ∨ ∃ b c, r = sl b 0 ds.length ds.length ∧ S' = ⟨I, ⟨b, ds.length, 5, c⟩ :: G⟩ ∧ Ow c ds) :
    CallG Hvae.prog 6 #[v, .bool true] ⟨I, G⟩ fun r S' => S'.G = G ∧ ∃ cv', RowI S'.I 1 r [[cv']] ∧ Byt ⟨S'.I, []⟩ cv' (ds.map unmN) := by
  obtain ⟨a1, cap, rfl⟩ := hR.form
  obtain ⟨x, o, rfl, hx, hE⟩ := hR.some (by omega)
  obtain ⟨ca, cn, rfl⟩ := hcf
  have hrd : ∀ G, Rd ⟨I, G⟩ x := fun _ => .inl hx
  refine CallG.start (C := mkC Hvae.prog) cok (args := [HL.sl x.b o vss.length cap, .bool true]) Hvae.func6 rfl Hvae.ntmps6 (by simp) (by kernel_rfl) ?_
  repeat (first | refine SeqS.go cok ?_)
  refine W.rounds cok (by kernel_rfl) 2 ?_
  repeat (first | (refine QuG.keep ?_; first | refine QuG.el1E cok (by assumption) (by first | assumption | exact ‹∀ G, Rd ⟨_, G⟩ _› _) (by assumption) rfl rfl rfl rfl (by omega) ?_) | refine SeqS.go cok ?_ | refine CondS.f rfl ?_ | refine And.intro (by omega) ?_ | (refine NatS.keep ?_; first | with_reducible refine NatS.lit ?_) | (refine CondS.keep ?_; first | refine CondS.d1 rfl (by omega) ?_))
  refine (hcp _).mono ?_
  rintro r _ - (⟨e1, rfl, rfl⟩ | ⟨b, c, rfl, rfl, how⟩)
  · repeat (first | refine SeqS.go cok ?_)
    refine W.rounds cok (by kernel_rfl) 1 ?_
    repeat (first | refine SeqS.go cok ?_ | refine CondS.f rfl ?_ | refine And.intro (fillOk_of (Eq.refl true)) ?_ | refine And.intro (by dsimp only; omega) ?_)
    intro tb
    refine OpG.keep ?_
    refine OpG.appFz cok (L := G) (tz := 1) (vss := []) (n := 0) (el := [.slice none 0 0]) rfl rfl rfl rfl rfl rfl rfl rfl rfl (RowI.nil _ _) (Nat.le_refl _) (by decide) ?_ rfl (by decide) ?_ ?_
    · refine ⟨fun p hp => ?_⟩
      have hp0 : p = 0 := by simpa using hp
      subst hp0
      rfl
    · exact Nat.le_of_ble_eq_true rfl
    intro sv J4 hs4 hsv1 hrow
    repeat (first | refine SeqS.go cok ?_ | (refine ValS.keep ?_; first | (with_reducible refine ValS.kI64 ?_; first | (with_reducible refine ValS.addI64_LL ?_ ?_ ; omega))) | (refine CondS.keep ?_; first | refine CondS.d0 rfl (by omega) ?_))
    subst e1
    exact Fin.same ⟨rfl, _, hrow, Byt.nil _⟩
  · repeat (first | refine SeqS.go cok ?_)
    refine W.loopE cok (by kernel_rfl) 2 (fun (k : Nat) e' S' => ∃ c, S' = ⟨I, ⟨b, ds.length, 5, c⟩ :: G⟩ ∧ Ow c (unmP ds k) ∧ k ≤ ds.length ∧ slots [(1, .bool true), (5, .slice none 0 0), (8, HL.sl b 0 ds.length ds.length), (12, .int .i64 (vss.length : Nat)), (13, .int .i64 (0 : Nat)), (22, HL.sl b 0 ds.length ds.length), (23, .int .i64 (ds.length : Nat)), (24, .int .i64 (k : Nat))] e') (fun k => ds.length - k) 0
      ⟨c, rfl, how, Nat.zero_le _, rfl, rfl, rfl, rfl, rfl, rfl, rfl, rfl, trivial⟩ (fun e' S' => ∃ c, S' = ⟨I, ⟨b, ds.length, 5, c⟩ :: G⟩ ∧ Ow c (ds.map unmN) ∧ slots [(5, .slice none 0 0), (8, HL.sl b 0 ds.length ds.length), (12, .int .i64 (vss.length : Nat)), (13, .int .i64 (0 : Nat))] e') ?_ ?_
    · rintro e' S2 - ⟨c2, rfl, how2, hsl⟩
      refine SeqS.slots cok _ hsl fun e => ?_
      repeat (first | refine And.intro (fillOk_of (Eq.refl true)) ?_ | refine And.intro (by dsimp only; omega) ?_)
      intro tb
      refine OpG.keep ?_
      refine OpG.appFz cok (L := ⟨b, ds.length, 5, c2⟩ :: G) (tz := 1) (vss := []) (n := 0) (el := [HL.sl b 0 ds.length ds.length]) rfl rfl rfl rfl rfl rfl rfl rfl rfl (RowI.nil _ _) (Nat.le_refl _) (by decide) ?_ rfl (by decide) ?_ ?_
      · refine ⟨fun p hp => ?_⟩
        have hp0 : p = 0 := by simpa using hp
        subst hp0
        rfl
      · exact Nat.le_of_ble_eq_true rfl
      intro sv J4 hs4 hsv1 hrow
      repeat (first | refine SeqS.go cok ?_ | (refine ValS.keep ?_; first | (with_reducible refine ValS.kI64 ?_; first | (with_reducible refine ValS.addI64_L ?_ ?_ ; omega))) | (refine CondS.keep ?_; first | refine CondS.d0 rfl (by omega) ?_))
      refine Fin.frz [_] G ⟨rfl, _, hrow.up sub_frz, ?_⟩
      have hml : (ds.map unmN).length = ds.length := by simp
      exact Byt.mk0 (x := ⟨b, ds.length, _, c2⟩) (.inr List.mem_cons_self) hml (by omega) (fun d hd => by
        obtain ⟨y, hy, rfl⟩ := List.mem_map.1 hd
        exact unmN_lt (h8 y hy)) (Nat.le_refl _) (fun i hi => how2.get i (by omega))
    · rintro k e' S2 - ⟨c2, rfl, how2, hk, hsl⟩
      refine W.slots _ hsl fun e => ?_
      have hpl := unmP_len ds k hk
      by_cases hlt : k < ds.length
      · obtain ⟨d, hd⟩ : ∃ d, ds.getD k 0 = d := ⟨_, rfl⟩
        have hget : (unmP ds k).getD k 0 = d := by rw [unmP_get hlt]; exact hd
        have hd8 : d < 256 := by rw [← hd, List.getD_eq_getElem?_getD, List.getElem?_eq_getElem hlt]; exact h8 _ (List.getElem_mem hlt)
        have hfg : famN ((unmP ds k).getD k 0) = famN d := by rw [hget]
        by_cases h1 : d = 240
        · have hu : unmN d = 254 := by unfold unmN; rw [if_pos (.inl h1)]
          repeat (first | (refine QuG.keep ?_; refine QuG.ow cok 0 rfl how2 rfl rfl rfl rfl rfl rfl (by omega) (by show _ ≤ ds.length; omega) ?_) | (refine OpG.keep ?_; refine OpG.ow cok 0 rfl how2 rfl rfl rfl rfl rfl rfl rfl (by omega) (by show _ ≤ ds.length; omega) ?_) | refine SeqS.go cok ?_ | refine GuardS.no rfl ?_ | refine GuardS.U rfl ?_ | refine CondS.t rfl ?_ | refine And.intro (by omega) ?_ | (refine NatS.keep ?_; first | with_reducible refine NatS.nat ?_) | (refine GuardS.keep ?_; first | refine GuardS.F1 rfl (by omega) ?_) | (refine CondS.keep ?_; first | refine CondS.d1 rfl (by omega) ?_))
          rintro c3 how3
          repeat (first | refine SeqS.go cok ?_ | (refine ValS.keep ?_; first | (with_reducible refine ValS.kI64 ?_; first | (with_reducible refine ValS.addI64_L ?_ ?_ ; omega))))
          refine ⟨k + 1, ⟨c3, rfl, ?_, hlt, rfl, rfl, rfl, rfl, rfl, rfl, rfl, rfl, trivial⟩, by show ds.length - (k + 1) < ds.length - k; omega⟩
          rw [← unmP_set hlt, hd, hu]; exact how3
        by_cases h2 : d = 245
        · have hu : unmN d = 254 := by unfold unmN; rw [if_pos (.inr (.inl h2))]
          repeat (first | (refine QuG.keep ?_; refine QuG.ow cok 0 rfl how2 rfl rfl rfl rfl rfl rfl (by omega) (by show _ ≤ ds.length; omega) ?_) | (refine OpG.keep ?_; refine OpG.ow cok 0 rfl how2 rfl rfl rfl rfl rfl rfl rfl (by omega) (by show _ ≤ ds.length; omega) ?_) | refine SeqS.go cok ?_ | refine GuardS.yes rfl ?_ | refine GuardS.no rfl ?_ | refine GuardS.U rfl ?_ | refine CondS.t rfl ?_ | refine And.intro (by omega) ?_ | (refine NatS.keep ?_; first | with_reducible refine NatS.nat ?_) | (refine GuardS.keep ?_; first | refine GuardS.F1 rfl (by omega) ?_ | refine GuardS.F0 rfl (by omega) ?_) | (refine CondS.keep ?_; first | refine CondS.d1 rfl (by omega) ?_))
          rintro c3 how3
          repeat (first | refine SeqS.go cok ?_ | (refine ValS.keep ?_; first | (with_reducible refine ValS.kI64 ?_; first | (with_reducible refine ValS.addI64_L ?_ ?_ ; omega))))
          refine ⟨k + 1, ⟨c3, rfl, ?_, hlt, rfl, rfl, rfl, rfl, rfl, rfl, rfl, rfl, trivial⟩, by show ds.length - (k + 1) < ds.length - k; omega⟩
          rw [← unmP_set hlt, hd, hu]; exact how3
        by_cases h3 : famN d = 16
        · have hu : unmN d = 254 := by unfold unmN; rw [if_pos (.inr (.inr h3))]
          repeat (first | (refine QuG.keep ?_; refine QuG.ow cok 0 rfl how2 rfl rfl rfl rfl rfl rfl (by omega) (by show _ ≤ ds.length; omega) ?_) | refine SeqS.go cok ?_ | refine GuardS.yes rfl ?_ | refine And.intro (by omega) ?_ | (refine NatS.keep ?_; first | with_reducible refine NatS.nat ?_) | (refine GuardS.keep ?_; first | refine GuardS.F0 rfl (by omega) ?_) | (refine CondS.keep ?_; first | refine CondS.d1 rfl (by omega) ?_))
          refine (Family_spec (o := (unmP ds k).getD k 0) (by omega)).mono ?_
          rintro r _ - ⟨rfl, rfl⟩
          repeat (first | (refine OpG.keep ?_; refine OpG.ow cok 0 rfl how2 rfl rfl rfl rfl rfl rfl rfl (by omega) (by show _ ≤ ds.length; omega) ?_) | refine SeqS.go cok ?_ | refine GuardS.yes rfl ?_ | refine And.intro (by omega) ?_ | (refine NatS.keep ?_; first | with_reducible refine NatS.nat ?_) | (refine CondS.keep ?_; first | refine CondS.d1 rfl (by omega) ?_))
          rintro c3 how3
          repeat (first | refine SeqS.go cok ?_ | (refine ValS.keep ?_; first | (with_reducible refine ValS.kI64 ?_; first | (with_reducible refine ValS.addI64_L ?_ ?_ ; omega))))
          refine ⟨k + 1, ⟨c3, rfl, ?_, hlt, rfl, rfl, rfl, rfl, rfl, rfl, rfl, rfl, trivial⟩, by show ds.length - (k + 1) < ds.length - k; omega⟩
          rw [← unmP_set hlt, hd, hu]; exact how3
        · have hu : unmN d = d := by unfold unmN; rw [if_neg (by omega)]
          repeat (first | (refine QuG.keep ?_; refine QuG.ow cok 0 rfl how2 rfl rfl rfl rfl rfl rfl (by omega) (by show _ ≤ ds.length; omega) ?_) | refine SeqS.go cok ?_ | refine GuardS.yes rfl ?_ | refine And.intro (by omega) ?_ | (refine NatS.keep ?_; first | with_reducible refine NatS.nat ?_) | (refine GuardS.keep ?_; first | refine GuardS.F0 rfl (by omega) ?_) | (refine CondS.keep ?_; first | refine CondS.d1 rfl (by omega) ?_))
          refine (Family_spec (o := (unmP ds k).getD k 0) (by omega)).mono ?_
          rintro r _ - ⟨rfl, rfl⟩
          repeat (first | refine SeqS.go cok ?_ | refine GuardS.yes rfl ?_ | (refine ValS.keep ?_; first | (with_reducible refine ValS.kI64 ?_; first | (with_reducible refine ValS.addI64_L ?_ ?_ ; omega))) | (refine CondS.keep ?_; first | refine CondS.d0 rfl (by omega) ?_))
          refine ⟨k + 1, ⟨c2, rfl, ?_, hlt, rfl, rfl, rfl, rfl, rfl, rfl, rfl, rfl, trivial⟩, by show ds.length - (k + 1) < ds.length - k; omega⟩
          rw [unmP_same hlt (by rw [hd]; exact hu)]; exact how2
      · obtain rfl : k = ds.length := by omega
        rw [unmP_all] at how2
        repeat (first | refine SeqS.go cok ?_ | (refine CondS.keep ?_; first | refine CondS.d0 rfl (by omega) ?_))
        exact ⟨c2, rfl, how2, rfl, rfl, rfl, rfl, trivial⟩
end Go.Proofs.YgvaewGreat
