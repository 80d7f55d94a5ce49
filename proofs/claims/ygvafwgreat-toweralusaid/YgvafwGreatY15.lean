import Derived.Test.YgvafwGreatY14
set_option maxRecDepth 100000
set_option maxHeartbeats 4000000
set_option linter.unusedVariables false
set_option linter.unusedSimpArgs false
-- v2
-- v4
-- v5
namespace Go.Proofs.YgvafwGreat
open Go.HL Go.Proofs

/-- A mark, or a transient slot: the address, the key, the value (a mark has none). -/
abbrev TM := List Nat × Nat × Nat
abbrev dT : TM := ([], 0, 0)
structure MkC (I : Ent → Prop) (l : List Value) (t : TM) : Prop where
  ok : AdOk t.1
  out : ∃ kv, l = bvs t.1 ++ [kv] ∧ NatI I kv t.2.1
structure TmC (I : Ent → Prop) (l : List Value) (t : TM) : Prop where
  ok : AdOk t.1
  out : ∃ kv vv, l = bvs t.1 ++ [kv, vv] ∧ NatI I kv t.2.1 ∧ NatI I vv t.2.2
theorem MkC.up {I J : Ent → Prop} {l : List Value} {t : TM} (h : MkC I l t) (hs : Sub I J) : MkC J l t := by
  obtain ⟨kv, e, h1⟩ := h.out; exact ⟨h.ok, kv, e, h1.up hs⟩
theorem TmC.up {I J : Ent → Prop} {l : List Value} {t : TM} (h : TmC I l t) (hs : Sub I J) : TmC J l t := by
  obtain ⟨kv, vv, e, h1, h2⟩ := h.out; exact ⟨h.ok, kv, vv, e, h1.up hs, h2.up hs⟩
theorem MkC.len {I : Ent → Prop} {l : List Value} {t : TM} (h : MkC I l t) : l.length = 21 := by
  obtain ⟨kv, rfl, _⟩ := h.out; have := h.ok.bv; simp [this]
theorem TmC.len {I : Ent → Prop} {l : List Value} {t : TM} (h : TmC I l t) : l.length = 22 := by
  obtain ⟨kv, vv, rfl, _⟩ := h.out; have := h.ok.bv; simp [this]
theorem MkC.ad {I : Ent → Prop} {l : List Value} {t : TM} (h : MkC I l t) : (l.drop 0).take 20 = bvs t.1 := by
  obtain ⟨kv, rfl, _⟩ := h.out
  rw [List.drop_zero, List.take_append_of_le_length (by rw [h.ok.bv]; omega), List.take_of_length_le (by rw [h.ok.bv]; omega)]
theorem TmC.ad {I : Ent → Prop} {l : List Value} {t : TM} (h : TmC I l t) : (l.drop 0).take 20 = bvs t.1 := by
  obtain ⟨kv, vv, rfl, _⟩ := h.out
  rw [List.drop_zero, List.take_append_of_le_length (by rw [h.ok.bv]; omega), List.take_of_length_le (by rw [h.ok.bv]; omega)]
theorem MkC.one {I : Ent → Prop} {l : List Value} {t : TM} (h : MkC I l t) : ∀ u ∈ l, one u = true := by
  obtain ⟨kv, rfl, h1⟩ := h.out
  intro u hu
  rcases List.mem_append.1 hu with hu | hu
  · exact one_bvs _ u hu
  · simp at hu; subst hu; exact NatI.isl h1
theorem TmC.one {I : Ent → Prop} {l : List Value} {t : TM} (h : TmC I l t) : ∀ u ∈ l, one u = true := by
  obtain ⟨kv, vv, rfl, h1, h2⟩ := h.out
  intro u hu
  rcases List.mem_append.1 hu with hu | hu
  · exact one_bvs _ u hu
  · simp at hu; rcases hu with rfl | rfl
    · exact NatI.isl h1
    · exact NatI.isl h2
theorem MkC.get {I : Ent → Prop} {l : List Value} {t : TM} (h : MkC I l t) : ∃ kv, l.getD 20 undef = kv ∧ NatI I kv t.2.1 := by
  obtain ⟨kv, rfl, h1⟩ := h.out
  refine ⟨kv, ?_, h1⟩
  rw [List.getD_eq_getElem?_getD, List.getElem?_append_right (by rw [h.ok.bv]; omega), h.ok.bv]; rfl
theorem TmC.get {I : Ent → Prop} {l : List Value} {t : TM} (h : TmC I l t) : ∃ kv vv, l.getD 20 undef = kv ∧ l.getD 21 undef = vv ∧ NatI I kv t.2.1 ∧ NatI I vv t.2.2 := by
  obtain ⟨kv, vv, rfl, h1, h2⟩ := h.out
  refine ⟨kv, vv, ?_, ?_, h1, h2⟩
  · rw [List.getD_eq_getElem?_getD, List.getElem?_append_right (by rw [h.ok.bv]; omega), h.ok.bv]; rfl
  · rw [List.getD_eq_getElem?_getD, List.getElem?_append_right (by rw [h.ok.bv]; omega), h.ok.bv]; rfl
structure MarksI (I : Ent → Prop) (v : Value) (ml : List TM) : Prop where
  out : ∃ vss, RowI I 21 v vss ∧ L2 (MkC I) dT vss ml
structure TempsI (I : Ent → Prop) (v : Value) (ml : List TM) : Prop where
  out : ∃ vss, RowI I 22 v vss ∧ L2 (TmC I) dT vss ml
theorem MarksI.up {I J : Ent → Prop} {v : Value} {ml : List TM} (h : MarksI I v ml) (hs : Sub I J) : MarksI J v ml := by
  obtain ⟨vss, a, b⟩ := h.out; exact ⟨vss, a.up hs, b.mono fun _ _ h => h.up hs⟩
theorem TempsI.up {I J : Ent → Prop} {v : Value} {ml : List TM} (h : TempsI I v ml) (hs : Sub I J) : TempsI J v ml := by
  obtain ⟨vss, a, b⟩ := h.out; exact ⟨vss, a.up hs, b.mono fun _ _ h => h.up hs⟩
/-- The first that bears the address and the key. -/
def findT (a : List Nat) (k : Nat) (ml : List TM) : Option TM := ml.find? (fun t => t.1 == a && t.2.1 == k)
theorem findT_none {ml : List TM} {a : List Nat} {k : Nat} (h : ∀ j, j < ml.length → ¬ ((ml.getD j dT).1 = a ∧ (ml.getD j dT).2.1 = k)) : findT a k ml = none := by
  unfold findT
  rw [List.find?_eq_none]
  intro x hx
  obtain ⟨j, hj, rfl⟩ := List.getElem_of_mem hx
  have := h j hj
  rw [List.getD_eq_getElem?_getD, List.getElem?_eq_getElem hj] at this
  simpa using this
theorem findT_some {ml : List TM} {a : List Nat} {k i : Nat} (hi : i < ml.length) (h : ∀ j, j < i → ¬ ((ml.getD j dT).1 = a ∧ (ml.getD j dT).2.1 = k)) (he : (ml.getD i dT).1 = a ∧ (ml.getD i dT).2.1 = k) : findT a k ml = some (ml.getD i dT) := by
  unfold findT
  induction ml generalizing i with
  | nil => simp at hi
  | cons x al ih =>
    cases i with
    | zero => simp at he; simp [he]
    | succ i =>
      have h0 := h 0 (by omega)
      simp at h0
      rw [List.find?_cons_of_neg (by simpa using h0)]
      exact ih (i := i) (by simpa using hi) (fun j hj => by have := h (j + 1) (by omega); simpa using this) (by simpa using he)
/-- (*yellow/yp.World).isWarmSlot -/
theorem yIsWarmSlot {I : Ent → Prop} {G : List Ent} {wb sz k : Nat} {T : TypeId} {c : Nat → Value} {ml : List TM} {a : List Nat} {v : Value} (hsz : 8 ≤ sz) (hN : MarksI I (c 2) ml) (hA : AdOk a) (hN2 : NatI I v k) (hlen : ml.length < 2 ^ 19) :
    CallG Hvaf.prog 139 #[ptr wb 0, bytesV a, v] ⟨I, ⟨wb, sz, T, c⟩ :: G⟩ fun r S' => ⟨I, ⟨wb, sz, T, c⟩ :: G⟩ = S' ∧ r = .bool (findT a k ml).isSome := by
  have ha := hA.bv
  have hla := hA.len
  obtain ⟨vss, hR, hL⟩ := hN.out
  have hvl := hL.len
  obtain ⟨ad, cap, hc⟩ := hR.form
  refine CallG.start (C := mkC Hvaf.prog) cok (args := [ptr wb 0, bytesV a, v]) Hvaf.func139 rfl Hvaf.ntmps139 (by simp) (by kernel_rfl) ?_
  intro b4
  repeat (first | (refine QuG.keep ?_; first | refine QuG.l1E cok 1 rfl rfl rfl rfl rfl (by first | exact Nat.le_of_ble_eq_true rfl | omega | (dsimp only; omega) | (simp only [addS_eq, mulS_eq]; omega)) (by assumption) ?_) | refine SeqS.go cok ?_)
  refine W.loopG cok (by kernel_rfl) 0 (fun (i : Nat) e' => i ≤ ml.length ∧ (∀ j, j < i → ¬ ((ml.getD j dT).1 = a ∧ (ml.getD j dT).2.1 = k)) ∧ slots [(2, v), (4, ptr b4 0), (12, .slice ad vss.length cap), (13, .int .i64 (vss.length : Nat)), (14, .int .i64 (i : Nat))] e') (fun i => ml.length - i) 0
    ⟨Nat.zero_le _, by omega, rfl, rfl, rfl, rfl, rfl, trivial⟩ (fun e' => ∀ j, j < ml.length → ¬ ((ml.getD j dT).1 = a ∧ (ml.getD j dT).2.1 = k)) ?_ ?_
  · rintro e' hno
    repeat (first | refine SeqS.go cok ?_)
    exact Fin.drop (⟨wb, sz, T, c⟩ :: G) [_] ⟨rfl, vB rfl (by rw [findT_none hno]; rfl)⟩
  · rintro i e' ⟨hi, hno, hsl'⟩
    refine W.slots _ hsl' fun e => ?_
    by_cases hlt : i < ml.length
    · rw [hc] at hR
      obtain ⟨x, o, rfl, hx, hE⟩ := hR.some (by omega)
      have hac := hL.at' i hlt
      obtain ⟨lx, hl⟩ : ∃ lx, vss.getD i [] = lx := ⟨_, rfl⟩
      rw [hl] at hac
      have hrd : ∀ G, Rd ⟨I, G⟩ x := fun _ => .inl hx
      have hle := hac.len
      have hone := hac.one
      have had := hac.ad
      have hb20 := hac.ok.bv
      have hl20 := hac.ok.len
      obtain ⟨kv, hg20, m1⟩ := hac.get
      by_cases heq : (ml.getD i dT).1 = a
      · rcases Nat.lt_trichotomy (ml.getD i dT).2.1 k with h | h | h
        · repeat (first | (refine QuG.keep ?_; first | refine QuG.elE cok _ (by assumption) (by first | assumption | exact ‹∀ G, Rd ⟨_, G⟩ _› _) (by assumption) rfl rfl rfl rfl rfl (by omega) ?_) | refine SeqS.go cok ?_ | refine And.intro (by omega) ?_ | (refine NatS.keep ?_; first | with_reducible refine NatS.nat ?_) | (refine CondS.keep ?_; first | refine CondS.d1 rfl (by omega) ?_))
          intro b8
          repeat (first | (refine QuG.keep ?_; first | refine QuG.subL cok 0 rfl rfl rfl rfl rfl rfl (by assumption) (by assumption) (by first | exact Nat.le_of_ble_eq_true rfl | omega) ?_ | refine QuG.boxL cok 1 rfl rfl rfl rfl rfl (by assumption) ?_ | refine QuG.upC cok 0 rfl rfl rfl rfl rfl rfl (by first | exact Nat.le_of_ble_eq_true rfl | omega) (by first | exact Nat.le_of_ble_eq_true rfl | omega) (by assumption) ?_ | refine QuG.eqA cok .u8 rfl rfl rfl rfl rfl (by kernel_rfl) rfl rfl (by assumption) (by assumption) ?_) | (refine OpG.keep ?_; first | refine OpG.upS cok 0 rfl rfl rfl rfl rfl (by assumption) (by first | assumption | exact one_bvs _) (by first | exact Nat.le_of_ble_eq_true rfl | omega) ?_) | refine SeqS.go cok ?_ | refine GuardS.yes rfl ?_ | (refine GuardS.keep ?_; first | refine GuardS.T1 rfl (by omega) ?_))
          refine (nCmpL m1 hN2 h).mono ?_
          rintro r _ - ⟨rfl, rfl⟩
          repeat (first | refine SeqS.go cok ?_ | refine GuardS.yes rfl ?_ | refine CondS.f rfl ?_ | (refine ValS.keep ?_; first | (with_reducible refine ValS.kI64 ?_; first | (with_reducible refine ValS.addI64_L ?_ ?_ ; omega))))
          refine ⟨i + 1, Rel.drop _ [_] ⟨rfl, hlt, fun j hj => ?_, rfl, rfl, rfl, rfl, rfl, trivial⟩, by show ml.length - (i + 1) < ml.length - i; omega⟩
          by_cases h' : j = i
          · subst h'; omega
          · exact hno j (by omega)
        · repeat (first | (refine QuG.keep ?_; first | refine QuG.elE cok _ (by assumption) (by first | assumption | exact ‹∀ G, Rd ⟨_, G⟩ _› _) (by assumption) rfl rfl rfl rfl rfl (by omega) ?_) | refine SeqS.go cok ?_ | refine And.intro (by omega) ?_ | (refine NatS.keep ?_; first | with_reducible refine NatS.nat ?_) | (refine CondS.keep ?_; first | refine CondS.d1 rfl (by omega) ?_))
          intro b8
          repeat (first | (refine QuG.keep ?_; first | refine QuG.subL cok 0 rfl rfl rfl rfl rfl rfl (by assumption) (by assumption) (by first | exact Nat.le_of_ble_eq_true rfl | omega) ?_ | refine QuG.boxL cok 1 rfl rfl rfl rfl rfl (by assumption) ?_ | refine QuG.upC cok 0 rfl rfl rfl rfl rfl rfl (by first | exact Nat.le_of_ble_eq_true rfl | omega) (by first | exact Nat.le_of_ble_eq_true rfl | omega) (by assumption) ?_ | refine QuG.eqA cok .u8 rfl rfl rfl rfl rfl (by kernel_rfl) rfl rfl (by assumption) (by assumption) ?_) | (refine OpG.keep ?_; first | refine OpG.upS cok 0 rfl rfl rfl rfl rfl (by assumption) (by first | assumption | exact one_bvs _) (by first | exact Nat.le_of_ble_eq_true rfl | omega) ?_) | refine SeqS.go cok ?_ | refine GuardS.yes rfl ?_ | (refine GuardS.keep ?_; first | refine GuardS.T1 rfl (by omega) ?_))
          refine (nCmpE m1 hN2 h).mono ?_
          rintro r _ - ⟨rfl, rfl⟩
          repeat (first | refine SeqS.go cok ?_ | refine GuardS.yes rfl ?_ | refine CondS.t rfl ?_)
          exact Fin.drop (⟨wb, sz, T, c⟩ :: G) [_, _] ⟨rfl, vB rfl (by rw [findT_some hlt hno ⟨heq, h⟩]; rfl)⟩
        · repeat (first | (refine QuG.keep ?_; first | refine QuG.elE cok _ (by assumption) (by first | assumption | exact ‹∀ G, Rd ⟨_, G⟩ _› _) (by assumption) rfl rfl rfl rfl rfl (by omega) ?_) | refine SeqS.go cok ?_ | refine And.intro (by omega) ?_ | (refine NatS.keep ?_; first | with_reducible refine NatS.nat ?_) | (refine CondS.keep ?_; first | refine CondS.d1 rfl (by omega) ?_))
          intro b8
          repeat (first | (refine QuG.keep ?_; first | refine QuG.subL cok 0 rfl rfl rfl rfl rfl rfl (by assumption) (by assumption) (by first | exact Nat.le_of_ble_eq_true rfl | omega) ?_ | refine QuG.boxL cok 1 rfl rfl rfl rfl rfl (by assumption) ?_ | refine QuG.upC cok 0 rfl rfl rfl rfl rfl rfl (by first | exact Nat.le_of_ble_eq_true rfl | omega) (by first | exact Nat.le_of_ble_eq_true rfl | omega) (by assumption) ?_ | refine QuG.eqA cok .u8 rfl rfl rfl rfl rfl (by kernel_rfl) rfl rfl (by assumption) (by assumption) ?_) | (refine OpG.keep ?_; first | refine OpG.upS cok 0 rfl rfl rfl rfl rfl (by assumption) (by first | assumption | exact one_bvs _) (by first | exact Nat.le_of_ble_eq_true rfl | omega) ?_) | refine SeqS.go cok ?_ | refine GuardS.yes rfl ?_ | (refine GuardS.keep ?_; first | refine GuardS.T1 rfl (by omega) ?_))
          refine (nCmpG m1 hN2 h).mono ?_
          rintro r _ - ⟨rfl, rfl⟩
          repeat (first | refine SeqS.go cok ?_ | refine GuardS.yes rfl ?_ | refine CondS.f rfl ?_ | (refine ValS.keep ?_; first | (with_reducible refine ValS.kI64 ?_; first | (with_reducible refine ValS.addI64_L ?_ ?_ ; omega))))
          refine ⟨i + 1, Rel.drop _ [_] ⟨rfl, hlt, fun j hj => ?_, rfl, rfl, rfl, rfl, rfl, trivial⟩, by show ml.length - (i + 1) < ml.length - i; omega⟩
          by_cases h' : j = i
          · subst h'; omega
          · exact hno j (by omega)
      · repeat (first | (refine QuG.keep ?_; first | refine QuG.elE cok _ (by assumption) (by first | assumption | exact ‹∀ G, Rd ⟨_, G⟩ _› _) (by assumption) rfl rfl rfl rfl rfl (by omega) ?_) | refine SeqS.go cok ?_ | refine And.intro (by omega) ?_ | (refine NatS.keep ?_; first | with_reducible refine NatS.nat ?_) | (refine CondS.keep ?_; first | refine CondS.d1 rfl (by omega) ?_))
        intro b8
        repeat (first | (refine QuG.keep ?_; first | refine QuG.subL cok 0 rfl rfl rfl rfl rfl rfl (by assumption) (by assumption) (by first | exact Nat.le_of_ble_eq_true rfl | omega) ?_ | refine QuG.boxL cok 1 rfl rfl rfl rfl rfl (by assumption) ?_ | refine QuG.eqA cok .u8 rfl rfl rfl rfl rfl (by kernel_rfl) rfl rfl (by assumption) (by assumption) ?_) | (refine OpG.keep ?_; first | refine OpG.upS cok 0 rfl rfl rfl rfl rfl (by assumption) (by first | assumption | exact one_bvs _) (by first | exact Nat.le_of_ble_eq_true rfl | omega) ?_) | refine SeqS.go cok ?_ | refine GuardS.no rfl ?_ | refine CondS.f rfl ?_ | (refine ValS.keep ?_; first | (with_reducible refine ValS.kI64 ?_; first | (with_reducible refine ValS.addI64_L ?_ ?_ ; omega))) | (refine GuardS.keep ?_; first | refine GuardS.T0 rfl (by omega) ?_))
        refine ⟨i + 1, Rel.drop _ [_] ⟨rfl, hlt, fun j hj => ?_, rfl, rfl, rfl, rfl, rfl, trivial⟩, by show ml.length - (i + 1) < ml.length - i; omega⟩
        by_cases h' : j = i
        · subst h'; exact fun h => heq h.1
        · exact hno j (by omega)
    · repeat (first | refine SeqS.go cok ?_ | (refine CondS.keep ?_; first | refine CondS.d0 rfl (by omega) ?_))
      exact ⟨rfl, fun j hj => hno j (by omega)⟩
/-- (*yellow/yp.World).tload -/
theorem yTLoad {I : Ent → Prop} {G : List Ent} {wb sz k : Nat} {T : TypeId} {c : Nat → Value} {ml : List TM} {a : List Nat} {v : Value} (hsz : 8 ≤ sz) (hN : TempsI I (c 5) ml) (hA : AdOk a) (hN2 : NatI I v k) (hlen : ml.length < 2 ^ 19) :
    CallG Hvaf.prog 243 #[ptr wb 0, bytesV a, v] ⟨I, ⟨wb, sz, T, c⟩ :: G⟩ fun r S' => ⟨I, ⟨wb, sz, T, c⟩ :: G⟩ = S' ∧ NatI I r (((findT a k ml).map (·.2.2)).getD 0) := by
  have ha := hA.bv
  have hla := hA.len
  obtain ⟨vss, hR, hL⟩ := hN.out
  have hvl := hL.len
  obtain ⟨ad, cap, hc⟩ := hR.form
  refine CallG.start (C := mkC Hvaf.prog) cok (args := [ptr wb 0, bytesV a, v]) Hvaf.func243 rfl Hvaf.ntmps243 (by simp) (by kernel_rfl) ?_
  intro b4
  repeat (first | (refine QuG.keep ?_; first | refine QuG.l1E cok 1 rfl rfl rfl rfl rfl (by first | exact Nat.le_of_ble_eq_true rfl | omega | (dsimp only; omega) | (simp only [addS_eq, mulS_eq]; omega)) (by assumption) ?_) | refine SeqS.go cok ?_)
  refine W.loopG cok (by kernel_rfl) 0 (fun (i : Nat) e' => i ≤ ml.length ∧ (∀ j, j < i → ¬ ((ml.getD j dT).1 = a ∧ (ml.getD j dT).2.1 = k)) ∧ slots [(2, v), (4, ptr b4 0), (12, .slice ad vss.length cap), (13, .int .i64 (vss.length : Nat)), (14, .int .i64 (i : Nat))] e') (fun i => ml.length - i) 0
    ⟨Nat.zero_le _, by omega, rfl, rfl, rfl, rfl, rfl, trivial⟩ (fun e' => ∀ j, j < ml.length → ¬ ((ml.getD j dT).1 = a ∧ (ml.getD j dT).2.1 = k)) ?_ ?_
  · rintro e' hno
    repeat (first | refine SeqS.go cok ?_)
    exact Fin.drop (⟨wb, sz, T, c⟩ :: G) [_] ⟨rfl, by rw [findT_none hno]; exact NatI.zero _⟩
  · rintro i e' ⟨hi, hno, hsl'⟩
    refine W.slots _ hsl' fun e => ?_
    by_cases hlt : i < ml.length
    · rw [hc] at hR
      obtain ⟨x, o, rfl, hx, hE⟩ := hR.some (by omega)
      have hac := hL.at' i hlt
      obtain ⟨lx, hl⟩ : ∃ lx, vss.getD i [] = lx := ⟨_, rfl⟩
      rw [hl] at hac
      have hrd : ∀ G, Rd ⟨I, G⟩ x := fun _ => .inl hx
      have hle := hac.len
      have hone := hac.one
      have had := hac.ad
      have hb20 := hac.ok.bv
      have hl20 := hac.ok.len
      obtain ⟨kv, vv, hg20, hg21, m1, m2⟩ := hac.get
      by_cases heq : (ml.getD i dT).1 = a
      · rcases Nat.lt_trichotomy (ml.getD i dT).2.1 k with h | h | h
        · repeat (first | (refine QuG.keep ?_; first | refine QuG.elE cok _ (by assumption) (by first | assumption | exact ‹∀ G, Rd ⟨_, G⟩ _› _) (by assumption) rfl rfl rfl rfl rfl (by omega) ?_) | refine SeqS.go cok ?_ | refine And.intro (by omega) ?_ | (refine NatS.keep ?_; first | with_reducible refine NatS.nat ?_) | (refine CondS.keep ?_; first | refine CondS.d1 rfl (by omega) ?_))
          intro b8
          repeat (first | (refine QuG.keep ?_; first | refine QuG.subL cok 0 rfl rfl rfl rfl rfl rfl (by assumption) (by assumption) (by first | exact Nat.le_of_ble_eq_true rfl | omega) ?_ | refine QuG.boxL cok 1 rfl rfl rfl rfl rfl (by assumption) ?_ | refine QuG.upC cok 0 rfl rfl rfl rfl rfl rfl (by first | exact Nat.le_of_ble_eq_true rfl | omega) (by first | exact Nat.le_of_ble_eq_true rfl | omega) (by assumption) ?_ | refine QuG.eqA cok .u8 rfl rfl rfl rfl rfl (by kernel_rfl) rfl rfl (by assumption) (by assumption) ?_) | (refine OpG.keep ?_; first | refine OpG.upS cok 0 rfl rfl rfl rfl rfl (by assumption) (by first | assumption | exact one_bvs _) (by first | exact Nat.le_of_ble_eq_true rfl | omega) ?_) | refine SeqS.go cok ?_ | refine GuardS.yes rfl ?_ | (refine GuardS.keep ?_; first | refine GuardS.T1 rfl (by omega) ?_))
          refine (nCmpL m1 hN2 h).mono ?_
          rintro r _ - ⟨rfl, rfl⟩
          repeat (first | refine SeqS.go cok ?_ | refine GuardS.yes rfl ?_ | refine CondS.f rfl ?_ | (refine ValS.keep ?_; first | (with_reducible refine ValS.kI64 ?_; first | (with_reducible refine ValS.addI64_L ?_ ?_ ; omega))))
          refine ⟨i + 1, Rel.drop _ [_] ⟨rfl, hlt, fun j hj => ?_, rfl, rfl, rfl, rfl, rfl, trivial⟩, by show ml.length - (i + 1) < ml.length - i; omega⟩
          by_cases h' : j = i
          · subst h'; omega
          · exact hno j (by omega)
        · repeat (first | (refine QuG.keep ?_; first | refine QuG.elE cok _ (by assumption) (by first | assumption | exact ‹∀ G, Rd ⟨_, G⟩ _› _) (by assumption) rfl rfl rfl rfl rfl (by omega) ?_) | refine SeqS.go cok ?_ | refine And.intro (by omega) ?_ | (refine NatS.keep ?_; first | with_reducible refine NatS.nat ?_) | (refine CondS.keep ?_; first | refine CondS.d1 rfl (by omega) ?_))
          intro b8
          repeat (first | (refine QuG.keep ?_; first | refine QuG.subL cok 0 rfl rfl rfl rfl rfl rfl (by assumption) (by assumption) (by first | exact Nat.le_of_ble_eq_true rfl | omega) ?_ | refine QuG.boxL cok 1 rfl rfl rfl rfl rfl (by assumption) ?_ | refine QuG.upC cok 0 rfl rfl rfl rfl rfl rfl (by first | exact Nat.le_of_ble_eq_true rfl | omega) (by first | exact Nat.le_of_ble_eq_true rfl | omega) (by assumption) ?_ | refine QuG.eqA cok .u8 rfl rfl rfl rfl rfl (by kernel_rfl) rfl rfl (by assumption) (by assumption) ?_) | (refine OpG.keep ?_; first | refine OpG.upS cok 0 rfl rfl rfl rfl rfl (by assumption) (by first | assumption | exact one_bvs _) (by first | exact Nat.le_of_ble_eq_true rfl | omega) ?_) | refine SeqS.go cok ?_ | refine GuardS.yes rfl ?_ | (refine GuardS.keep ?_; first | refine GuardS.T1 rfl (by omega) ?_))
          refine (nCmpE m1 hN2 h).mono ?_
          rintro r _ - ⟨rfl, rfl⟩
          repeat (first | (refine QuG.keep ?_; first | refine QuG.upC cok 0 rfl rfl rfl rfl rfl rfl (by first | exact Nat.le_of_ble_eq_true rfl | omega) (by first | exact Nat.le_of_ble_eq_true rfl | omega) (by assumption) ?_) | refine SeqS.go cok ?_ | refine GuardS.yes rfl ?_ | refine CondS.t rfl ?_)
          exact Fin.drop (⟨wb, sz, T, c⟩ :: G) [_, _] ⟨rfl, by rw [findT_some hlt hno ⟨heq, h⟩]; exact m2⟩
        · repeat (first | (refine QuG.keep ?_; first | refine QuG.elE cok _ (by assumption) (by first | assumption | exact ‹∀ G, Rd ⟨_, G⟩ _› _) (by assumption) rfl rfl rfl rfl rfl (by omega) ?_) | refine SeqS.go cok ?_ | refine And.intro (by omega) ?_ | (refine NatS.keep ?_; first | with_reducible refine NatS.nat ?_) | (refine CondS.keep ?_; first | refine CondS.d1 rfl (by omega) ?_))
          intro b8
          repeat (first | (refine QuG.keep ?_; first | refine QuG.subL cok 0 rfl rfl rfl rfl rfl rfl (by assumption) (by assumption) (by first | exact Nat.le_of_ble_eq_true rfl | omega) ?_ | refine QuG.boxL cok 1 rfl rfl rfl rfl rfl (by assumption) ?_ | refine QuG.upC cok 0 rfl rfl rfl rfl rfl rfl (by first | exact Nat.le_of_ble_eq_true rfl | omega) (by first | exact Nat.le_of_ble_eq_true rfl | omega) (by assumption) ?_ | refine QuG.eqA cok .u8 rfl rfl rfl rfl rfl (by kernel_rfl) rfl rfl (by assumption) (by assumption) ?_) | (refine OpG.keep ?_; first | refine OpG.upS cok 0 rfl rfl rfl rfl rfl (by assumption) (by first | assumption | exact one_bvs _) (by first | exact Nat.le_of_ble_eq_true rfl | omega) ?_) | refine SeqS.go cok ?_ | refine GuardS.yes rfl ?_ | (refine GuardS.keep ?_; first | refine GuardS.T1 rfl (by omega) ?_))
          refine (nCmpG m1 hN2 h).mono ?_
          rintro r _ - ⟨rfl, rfl⟩
          repeat (first | refine SeqS.go cok ?_ | refine GuardS.yes rfl ?_ | refine CondS.f rfl ?_ | (refine ValS.keep ?_; first | (with_reducible refine ValS.kI64 ?_; first | (with_reducible refine ValS.addI64_L ?_ ?_ ; omega))))
          refine ⟨i + 1, Rel.drop _ [_] ⟨rfl, hlt, fun j hj => ?_, rfl, rfl, rfl, rfl, rfl, trivial⟩, by show ml.length - (i + 1) < ml.length - i; omega⟩
          by_cases h' : j = i
          · subst h'; omega
          · exact hno j (by omega)
      · repeat (first | (refine QuG.keep ?_; first | refine QuG.elE cok _ (by assumption) (by first | assumption | exact ‹∀ G, Rd ⟨_, G⟩ _› _) (by assumption) rfl rfl rfl rfl rfl (by omega) ?_) | refine SeqS.go cok ?_ | refine And.intro (by omega) ?_ | (refine NatS.keep ?_; first | with_reducible refine NatS.nat ?_) | (refine CondS.keep ?_; first | refine CondS.d1 rfl (by omega) ?_))
        intro b8
        repeat (first | (refine QuG.keep ?_; first | refine QuG.subL cok 0 rfl rfl rfl rfl rfl rfl (by assumption) (by assumption) (by first | exact Nat.le_of_ble_eq_true rfl | omega) ?_ | refine QuG.boxL cok 1 rfl rfl rfl rfl rfl (by assumption) ?_ | refine QuG.eqA cok .u8 rfl rfl rfl rfl rfl (by kernel_rfl) rfl rfl (by assumption) (by assumption) ?_) | (refine OpG.keep ?_; first | refine OpG.upS cok 0 rfl rfl rfl rfl rfl (by assumption) (by first | assumption | exact one_bvs _) (by first | exact Nat.le_of_ble_eq_true rfl | omega) ?_) | refine SeqS.go cok ?_ | refine GuardS.no rfl ?_ | refine CondS.f rfl ?_ | (refine ValS.keep ?_; first | (with_reducible refine ValS.kI64 ?_; first | (with_reducible refine ValS.addI64_L ?_ ?_ ; omega))) | (refine GuardS.keep ?_; first | refine GuardS.T0 rfl (by omega) ?_))
        refine ⟨i + 1, Rel.drop _ [_] ⟨rfl, hlt, fun j hj => ?_, rfl, rfl, rfl, rfl, rfl, trivial⟩, by show ml.length - (i + 1) < ml.length - i; omega⟩
        by_cases h' : j = i
        · subst h'; exact fun h => heq h.1
        · exact hno j (by omega)
    · repeat (first | refine SeqS.go cok ?_ | (refine CondS.keep ?_; first | refine CondS.d0 rfl (by omega) ?_))
      exact ⟨rfl, fun j hj => hno j (by omega)⟩
/-- (*yellow/yp.State).orig -/
theorem yOrig {I : Ent → Prop} {G : List Ent} {wb sz k : Nat} {T : TypeId} {c : Nat → Value} {ml : List TM} {a : List Nat} {v : Value} (hsz : 9 ≤ sz) (hN : TempsI I (c 8) ml) (hA : AdOk a) (hN2 : NatI I v k) (hlen : ml.length < 2 ^ 19) :
    CallG Hvaf.prog 405 #[ptr wb 0, bytesV a, v] ⟨I, ⟨wb, sz, T, c⟩ :: G⟩ fun r S' => ⟨I, ⟨wb, sz, T, c⟩ :: G⟩ = S' ∧ NatI I r (((findT a k ml).map (·.2.2)).getD 0) := by
  have ha := hA.bv
  have hla := hA.len
  obtain ⟨vss, hR, hL⟩ := hN.out
  have hvl := hL.len
  obtain ⟨ad, cap, hc⟩ := hR.form
  refine CallG.start (C := mkC Hvaf.prog) cok (args := [ptr wb 0, bytesV a, v]) Hvaf.func405 rfl Hvaf.ntmps405 (by simp) (by kernel_rfl) ?_
  intro b4
  repeat (first | (refine QuG.keep ?_; first | refine QuG.l1E cok 1 rfl rfl rfl rfl rfl (by first | exact Nat.le_of_ble_eq_true rfl | omega | (dsimp only; omega) | (simp only [addS_eq, mulS_eq]; omega)) (by assumption) ?_) | refine SeqS.go cok ?_)
  refine W.loopG cok (by kernel_rfl) 0 (fun (i : Nat) e' => i ≤ ml.length ∧ (∀ j, j < i → ¬ ((ml.getD j dT).1 = a ∧ (ml.getD j dT).2.1 = k)) ∧ slots [(2, v), (4, ptr b4 0), (12, .slice ad vss.length cap), (13, .int .i64 (vss.length : Nat)), (14, .int .i64 (i : Nat))] e') (fun i => ml.length - i) 0
    ⟨Nat.zero_le _, by omega, rfl, rfl, rfl, rfl, rfl, trivial⟩ (fun e' => ∀ j, j < ml.length → ¬ ((ml.getD j dT).1 = a ∧ (ml.getD j dT).2.1 = k)) ?_ ?_
  · rintro e' hno
    repeat (first | refine SeqS.go cok ?_)
    exact Fin.drop (⟨wb, sz, T, c⟩ :: G) [_] ⟨rfl, by rw [findT_none hno]; exact NatI.zero _⟩
  · rintro i e' ⟨hi, hno, hsl'⟩
    refine W.slots _ hsl' fun e => ?_
    by_cases hlt : i < ml.length
    · rw [hc] at hR
      obtain ⟨x, o, rfl, hx, hE⟩ := hR.some (by omega)
      have hac := hL.at' i hlt
      obtain ⟨lx, hl⟩ : ∃ lx, vss.getD i [] = lx := ⟨_, rfl⟩
      rw [hl] at hac
      have hrd : ∀ G, Rd ⟨I, G⟩ x := fun _ => .inl hx
      have hle := hac.len
      have hone := hac.one
      have had := hac.ad
      have hb20 := hac.ok.bv
      have hl20 := hac.ok.len
      obtain ⟨kv, vv, hg20, hg21, m1, m2⟩ := hac.get
      by_cases heq : (ml.getD i dT).1 = a
      · rcases Nat.lt_trichotomy (ml.getD i dT).2.1 k with h | h | h
        · repeat (first | (refine QuG.keep ?_; first | refine QuG.elE cok _ (by assumption) (by first | assumption | exact ‹∀ G, Rd ⟨_, G⟩ _› _) (by assumption) rfl rfl rfl rfl rfl (by omega) ?_) | refine SeqS.go cok ?_ | refine And.intro (by omega) ?_ | (refine NatS.keep ?_; first | with_reducible refine NatS.nat ?_) | (refine CondS.keep ?_; first | refine CondS.d1 rfl (by omega) ?_))
          intro b8
          repeat (first | (refine QuG.keep ?_; first | refine QuG.subL cok 0 rfl rfl rfl rfl rfl rfl (by assumption) (by assumption) (by first | exact Nat.le_of_ble_eq_true rfl | omega) ?_ | refine QuG.boxL cok 1 rfl rfl rfl rfl rfl (by assumption) ?_ | refine QuG.upC cok 0 rfl rfl rfl rfl rfl rfl (by first | exact Nat.le_of_ble_eq_true rfl | omega) (by first | exact Nat.le_of_ble_eq_true rfl | omega) (by assumption) ?_ | refine QuG.eqA cok .u8 rfl rfl rfl rfl rfl (by kernel_rfl) rfl rfl (by assumption) (by assumption) ?_) | (refine OpG.keep ?_; first | refine OpG.upS cok 0 rfl rfl rfl rfl rfl (by assumption) (by first | assumption | exact one_bvs _) (by first | exact Nat.le_of_ble_eq_true rfl | omega) ?_) | refine SeqS.go cok ?_ | refine GuardS.yes rfl ?_ | (refine GuardS.keep ?_; first | refine GuardS.T1 rfl (by omega) ?_))
          refine (nCmpL m1 hN2 h).mono ?_
          rintro r _ - ⟨rfl, rfl⟩
          repeat (first | refine SeqS.go cok ?_ | refine GuardS.yes rfl ?_ | refine CondS.f rfl ?_ | (refine ValS.keep ?_; first | (with_reducible refine ValS.kI64 ?_; first | (with_reducible refine ValS.addI64_L ?_ ?_ ; omega))))
          refine ⟨i + 1, Rel.drop _ [_] ⟨rfl, hlt, fun j hj => ?_, rfl, rfl, rfl, rfl, rfl, trivial⟩, by show ml.length - (i + 1) < ml.length - i; omega⟩
          by_cases h' : j = i
          · subst h'; omega
          · exact hno j (by omega)
        · repeat (first | (refine QuG.keep ?_; first | refine QuG.elE cok _ (by assumption) (by first | assumption | exact ‹∀ G, Rd ⟨_, G⟩ _› _) (by assumption) rfl rfl rfl rfl rfl (by omega) ?_) | refine SeqS.go cok ?_ | refine And.intro (by omega) ?_ | (refine NatS.keep ?_; first | with_reducible refine NatS.nat ?_) | (refine CondS.keep ?_; first | refine CondS.d1 rfl (by omega) ?_))
          intro b8
          repeat (first | (refine QuG.keep ?_; first | refine QuG.subL cok 0 rfl rfl rfl rfl rfl rfl (by assumption) (by assumption) (by first | exact Nat.le_of_ble_eq_true rfl | omega) ?_ | refine QuG.boxL cok 1 rfl rfl rfl rfl rfl (by assumption) ?_ | refine QuG.upC cok 0 rfl rfl rfl rfl rfl rfl (by first | exact Nat.le_of_ble_eq_true rfl | omega) (by first | exact Nat.le_of_ble_eq_true rfl | omega) (by assumption) ?_ | refine QuG.eqA cok .u8 rfl rfl rfl rfl rfl (by kernel_rfl) rfl rfl (by assumption) (by assumption) ?_) | (refine OpG.keep ?_; first | refine OpG.upS cok 0 rfl rfl rfl rfl rfl (by assumption) (by first | assumption | exact one_bvs _) (by first | exact Nat.le_of_ble_eq_true rfl | omega) ?_) | refine SeqS.go cok ?_ | refine GuardS.yes rfl ?_ | (refine GuardS.keep ?_; first | refine GuardS.T1 rfl (by omega) ?_))
          refine (nCmpE m1 hN2 h).mono ?_
          rintro r _ - ⟨rfl, rfl⟩
          repeat (first | (refine QuG.keep ?_; first | refine QuG.upC cok 0 rfl rfl rfl rfl rfl rfl (by first | exact Nat.le_of_ble_eq_true rfl | omega) (by first | exact Nat.le_of_ble_eq_true rfl | omega) (by assumption) ?_) | refine SeqS.go cok ?_ | refine GuardS.yes rfl ?_ | refine CondS.t rfl ?_)
          exact Fin.drop (⟨wb, sz, T, c⟩ :: G) [_, _] ⟨rfl, by rw [findT_some hlt hno ⟨heq, h⟩]; exact m2⟩
        · repeat (first | (refine QuG.keep ?_; first | refine QuG.elE cok _ (by assumption) (by first | assumption | exact ‹∀ G, Rd ⟨_, G⟩ _› _) (by assumption) rfl rfl rfl rfl rfl (by omega) ?_) | refine SeqS.go cok ?_ | refine And.intro (by omega) ?_ | (refine NatS.keep ?_; first | with_reducible refine NatS.nat ?_) | (refine CondS.keep ?_; first | refine CondS.d1 rfl (by omega) ?_))
          intro b8
          repeat (first | (refine QuG.keep ?_; first | refine QuG.subL cok 0 rfl rfl rfl rfl rfl rfl (by assumption) (by assumption) (by first | exact Nat.le_of_ble_eq_true rfl | omega) ?_ | refine QuG.boxL cok 1 rfl rfl rfl rfl rfl (by assumption) ?_ | refine QuG.upC cok 0 rfl rfl rfl rfl rfl rfl (by first | exact Nat.le_of_ble_eq_true rfl | omega) (by first | exact Nat.le_of_ble_eq_true rfl | omega) (by assumption) ?_ | refine QuG.eqA cok .u8 rfl rfl rfl rfl rfl (by kernel_rfl) rfl rfl (by assumption) (by assumption) ?_) | (refine OpG.keep ?_; first | refine OpG.upS cok 0 rfl rfl rfl rfl rfl (by assumption) (by first | assumption | exact one_bvs _) (by first | exact Nat.le_of_ble_eq_true rfl | omega) ?_) | refine SeqS.go cok ?_ | refine GuardS.yes rfl ?_ | (refine GuardS.keep ?_; first | refine GuardS.T1 rfl (by omega) ?_))
          refine (nCmpG m1 hN2 h).mono ?_
          rintro r _ - ⟨rfl, rfl⟩
          repeat (first | refine SeqS.go cok ?_ | refine GuardS.yes rfl ?_ | refine CondS.f rfl ?_ | (refine ValS.keep ?_; first | (with_reducible refine ValS.kI64 ?_; first | (with_reducible refine ValS.addI64_L ?_ ?_ ; omega))))
          refine ⟨i + 1, Rel.drop _ [_] ⟨rfl, hlt, fun j hj => ?_, rfl, rfl, rfl, rfl, rfl, trivial⟩, by show ml.length - (i + 1) < ml.length - i; omega⟩
          by_cases h' : j = i
          · subst h'; omega
          · exact hno j (by omega)
      · repeat (first | (refine QuG.keep ?_; first | refine QuG.elE cok _ (by assumption) (by first | assumption | exact ‹∀ G, Rd ⟨_, G⟩ _› _) (by assumption) rfl rfl rfl rfl rfl (by omega) ?_) | refine SeqS.go cok ?_ | refine And.intro (by omega) ?_ | (refine NatS.keep ?_; first | with_reducible refine NatS.nat ?_) | (refine CondS.keep ?_; first | refine CondS.d1 rfl (by omega) ?_))
        intro b8
        repeat (first | (refine QuG.keep ?_; first | refine QuG.subL cok 0 rfl rfl rfl rfl rfl rfl (by assumption) (by assumption) (by first | exact Nat.le_of_ble_eq_true rfl | omega) ?_ | refine QuG.boxL cok 1 rfl rfl rfl rfl rfl (by assumption) ?_ | refine QuG.eqA cok .u8 rfl rfl rfl rfl rfl (by kernel_rfl) rfl rfl (by assumption) (by assumption) ?_) | (refine OpG.keep ?_; first | refine OpG.upS cok 0 rfl rfl rfl rfl rfl (by assumption) (by first | assumption | exact one_bvs _) (by first | exact Nat.le_of_ble_eq_true rfl | omega) ?_) | refine SeqS.go cok ?_ | refine GuardS.no rfl ?_ | refine CondS.f rfl ?_ | (refine ValS.keep ?_; first | (with_reducible refine ValS.kI64 ?_; first | (with_reducible refine ValS.addI64_L ?_ ?_ ; omega))) | (refine GuardS.keep ?_; first | refine GuardS.T0 rfl (by omega) ?_))
        refine ⟨i + 1, Rel.drop _ [_] ⟨rfl, hlt, fun j hj => ?_, rfl, rfl, rfl, rfl, rfl, trivial⟩, by show ml.length - (i + 1) < ml.length - i; omega⟩
        by_cases h' : j = i
        · subst h'; exact fun h => heq h.1
        · exact hno j (by omega)
    · repeat (first | refine SeqS.go cok ?_ | (refine CondS.keep ?_; first | refine CondS.d0 rfl (by omega) ?_))
      exact ⟨rfl, fun j hj => hno j (by omega)⟩
end Go.Proofs.YgvafwGreat
