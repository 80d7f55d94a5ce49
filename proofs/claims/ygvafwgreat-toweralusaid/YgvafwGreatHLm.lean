import Derived.Test.YgvafwGreatHLl
set_option linter.unusedVariables false
set_option linter.unusedSimpArgs false
namespace Go.HL

structure EnvRel (ops : Array Oper) (e0 : Env) (D : Nat → Prop) (val : Nat → Value) (e : Env) : Prop where
  on : ∀ i d, dstOf ops i = some d → D i → e d = val i
  off : ∀ i d, dstOf ops i = some d → ¬ D i → e d = e0 d
  out : ∀ t, (∀ i, dstOf ops i ≠ some t) → e t = e0 t

def updV (val : Nat → Value) (k : Nat) (v : Value) : Nat → Value := fun i => if i = k then v else val i
theorem updV_same (val : Nat → Value) (k : Nat) (v : Value) : updV val k v k = v := by simp [updV]
theorem updV_ne (val : Nat → Value) {k i : Nat} (v : Value) (h : i ≠ k) : updV val k v i = val i := by simp [updV, h]

section
variable {C : Cfg} {n : Nat} {ops : Array Oper} {msk rd : List Nat} {e0 : Env}

theorem EnvRel.put {D : Nat → Prop} {val : Nat → Value} {e : Env} (hdist : ∀ i k d, dstOf ops i = some d → dstOf ops k = some d → i = k) (h : EnvRel ops e0 D val e) {k : Nat} (hk : ¬ D k) (v : Value) :
    EnvRel ops e0 (fun i => D i ∨ i = k) (updV val k v) (HL.put e (dstOf ops k) v) := by
  have hput : ∀ t, HL.put e (dstOf ops k) v t = if dstOf ops k = some t then v else e t := by
    intro t
    cases hd : dstOf ops k with
    | none => simp [HL.put]
    | some d => simp only [HL.put, upd, Option.some.injEq]; by_cases h : t = d <;> simp [h, eq_comm]
  refine ⟨fun i d hi hD => ?_, fun i d hi hD => ?_, fun t ht => ?_⟩
  · rw [hput]
    by_cases hik : i = k
    · subst hik; rw [if_pos hi, updV_same]
    · rw [if_neg (fun hd => hik (hdist i k d hi hd)), updV_ne _ _ hik]
      exact h.on i d hi (hD.resolve_right hik)
  · rw [hput]
    have hik : i ≠ k := fun h => hD (.inr h)
    rw [if_neg (fun hd => hik (hdist i k d hi hd))]
    exact h.off i d hi (fun h => hD (.inl h))
  · rw [hput, if_neg (ht k)]; exact h.out t ht

theorem EnvRel.vals {D : Nat → Prop} {val val' : Nat → Value} {e : Env} (h : EnvRel ops e0 D val e) (hv : ∀ i, D i → val' i = val i) : EnvRel ops e0 D val' e :=
  ⟨fun i d hi hD => by rw [hv i hD]; exact h.on i d hi hD, h.off, h.out⟩
theorem EnvRel.sets {D D' : Nat → Prop} {val : Nat → Value} {e : Env} (h : EnvRel ops e0 D val e) (hD : ∀ i, dstOf ops i ≠ none → (D i ↔ D' i)) : EnvRel ops e0 D' val e :=
  ⟨fun i d hi hd => h.on i d hi ((hD i (by simp [hi])).2 hd), fun i d hi hd => h.off i d hi (fun hx => hd ((hD i (by simp [hi])).1 hx)), h.out⟩
theorem EnvRel.agree {D1 D2 : Nat → Prop} {v : Nat → Value} {e1 e2 : Env} (h1 : EnvRel ops e0 D1 v e1) (h2 : EnvRel ops e0 D2 v e2) (t : Nat) (h : ∀ i, dstOf ops i = some t → (D1 i ↔ D2 i)) : e1 t = e2 t := by
  by_cases hex : ∃ i, dstOf ops i = some t
  · obtain ⟨i, hi⟩ := hex
    by_cases hD : D1 i
    · rw [h1.on i t hi hD, h2.on i t hi ((h i hi).1 hD)]
    · rw [h1.off i t hi hD, h2.off i t hi (fun h' => hD ((h i hi).2 h'))]
  · have : ∀ i, dstOf ops i ≠ some t := fun i hi => hex ⟨i, hi⟩
    rw [h1.out t this, h2.out t this]

def wantE (ops : Array Oper) (e : Env) (o : Oper) : Bool := match o.guard with
  | none => true
  | some (j, want) => match dstOf ops j with
    | none => false
    | some d => match e d with
      | .bool b => b == want
      | _ => false
theorem guardW_cases {e : Env} {o : Oper} {X Y : Env → Prop} (h : guardW ops e o X Y) : (wantE ops e o = true ∧ X e) ∨ (wantE ops e o = false ∧ Y e) := by
  unfold guardW at h
  unfold wantE
  split at h
  · rename_i hg; rw [hg]; exact .inl ⟨rfl, h⟩
  · rename_i j want hg
    rw [hg]
    split at h
    · exact h.elim
    · rename_i d hd
      simp only [hd]
      have hup : ∀ b, e d = b → upd e d b = e := fun b hb => by
        funext i; simp only [upd]; split
        · rename_i hi; rw [hi, hb]
        · rfl
      have h := h.out
      unfold guardB at h
      split at h
      · rename_i hb
        simp only [hup _ hb] at h
        cases want
        · exact .inr ⟨by simp [hb], h⟩
        · exact .inl ⟨by simp [hb], h⟩
      · rename_i hb
        simp only [hup _ hb] at h
        cases want
        · exact .inl ⟨by simp [hb], h⟩
        · exact .inr ⟨by simp [hb], h⟩
      · rename_i vs hb
        simp only [hup _ hb] at h
        exact .inr ⟨by simp [hb], h⟩
      · exact h.elim
theorem wanted_wantE {a : Act} {e : Env} {o : Oper} (hs : Sim n a e) (hok : operOk n ops o = true) : Region.wanted o (yielded ops a.tmps) = wantE ops e o := by
  unfold wantE Region.wanted
  cases hg : o.guard with
  | none => rfl
  | some p =>
    obtain ⟨j, want⟩ := p
    simp only [operOk, hg, Bool.and_eq_true] at hok
    have hok := hok.2
    cases hd : dstOf ops j with
    | none => unfold dstOf at hd; rw [hd] at hok; cases hok
    | some d =>
      have hd' := hd
      unfold dstOf at hd
      rw [hd] at hok
      have hlt : d < n := by simpa [Nat.blt_eq] using hok
      have h1 := hs.get d
      have h2 := hs.size
      have h3 : a.tmps[d]? = some (e d) := by
        rw [Array.getElem?_eq_getElem (by omega)]
        have : a.tmps.getD d undef = a.tmps[d] := by simp [Array.getD, h2, hlt]
        rw [← this, h1]
      simp only [yielded, hd, hd', Option.bind_some, h3]
      generalize e d = u
      cases u <;> first | rfl

theorem looks_ev {e e' : Env} {o : Oper} (h : ∀ t ∈ o.looksAt ops, e t = e' t) : ∀ x ∈ o.op.operands, ev e x = ev e' x := by
  intro x hx
  cases x with
  | tmp t =>
    refine h t ?_
    unfold Oper.looksAt
    refine List.mem_append_left _ (List.mem_filterMap.2 ⟨.tmp t, by simpa using hx, rfl⟩)
  | _ => rfl
theorem looks_want {e e' : Env} {o : Oper} (h : ∀ t ∈ o.looksAt ops, e t = e' t) : wantE ops e o = wantE ops e' o := by
  unfold wantE
  split
  · rfl
  · rename_i j want hg
    split
    · rfl
    · rename_i d hd
      have : e d = e' d := h d (by unfold Oper.looksAt; unfold dstOf at hd; simp [hg, hd])
      rw [this]
theorem exec_eq {e e' : Env} {o : Oper} (hns : ∀ cs b, o.op ≠ .select cs b) (h : ∀ t ∈ o.looksAt ops, e t = e' t) :
    execOp (ev e) ⟨none, o.op, o.type, "", #[], none⟩ = execOp (ev e') ⟨none, o.op, o.type, "", #[], none⟩ :=
  execOp_congr ⟨none, o.op, o.type, "", #[], none⟩ hns (fun x hx => looks_ev (o := o) h x hx)

theorem Holds.perm2 {S S' : St} {F F' : Fr} {h : World} (hh : Holds S F h) (hI : S'.I = S.I) (hp : (S.G ++ F.l).Perm (S'.G ++ F'.l)) (hw : F'.w0 = F.w0 := by rfl) (hB : F'.B = F.B := by rfl) : Holds S' F' h := by
  obtain ⟨h1, h2, h3, h4, h5⟩ := hh
  exact ⟨fun x hx => h1 x (by rw [← hI]; exact hx), fun x hx => h2 x (hp.mem_iff.2 hx), (hp.pairwise_iff (fun {a b} hab => Ne.symm hab)).1 h3, fun x hx y hy => h4 x (by rw [← hI]; exact hx) y (hp.mem_iff.2 hy), by rw [hB]; exact h5.top, by rw [hB, hw]; exact h5.base, fun x hx => by rw [hB]; exact h5.high x (hp.mem_iff.2 hx)⟩
theorem QuV.of0 {P : Program} {op : Op} {ty : TypeId} {e : Env} {v : Value} (h : QuV P op ty e St0 v) (S : St) : QuV P op ty e S v :=
  ⟨fun F w hw => h.out ⟨[], w, 0⟩ w (St0.holds _)⟩
theorem QuV.push {P : Program} {op : Op} {ty : TypeId} {e : Env} {v : Value} {S : St} (h : QuV P op ty e S v) (x : Ent) : QuV P op ty e ⟨S.I, x :: S.G⟩ v :=
  ⟨fun F w hw => h.out (F.app [x]) w (hw.perm2 rfl (by simpa using List.perm_middle.symm))⟩
theorem still_mem {P : Program} {S : St} {X : Prop} : ∀ (l : List (Nat × Env × Value)), stillE P ops S l X → X ∧ ∀ i e v o, (i, e, v) ∈ l → ops[i]? = some o → QuV P o.op o.type e S v := by
  intro l
  induction l with
  | nil => intro h; exact ⟨h, fun _ _ _ _ h => by simp at h⟩
  | cons p l ih =>
    obtain ⟨i, e, v⟩ := p
    rintro ⟨h1, h2⟩
    obtain ⟨g1, g2⟩ := ih h2
    refine ⟨g1, fun i' e' v' o hm ho => ?_⟩
    rcases List.mem_cons.1 hm with h | h
    · simp only [Prod.mk.injEq] at h; obtain ⟨rfl, rfl, rfl⟩ := h; rw [ho] at h1; exact h1
    · exact g2 i' e' v' o h ho

def cnt (listed : Array Bool) : Nat → Nat
  | 0 => 0
  | m + 1 => cnt listed m + (if listed.getD m false then 0 else 1)
theorem cnt_all {listed : Array Bool} : ∀ m, cnt listed m = 0 → ∀ i, i < m → listed.getD i false = true := by
  intro m; induction m with
  | zero => intro _ i hi; omega
  | succ m ih =>
    intro h i hi
    simp only [cnt] at h
    by_cases him : i = m
    · subst him
      cases hl : listed.getD i false
      · rw [hl] at h; simp at h
      · rfl
    · exact ih (by omega) i (by omega)
theorem cnt_set {listed : Array Bool} {k : Nat} (hk : k < listed.size) (hu : listed.getD k false = false) : ∀ m, cnt (listed.setIfInBounds k true) m + (if k < m then 1 else 0) = cnt listed m := by
  intro m; induction m with
  | zero => rfl
  | succ m ih =>
    simp only [cnt]
    by_cases hkm : k = m
    · subst hkm
      have h1 : (listed.setIfInBounds k true).getD k false = true := by simp [hk]
      have h2 : ¬ k < k := by omega
      rw [if_neg h2] at ih
      rw [h1, hu, if_pos (by omega : k < k + 1)]; simp only [Bool.false_eq_true, if_false, if_true]; omega
    · have h1 : (listed.setIfInBounds k true).getD m false = listed.getD m false := getD_set_ne false hkm
      rw [h1]
      by_cases hlt : k < m
      · rw [if_pos hlt] at ih; rw [if_pos (by omega : k < m + 1)]; omega
      · rw [if_neg hlt] at ih; rw [if_neg (by omega : ¬ k < m + 1)]; omega
end
end Go.HL
