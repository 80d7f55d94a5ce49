import Derived.Test.YgvafwGreatY47
set_option exponentiation.threshold 1000
set_option maxRecDepth 100000
set_option maxHeartbeats 4000000
set_option linter.unusedVariables false
set_option linter.unusedSimpArgs false
-- v2
-- v4
-- v5
-- v6
-- v7
namespace Go.HL
/-- append of one element to the first n elements of a row that nobody writes, with no room. -/
theorem OpG.appFirst {C : Cfg} {e : Env} {ty : TypeId} (hC : C.Ok) {s x : Operand} {ts tx : TypeId} {i i2 j : TI} {K : Post} {I : Ent → Prop} {ad : Option Addr} {cap n : Nat} {vss : List (List Value)} {L : List Ent} {tb : Nat} {Tt : TypeId} {tc : Nat → Value} {el : List Value}
    (hR : RowI I j.size (.slice ad vss.length cap) vss) (hn : n ≤ vss.length) (hD : C.D ts = some i) (hk : i.kind = 4) (hj : C.D i.elem = some j) (hjs : 0 < j.size) (hD2 : C.D tx = some i2) (hk2 : i2.kind = 4)
    (hs : ev e s = .slice ad n n) (hx : ev e x = sl tb 0 1 1) (hr : Row tc 0 el) (hel : el.length = j.size) (hlen : vss.length < 2 ^ 20) (hby : j.bytes ≤ 2 ^ 20)
    (h : ∀ v' M', OwnL i.elem j.size v' (vss.take n ++ [el]) M' → K v' ⟨I, L ++ M'⟩) : OpG C.P (.call ⟨.builtin .append, #[s, x], #[ts, tx]⟩) ty e ⟨I, ⟨tb, j.size, Tt, tc⟩ :: L⟩ K := by
  refine OpG.post ?_
  have hbig : (2 * (n + 1) + 1024) * j.bytes ≤ 2 ^ 48 := by
    have : (2 * (n + 1) + 1024) * j.bytes ≤ 2 ^ 22 * 2 ^ 20 := Nat.mul_le_mul (by omega) hby
    omega
  have htl : (vss.take n).length = n := by rw [List.length_take]; omega
  have htk : ∀ l ∈ vss.take n, l.length = j.size := fun l hl => hR.1 l (List.mem_of_mem_take hl)
  have fl := flat_len htk
  rw [htl] at fl
  have hlen' : ∀ l ∈ vss.take n ++ [el], l.length = j.size := by
    intro l hl
    rcases List.mem_append.1 hl with hl | hl
    · exact htk l hl
    · obtain rfl := List.mem_singleton.1 hl; exact hel
  have mk : ∀ {b2 cap2 : Nat} {c2 : Nat → Value}, n + 1 ≤ cap2 → (∀ p, p < n * j.size → c2 p = (vss.take n).flatten.getD p undef) → (∀ p, p < j.size → c2 (n * j.size + p) = tc (0 + p)) → OwnL i.elem j.size (sl b2 0 (n + 1) cap2) (vss.take n ++ [el]) [⟨b2, mulS cap2 j.size, i.elem, c2⟩] := by
    intro b2 cap2 c2 h2 h3 h4
    refine ⟨hlen', .inr ⟨b2, cap2, c2, by rw [List.length_append, htl]; rfl, by rw [List.length_append, htl]; exact h2, rfl, ⟨fun p hp => ?_⟩⟩⟩
    rw [List.flatten_append, List.flatten_singleton, List.length_append, fl, hel] at hp
    rw [List.flatten_append, List.flatten_singleton, Nat.zero_add, List.getD_eq_getElem?_getD]
    by_cases hlt : p < n * j.size
    · rw [List.getElem?_append_left (by omega), h3 p hlt, List.getD_eq_getElem?_getD]
    · rw [List.getElem?_append_right (by omega), fl]
      have := h4 (p - n * j.size) (by omega)
      rw [show n * j.size + (p - n * j.size) = p by omega] at this
      rw [this, hr.get _ (by omega), List.getD_eq_getElem?_getD]
  have fin : ∀ {cs : Nat → Value}, (∀ p, p < n * j.size → cs p = (vss.take n).flatten.getD p undef) → (∀ (F : Fr) (w : World), Holds ⟨I, ⟨tb, j.size, Tt, tc⟩ :: L⟩ F w → (Builtin.firstCells j.size n (.slice ad n n)).run C.P w = .ok (cellsFrom cs 0 (mulS n j.size)).toArray w) → OpG C.P (.call ⟨.builtin .append, #[s, x], #[ts, tx]⟩) ty e ⟨I, ⟨tb, j.size, Tt, tc⟩ :: L⟩ fun v S' => Rel (K v) S' := by
    intro cs hcs hold
    refine OpG.appendNew hC (y := ⟨tb, j.size, Tt, tc⟩) (len := n) (cap := n) (m := 1) (cs := cs) hD hk hj hjs hD2 hk2 hs ⟨_, rfl⟩ hold hx (.inr List.mem_cons_self) rfl ?_ (by omega) hbig (by omega) ?_
    · show 0 + mulS 1 j.size ≤ j.size; rw [mulS_eq]; omega
    · intro b2 cap2 c2 hc h2 h3
      refine Rel.perm (L ++ [_]) [⟨tb, j.size, Tt, tc⟩] ?_ (h _ _ (mk (b2 := b2) (cap2 := cap2) (c2 := c2) hc ?_ ?_))
      · simp only [List.append_assoc, List.singleton_append]
        refine (List.Perm.swap _ _ _).trans ?_
        refine List.Perm.trans ?_ (List.perm_middle.symm)
        refine List.Perm.trans ?_ ((List.perm_append_singleton _ _).symm.cons _)
        exact List.Perm.swap _ _ _
      · intro p hp
        rw [h2 p (by rw [mulS_eq]; exact hp)]; exact hcs p hp
      · intro p hp
        have := h3 p (by rw [mulS_eq]; omega)
        simpa [mulS_eq] using this
  rcases hR.2 with ⟨hv, hvs⟩ | ⟨y, o, cap', hv, hcap, hy, hE⟩
  · subst hvs
    have hn0 : n = 0 := by simpa using hn
    subst hn0
    have had : ad = none := by simpa using (Value.slice.inj hv).1
    subst had
    refine fin (cs := fun _ => undef) (by intro p hp; simp at hp) ?_
    intro F w hw
    simp [Builtin.firstCells, mulS_eq]
    rfl
  · have had : ad = some ⟨y.b, o, none⟩ := (Value.slice.inj hv).1
    subst had
    have hfit := hE.fit
    have hle : n * j.size ≤ vss.length * j.size := Nat.mul_le_mul_right _ hn
    refine fin (cs := fun p => y.c (o + p)) ?_ ?_
    · intro p hp
      have hfull := flat_len hR.1
      rw [hE.row.get p (by rw [hfull]; omega)]
      have : vss.flatten = (vss.take n).flatten ++ (vss.drop n).flatten := by rw [← List.flatten_append, List.take_append_drop]
      rw [this, List.getD_eq_getElem?_getD, List.getD_eq_getElem?_getD, List.getElem?_append_left (by omega)]
    · intro F w hw
      have := firstCells_run (P := C.P) hw (y := y) (.inl hy) (o := o) (l := n) (c := n) (m := n * j.size) (by omega) j.size n rfl
      rw [mulS_eq]
      have e : cellsFrom (fun p => y.c (o + p)) 0 (n * j.size) = cellsFrom y.c o (n * j.size) := by
        apply List.ext_getElem?
        intro p
        by_cases hp : p < n * j.size
        · rw [cellsFrom_get _ _ _ _ hp, cellsFrom_get _ _ _ _ hp, Nat.zero_add]
        · rw [List.getElem?_eq_none (by simp; omega), List.getElem?_eq_none (by simp; omega)]
      rw [e]; exact this
theorem OpG.appF1 {C : Cfg} {e : Env} {ty : TypeId} (hC : C.Ok) {s x : Operand} {ts tx : TypeId} {i i2 j : TI} {K : Post} {I : Ent → Prop} {ad : Option Addr} {cap n : Nat} {vss : List (List Value)} {L : List Ent} {tb tz tz2 : Nat} {Tt : TypeId} {tc : Nat → Value} {el : List Value}
    (hD : C.D ts = some i) (hk : i.kind = 4) (hj : C.D i.elem = some j) (hsz : j.size = tz) (hD2 : C.D tx = some i2) (hk2 : i2.kind = 4) (htz : tz2 = tz)
    (hs : ev e s = .slice ad n n) (hx : ev e x = sl tb 0 1 1) (hR : RowI I tz (.slice ad vss.length cap) vss) (hn : n ≤ vss.length) (hjs : 0 < tz) (hr : Row tc 0 el) (hel : el.length = tz) (hlen : vss.length < 2 ^ 20) (hby : j.bytes ≤ 2 ^ 20)
    (h : ∀ v' M', OwnL i.elem tz v' (vss.take n ++ [el]) M' → K v' ⟨I, L ++ M'⟩) : OpG C.P (.call ⟨.builtin .append, #[s, x], #[ts, tx]⟩) ty e ⟨I, ⟨tb, tz2, Tt, tc⟩ :: L⟩ K := by
  subst hsz htz
  exact OpG.appFirst hC hR hn hD hk hj hjs hD2 hk2 hs hx hr hel hlen hby h
theorem OpG.appFz {C : Cfg} {e : Env} {ty : TypeId} (hC : C.Ok) {s x : Operand} {ts tx : TypeId} {i i2 j : TI} {K : Post} {I : Ent → Prop} {ad : Option Addr} {cap n : Nat} {vss : List (List Value)} {L : List Ent} {tb tz tz2 : Nat} {Tt : TypeId} {tc : Nat → Value} {el : List Value}
    (hD : C.D ts = some i) (hk : i.kind = 4) (hj : C.D i.elem = some j) (hsz : j.size = tz) (hD2 : C.D tx = some i2) (hk2 : i2.kind = 4) (htz : tz2 = tz)
    (hs : ev e s = .slice ad n n) (hx : ev e x = sl tb 0 1 1) (hR : RowI I tz (.slice ad vss.length cap) vss) (hn : n ≤ vss.length) (hjs : 0 < tz) (hr : Row tc 0 el) (hel : el.length = tz) (hlen : vss.length < 2 ^ 20) (hby : j.bytes ≤ 2 ^ 20)
    (h : ∀ v' J, Sub I J → one v' = true → RowI J tz v' (vss.take n ++ [el]) → K v' ⟨J, L⟩) : OpG C.P (.call ⟨.builtin .append, #[s, x], #[ts, tx]⟩) ty e ⟨I, ⟨tb, tz2, Tt, tc⟩ :: L⟩ K := by
  refine OpG.post ?_
  refine OpG.appF1 hC hD hk hj hsz hD2 hk2 htz hs hx hR hn hjs hr hel hlen hby (L := L) ?_
  intro v' M' hO
  refine ⟨[], M', L, fun x => I x ∨ x ∈ M', by simpa using List.perm_append_comm, fun x => Iff.rfl, h v' _ (fun x hx => .inl hx) ?_ (hO.row fun x hx => .inr hx)⟩
  rcases hO.out with ⟨rfl, _⟩ | ⟨b, cap, c, rfl, _⟩ <;> rfl
end Go.HL
