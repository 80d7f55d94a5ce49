import Derived.Test.YgvafwGreatV19
import Derived.Test.YgvafwGreatY26
import Derived.Test.YgvafwGreatY28
import Derived.Test.YgvafwGreatY34
import Derived.Test.YgvafwGreatY18
set_option maxRecDepth 100000
set_option maxHeartbeats 4000000
set_option linter.unusedVariables false
set_option linter.unusedSimpArgs false
namespace Go.Proofs.YgvafwGreat
open Go.HL Go.Proofs

/-! ### What the lists answer, with no Go in sight -/
theorem mem_insA {a x : List Nat} : ∀ {l : List (List Nat)}, x ∈ insA a l ↔ x = a ∨ x ∈ l
  | [] => by simp [insA]
  | y :: l => by
    unfold insA
    split
    · simp
    · rw [List.mem_cons, mem_insA (l := l), List.mem_cons]
      constructor
      · rintro (h | h | h) <;> simp [h]
      · rintro (h | h | h) <;> simp [h]
theorem mem_withA {a x : List Nat} {l : List (List Nat)} : x ∈ withA a l ↔ x = a ∨ x ∈ l := by
  unfold withA
  split
  · rename_i h
    constructor
    · exact .inr
    · rintro (rfl | h')
      · exact h
      · exact h'
  · exact mem_insA
theorem find_putL {a : YA} {b : List Nat} : ∀ (l : List YA) (laid : Bool), (putL a laid l).find? (fun x => x.addr == b) = if a.addr = b then (if laid then none else some a) else l.find? (fun x => x.addr == b)
  | [], laid => by
    unfold putL
    cases laid
    · by_cases h : a.addr = b
      · simp [h]
      · simp [h]
    · simp
  | x :: l, laid => by
    have ih := find_putL (a := a) (b := b) l (laid || !ltL x.addr a.addr)
    unfold putL
    rw [List.find?_append, List.find?_append, ih]
    by_cases h : a.addr = b
    · subst h
      by_cases hx : x.addr = a.addr
      · cases laid <;> cases ltL x.addr a.addr <;> simp [hx]
      · cases laid <;> cases ltL x.addr a.addr <;> simp [hx]
    · have h1 : (a.addr == b) = false := by simpa using h
      by_cases hx : x.addr = a.addr
      · have h2 : (x.addr == b) = false := by rw [hx]; exact h1
        cases laid <;> cases ltL x.addr a.addr <;> simp [h, h1, h2, hx, List.find?_cons]
      · rw [if_neg hx]; cases laid <;> cases ltL x.addr a.addr <;> cases h3 : (x.addr == b) <;> simp [h, h1, h3, List.find?_cons]
theorem getA_put {a : YA} {b : List Nat} {al : List YA} : getA (putA a al) b = if a.addr = b then a else getA al b := by
  unfold getA putA
  rw [find_putL]
  by_cases h : a.addr = b
  · subst h
    rw [if_pos rfl, if_pos rfl]
    cases hn : noA a
    · rfl
    · obtain ⟨ad, no, ba, co, sl⟩ := a
      simp [noA, emptyA] at hn
      obtain ⟨⟨rfl, rfl, rfl⟩, rfl⟩ := hn
      rfl
  · rw [if_neg h, if_neg h]
theorem find_storeS {k v j : Nat} : ∀ (l : List (Nat × Nat)) (laid : Bool), (storeS k v laid l).find? (fun s => s.1 == j) = if k = j then (if laid then none else some (k, v)) else l.find? (fun s => s.1 == j)
  | [], laid => by
    unfold storeS
    cases laid
    · by_cases h : k = j
      · simp [h]
      · simp [h]
    · simp
  | x :: l, laid => by
    have ih := find_storeS (k := k) (v := v) (j := j) l (laid || decide (k ≤ x.1))
    unfold storeS
    rw [List.find?_append, List.find?_append, ih]
    by_cases h : k = j
    · subst h
      by_cases hx : x.1 = k
      · cases laid <;> cases decide (k ≤ x.1) <;> simp [hx]
      · cases laid <;> cases decide (k ≤ x.1) <;> simp [hx]
    · have h1 : (k == j) = false := by simpa using h
      by_cases hx : x.1 = k
      · have h2 : (x.1 == j) = false := by rw [hx]; exact h1
        cases laid <;> cases decide (k ≤ x.1) <;> simp [h, h1, h2, hx, List.find?_cons]
      · rw [if_neg hx]; cases laid <;> cases decide (k ≤ x.1) <;> cases h3 : (x.1 == j) <;> simp [h, h1, h3, List.find?_cons]
theorem load_store {k v j : Nat} {l : List (Nat × Nat)} : loadS (storeS k v (decide (v = 0)) l) j = if k = j then v else loadS l j := by
  unfold loadS
  rw [find_storeS]
  by_cases h : k = j
  · rw [if_pos h, if_pos h]
    by_cases hv : v = 0
    · simp [hv]
    · simp [hv]
  · rw [if_neg h, if_neg h]
theorem find_tstT {t : TM} {a : List Nat} {k : Nat} : ∀ (l : List TM) (laid : Bool), findT a k (tstT t laid l) = if t.1 = a ∧ t.2.1 = k then (if laid then none else some t) else findT a k l
  | [], laid => by
    unfold tstT findT
    cases laid
    · by_cases h : t.1 = a ∧ t.2.1 = k
      · simp [h]
      · rw [if_neg h]
        have : (t.1 == a && t.2.1 == k) = false := by
          rw [Bool.and_eq_false_iff]
          by_cases h1 : t.1 = a
          · right; simpa using fun h2 => h ⟨h1, h2⟩
          · left; simpa using h1
        simp [this]
    · simp
  | x :: l, laid => by
    have ih := find_tstT (t := t) (a := a) (k := k) l (laid || insT t x)
    unfold findT at ih ⊢
    unfold tstT
    rw [List.find?_append, List.find?_append, ih]
    by_cases h : t.1 = a ∧ t.2.1 = k
    · obtain ⟨rfl, rfl⟩ := h
      by_cases hx : sameT t x = true
      · cases laid <;> cases insT t x <;> simp [hx]
      · have hx' : (x.1 == t.1 && x.2.1 == t.2.1) = false := by
          rw [← Bool.not_eq_true]; intro hc; apply hx; simpa [sameT] using hc
        cases laid <;> cases insT t x <;> simp [hx, hx', List.find?_cons]
    · have h1 : (t.1 == a && t.2.1 == k) = false := by
        rw [Bool.and_eq_false_iff]
        by_cases h1 : t.1 = a
        · right; simpa using fun h2 => h ⟨h1, h2⟩
        · left; simpa using h1
      rw [if_neg h, if_neg h]
      by_cases hx : sameT t x = true
      · have h2 : (x.1 == a && x.2.1 == k) = false := by
          simp only [sameT, Bool.and_eq_true, decide_eq_true_eq] at hx
          rw [hx.1, hx.2]; exact h1
        cases laid <;> cases insT t x <;> simp [h1, h2, hx, List.find?_cons]
      · cases laid <;> cases insT t x <;> cases h3 : (x.1 == a && x.2.1 == k) <;> simp [h1, hx, h3, List.find?_cons]
theorem val_tst {a b : List Nat} {k v j : Nat} {l : List TM} : valT (findT b j (tstT (a, k, v) (decide (v = 0)) l)) = if a = b ∧ k = j then v else valT (findT b j l) := by
  rw [find_tstT]
  by_cases h : a = b ∧ k = j
  · rw [if_pos h, if_pos h]
    by_cases hv : v = 0
    · simp [valT, hv]
    · simp [valT, hv]
  · rw [if_neg h, if_neg h]
theorem find_insM {t : TM} {a : List Nat} {k : Nat} : ∀ (l : List TM), (findT a k (insM t l)).isSome = (decide (t.1 = a ∧ t.2.1 = k) || (findT a k l).isSome)
  | [] => by
    unfold insM findT
    by_cases h1 : t.1 = a <;> by_cases h2 : t.2.1 = k <;> simp [h1, h2, List.find?_cons]
  | x :: l => by
    have ih := find_insM (t := t) (a := a) (k := k) l
    unfold findT at ih ⊢
    unfold insM
    split
    · rw [List.find?_cons]
      have e : (t.1 == a && t.2.1 == k) = decide (t.1 = a ∧ t.2.1 = k) := by
        by_cases h1 : t.1 = a <;> by_cases h2 : t.2.1 = k <;> simp [h1, h2]
      rw [e]
      cases decide (t.1 = a ∧ t.2.1 = k) <;> simp
    · rw [List.find?_cons, List.find?_cons]
      split
      · simp
      · exact ih
theorem find_warmM {t : TM} {a : List Nat} {k : Nat} {l : List TM} : (findT a k (warmM t l)).isSome = (decide (t.1 = a ∧ t.2.1 = k) || (findT a k l).isSome) := by
  unfold warmM
  split
  · rename_i h
    by_cases h2 : t.1 = a ∧ t.2.1 = k
    · obtain ⟨rfl, rfl⟩ := h2
      rw [h]; simp
    · rw [decide_eq_false h2, Bool.false_or]
  · exact find_insM l

/-! ### What the vault answers, with no Go in sight -/
def lk {α κ : Type} [BEq κ] (f : α → κ) (d : α) (l : List α) (k : κ) : α := l.getD (l.findIdx fun x => f x == k) d
theorem lk_nil {α κ : Type} [BEq κ] (f : α → κ) (d : α) (k : κ) : lk f d [] k = d := rfl
theorem lk_cons {α κ : Type} [BEq κ] [LawfulBEq κ] [DecidableEq κ] (f : α → κ) (d y : α) (l : List α) (k : κ) : lk f d (y :: l) k = if f y = k then y else lk f d l k := by
  unfold lk
  rw [List.findIdx_cons]
  by_cases h : f y = k
  · have : (f y == k) = true := by simpa using h
    rw [this, if_pos h]; rfl
  · have : (f y == k) = false := by simpa using h
    rw [this, if_neg h]; rfl
theorem fi_cons {α κ : Type} [BEq κ] [LawfulBEq κ] [DecidableEq κ] (f : α → κ) (y : α) (l : List α) (k : κ) : (y :: l).findIdx (fun x => f x == k) = if f y = k then 0 else (l.findIdx fun x => f x == k) + 1 := by
  rw [List.findIdx_cons]
  by_cases h : f y = k
  · have : (f y == k) = true := by simpa using h
    rw [this, if_pos h]; rfl
  · have : (f y == k) = false := by simpa using h
    rw [this, if_neg h]; rfl
theorem lk_set {α κ : Type} [BEq κ] [LawfulBEq κ] [DecidableEq κ] (f : α → κ) (d x : α) (k : κ) (hx : f x = k) (j : κ) : ∀ (l : List α), (l.findIdx fun y => f y == k) < l.length → lk f d (l.set (l.findIdx fun y => f y == k) x) j = if k = j then x else lk f d l j
  | [], h => by simp at h
  | y :: l, h => by
    rw [fi_cons] at h ⊢
    by_cases hy : f y = k
    · rw [if_pos hy, List.set_cons_zero, lk_cons, lk_cons, hx, hy]
      by_cases hj : k = j <;> simp [hj]
    · rw [if_neg hy] at h ⊢
      rw [List.set_cons_succ, lk_cons, lk_cons]
      have ih := lk_set f d x k hx j l (by simpa using h)
      rw [ih]
      by_cases hj : k = j
      · subst hj; rw [if_neg hy, if_pos rfl, if_pos rfl]
      · rw [if_neg hj, if_neg hj]
theorem lk_app {α κ : Type} [BEq κ] [LawfulBEq κ] [DecidableEq κ] (f : α → κ) (d : α) (j : κ) (X : List α) : ∀ (l : List α), ((l.findIdx fun y => f y == j) < l.length → lk f d (l ++ X) j = lk f d l j) ∧ (¬ (l.findIdx fun y => f y == j) < l.length → lk f d (l ++ X) j = lk f d X j ∧ lk f d l j = d)
  | [] => ⟨fun h => by simp at h, fun _ => ⟨rfl, rfl⟩⟩
  | y :: l => by
    obtain ⟨h1, h2⟩ := lk_app f d j X l
    rw [fi_cons]
    by_cases hy : f y = j
    · rw [if_pos hy]
      refine ⟨fun _ => ?_, fun h => absurd (Nat.succ_pos _) h⟩
      rw [List.cons_append, lk_cons, lk_cons, if_pos hy, if_pos hy]
    · rw [if_neg hy]
      refine ⟨fun h => ?_, fun h => ?_⟩
      · rw [List.cons_append, lk_cons, lk_cons, if_neg hy, if_neg hy, h1 (by simpa using h)]
      · rw [List.cons_append, lk_cons, lk_cons, if_neg hy, if_neg hy]
        exact h2 (by simpa using h)
theorem fi_app {α κ : Type} [BEq κ] [LawfulBEq κ] [DecidableEq κ] (f : α → κ) (k : κ) (x : α) (hx : f x = k) : ∀ (l : List α), ¬ (l.findIdx fun y => f y == k) < l.length → ((l ++ [x]).findIdx fun y => f y == k) = l.length ∧ (l.findIdx fun y => f y == k) = l.length
  | [], _ => by simp [List.findIdx_cons, hx]
  | y :: l, h => by
    rw [fi_cons] at h
    by_cases hy : f y = k
    · rw [if_pos hy] at h; exact absurd (Nat.succ_pos _) h
    · rw [if_neg hy] at h
      obtain ⟨h1, h2⟩ := fi_app f k x hx l (by simpa using h)
      rw [List.cons_append, fi_cons, fi_cons, if_neg hy, if_neg hy, h1, h2]
      exact ⟨rfl, rfl⟩
theorem lk_mem {α κ : Type} [BEq κ] [LawfulBEq κ] [DecidableEq κ] (f : α → κ) (d : α) (k : κ) : ∀ (l : List α), (lk f d l k ∈ l ∧ f (lk f d l k) = k) ∨ lk f d l k = d
  | [] => .inr rfl
  | y :: l => by
    rw [lk_cons]
    by_cases hy : f y = k
    · rw [if_pos hy]; exact .inl ⟨List.mem_cons_self, hy⟩
    · rw [if_neg hy]
      rcases lk_mem f d k l with ⟨h1, h2⟩ | h
      · exact .inl ⟨List.mem_cons_of_mem _ h1, h2⟩
      · exact .inr h
theorem Vl.acc_lk (V : Vl) (a : List Nat) : V.acc a = lk VA.ad dVA V.ac a := rfl
theorem Vl.slt_lk (V : Vl) (k : Nat) : V.slt k = lk VSl.key dVS V.sl k := rfl
theorem Vl.tmp_lk (V : Vl) (k : Nat) : V.tmp k = lk VTp.key dVT V.tp k := rfl
theorem setA_acc {V : Vl} {a : List Nat} {t : Nat → Int} {x : VA} {e : VE} (hx : x.ad = a) (b : List Nat) : (V.setA a t x e).acc b = if a = b then x else V.acc b := by
  rw [Vl.acc_lk, Vl.acc_lk]
  show lk VA.ad dVA ((V.ent a t).ac.set (V.ix a) x) b = _
  unfold Vl.ent
  by_cases h : V.ix a < V.ac.length
  · rw [if_pos h]; exact lk_set VA.ad dVA x a hx b V.ac h
  · rw [if_neg h]
    obtain ⟨h1, h2⟩ := fi_app VA.ad a (newA a) rfl V.ac h
    show lk VA.ad dVA ((V.ac ++ [newA a]).set (V.ix a) x) b = _
    have h3 : V.ix a = ((V.ac ++ [newA a]).findIdx fun y => y.ad == a) := by rw [h1]; exact h2
    rw [h3, lk_set VA.ad dVA x a hx b _ (by rw [h1]; simp)]
    by_cases hb : a = b
    · rw [if_pos hb, if_pos hb]
    · rw [if_neg hb, if_neg hb]
      obtain ⟨g1, g2⟩ := lk_app VA.ad dVA b [newA a] V.ac
      by_cases hf : (V.ac.findIdx fun y => y.ad == b) < V.ac.length
      · exact g1 hf
      · obtain ⟨g3, g4⟩ := g2 hf
        rw [g3, g4, lk_cons]; exact if_neg hb
theorem setS_slt {V : Vl} {a : Nat} {t : Nat → Int} {x : VSl} {e : VE} (hx : x.key = a) (b : Nat) : (V.setS a t x e).slt b = if a = b then x else V.slt b := by
  rw [Vl.slt_lk, Vl.slt_lk]
  show lk VSl.key dVS ((V.ens a t).sl.set (V.is a) x) b = _
  unfold Vl.ens
  by_cases h : V.is a < V.sl.length
  · rw [if_pos h]; exact lk_set VSl.key dVS x a hx b V.sl h
  · rw [if_neg h]
    obtain ⟨h1, h2⟩ := fi_app VSl.key a (newS a) rfl V.sl h
    show lk VSl.key dVS ((V.sl ++ [newS a]).set (V.is a) x) b = _
    have h3 : V.is a = ((V.sl ++ [newS a]).findIdx fun y => y.key == a) := by rw [h1]; exact h2
    rw [h3, lk_set VSl.key dVS x a hx b _ (by rw [h1]; simp)]
    by_cases hb : a = b
    · rw [if_pos hb, if_pos hb]
    · rw [if_neg hb, if_neg hb]
      obtain ⟨g1, g2⟩ := lk_app VSl.key dVS b [newS a] V.sl
      by_cases hf : (V.sl.findIdx fun y => y.key == b) < V.sl.length
      · exact g1 hf
      · obtain ⟨g3, g4⟩ := g2 hf
        rw [g3, g4, lk_cons]; exact if_neg hb
theorem setT_tmp {V : Vl} {a : Nat} {t : Nat → Int} {x : VTp} {e : VE} (hx : x.key = a) (b : Nat) : (V.setT a t x e).tmp b = if a = b then x else V.tmp b := by
  rw [Vl.tmp_lk, Vl.tmp_lk]
  show lk VTp.key dVT ((V.ete a t).tp.set (V.it a) x) b = _
  unfold Vl.ete
  by_cases h : V.it a < V.tp.length
  · rw [if_pos h]; exact lk_set VTp.key dVT x a hx b V.tp h
  · rw [if_neg h]
    obtain ⟨h1, h2⟩ := fi_app VTp.key a (newT a) rfl V.tp h
    show lk VTp.key dVT ((V.tp ++ [newT a]).set (V.it a) x) b = _
    have h3 : V.it a = ((V.tp ++ [newT a]).findIdx fun y => y.key == a) := by rw [h1]; exact h2
    rw [h3, lk_set VTp.key dVT x a hx b _ (by rw [h1]; simp)]
    by_cases hb : a = b
    · rw [if_pos hb, if_pos hb]
    · rw [if_neg hb, if_neg hb]
      obtain ⟨g1, g2⟩ := lk_app VTp.key dVT b [newT a] V.tp
      by_cases hf : (V.tp.findIdx fun y => y.key == b) < V.tp.length
      · exact g1 hf
      · obtain ⟨g3, g4⟩ := g2 hf
        rw [g3, g4, lk_cons]; exact if_neg hb
/-! ### A vault with blank entries behind -/
def blA (x : VA) : Prop := x.nonce = 0 ∧ x.bal = 0 ∧ x.code = [] ∧ x.warm = false ∧ x.made = false ∧ x.gone = false
def blS (x : VSl) : Prop := x.val = 0 ∧ x.orig = 0 ∧ x.warm = false
def blT (x : VTp) : Prop := x.val = 0
structure Ext (V W : Vl) : Prop where
  ac : ∃ X, W.ac = V.ac ++ X ∧ ∀ x ∈ X, blA x
  sl : ∃ X, W.sl = V.sl ++ X ∧ ∀ x ∈ X, blS x
  tp : ∃ X, W.tp = V.tp ++ X ∧ ∀ x ∈ X, blT x
  jr : W.jr = V.jr
  nm : W.nm = V.nm
  mq : W.mq = V.mq
  rf : W.rf = V.rf
  lg : W.lg = V.lg
theorem Ext.refl (V : Vl) : Ext V V := ⟨⟨[], by simp⟩, ⟨[], by simp⟩, ⟨[], by simp⟩, rfl, rfl, rfl, rfl, rfl⟩
theorem Ext.ent (V : Vl) (a : List Nat) (t : Nat → Int) : Ext V (V.ent a t) := by
  unfold Vl.ent
  split
  · exact Ext.refl V
  · exact ⟨⟨[newA a], rfl, by simp [blA, newA]⟩, ⟨[], by simp⟩, ⟨[], by simp⟩, rfl, rfl, rfl, rfl, rfl⟩
theorem Ext.ens (V : Vl) (a : Nat) (t : Nat → Int) : Ext V (V.ens a t) := by
  unfold Vl.ens
  split
  · exact Ext.refl V
  · exact ⟨⟨[], by simp⟩, ⟨[newS a], rfl, by simp [blS, newS]⟩, ⟨[], by simp⟩, rfl, rfl, rfl, rfl, rfl⟩
theorem Ext.ete (V : Vl) (a : Nat) (t : Nat → Int) : Ext V (V.ete a t) := by
  unfold Vl.ete
  split
  · exact Ext.refl V
  · exact ⟨⟨[], by simp⟩, ⟨[], by simp⟩, ⟨[newT a], rfl, by simp [blT, newT]⟩, rfl, rfl, rfl, rfl, rfl⟩
theorem set_left {α : Type} {l X : List α} {i : Nat} {d : α} {g : α → α} (h : i < l.length) : (l ++ X).set i (g ((l ++ X).getD i d)) = l.set i (g (l.getD i d)) ++ X := by
  rw [List.set_append_left _ _ h, List.getD_eq_getElem?_getD, List.getD_eq_getElem?_getD, List.getElem?_append_left h]
theorem Ext.undo {V W : Vl} {e : VE} (h : Ext V W) (he : EOk V e) : Ext (undo1 V e) (undo1 W e) := by
  obtain ⟨⟨X, hX, bX⟩, ⟨Y, hY, bY⟩, ⟨Z, hZ, bZ⟩, h1, h2, h3, h4, h5⟩ := h
  unfold undo1
  by_cases c3 : e.kd = 3
  · rw [if_pos c3, if_pos c3]
    exact ⟨⟨X, hX, bX⟩, ⟨Y, by show W.sl.set _ _ = V.sl.set _ _ ++ Y; rw [hY]; exact set_left (d := dVS) (g := fun y => { y with val := e.w }) (he.sl (.inl c3)), bY⟩, ⟨Z, hZ, bZ⟩, h1, h2, h3, h4, h5⟩
  rw [if_neg c3, if_neg c3]
  by_cases c4 : e.kd = 4
  · rw [if_pos c4, if_pos c4]
    exact ⟨⟨X, by show W.ac.set _ _ = V.ac.set _ _ ++ X; rw [hX]; exact set_left (d := dVA) (g := fun y => { y with warm := e.fl }) (he.ac (.inl c4)), bX⟩, ⟨Y, hY, bY⟩, ⟨Z, hZ, bZ⟩, h1, h2, h3, h4, h5⟩
  rw [if_neg c4, if_neg c4]
  by_cases c5 : e.kd = 5
  · rw [if_pos c5, if_pos c5]
    exact ⟨⟨X, hX, bX⟩, ⟨Y, by show W.sl.set _ _ = V.sl.set _ _ ++ Y; rw [hY]; exact set_left (d := dVS) (g := fun y => { y with warm := e.fl }) (he.sl (.inr c5)), bY⟩, ⟨Z, hZ, bZ⟩, h1, h2, h3, h4, h5⟩
  rw [if_neg c5, if_neg c5]
  by_cases c6 : e.kd = 6
  · rw [if_pos c6, if_pos c6]
    exact ⟨⟨X, hX, bX⟩, ⟨Y, hY, bY⟩, ⟨Z, hZ, bZ⟩, h1, h2, h3, rfl, h5⟩
  rw [if_neg c6, if_neg c6]
  by_cases c7 : e.kd = 7
  · rw [if_pos c7, if_pos c7]
    exact ⟨⟨X, hX, bX⟩, ⟨Y, hY, bY⟩, ⟨Z, hZ, bZ⟩, h1, h2, h3, h4, by show W.lg.dropLast = V.lg.dropLast; rw [h5]⟩
  rw [if_neg c7, if_neg c7]
  by_cases c8 : e.kd = 8
  · rw [if_pos c8, if_pos c8]
    exact ⟨⟨X, hX, bX⟩, ⟨Y, hY, bY⟩, ⟨Z, by show W.tp.set _ _ = V.tp.set _ _ ++ Z; rw [hZ]; exact set_left (d := dVT) (g := fun y => { y with val := e.w }) (he.tp c8), bZ⟩, h1, h2, h3, h4, h5⟩
  rw [if_neg c8, if_neg c8]
  by_cases c1 : e.kd = 1
  · rw [if_pos c1, if_pos c1]
    exact ⟨⟨X, by show W.ac.set _ _ = V.ac.set _ _ ++ X; rw [hX]; exact set_left (d := dVA) (g := fun y => { y with nonce := e.n }) (he.ac (.inr (.inl c1))), bX⟩, ⟨Y, hY, bY⟩, ⟨Z, hZ, bZ⟩, h1, h2, h3, h4, h5⟩
  rw [if_neg c1, if_neg c1]
  by_cases c9 : e.kd = 9
  · rw [if_pos c9, if_pos c9]
    exact ⟨⟨X, by show W.ac.set _ _ = V.ac.set _ _ ++ X; rw [hX]; exact set_left (d := dVA) (g := fun y => { y with made := e.fl }) (he.ac (.inr (.inr c9))), bX⟩, ⟨Y, hY, bY⟩, ⟨Z, hZ, bZ⟩, h1, h2, h3, h4, h5⟩
  rw [if_neg c9, if_neg c9]
  exact ⟨⟨X, hX, bX⟩, ⟨Y, hY, bY⟩, ⟨Z, hZ, bZ⟩, h1, h2, h3, h4, h5⟩
theorem Ext.eok {V W : Vl} {e : VE} (h : Ext V W) (he : EOk V e) : EOk W e := by
  obtain ⟨X, hX, _⟩ := h.ac
  obtain ⟨Y, hY, _⟩ := h.sl
  obtain ⟨Z, hZ, _⟩ := h.tp
  refine ⟨he.kd, fun c => ?_, fun c => ?_, fun c => ?_, fun c => by rw [h.lg]; exact he.lg c⟩
  · have := he.ac c; rw [hX, List.length_append]; omega
  · have := he.sl c; rw [hY, List.length_append]; omega
  · have := he.tp c; rw [hZ, List.length_append]; omega
theorem Ext.pop1 {V W : Vl} (h : Ext V W) (he : EOk V (V.jr.getD (V.jr.length - 1) dVE)) : Ext (pop1 V) (pop1 W) := by
  unfold Go.Proofs.YgvafwGreat.pop1
  rw [h.jr]
  have := h.undo he
  exact ⟨this.ac, this.sl, this.tp, rfl, this.nm, this.mq, this.rf, this.lg⟩
theorem Ext.popN : ∀ (k : Nat) {V W : Vl}, Ext V W → PopOk k V → Ext (popN k V) (popN k W) ∧ PopOk k W
  | 0, V, W, h, _ => ⟨h, trivial⟩
  | k + 1, V, W, h, hp => by
    obtain ⟨h1, h2⟩ := hp
    obtain ⟨g1, g2⟩ := Ext.popN k (h.pop1 h1) h2
    exact ⟨g1, by rw [h.jr]; exact h.eok h1, g2⟩
theorem Ext.acc {V W : Vl} (h : Ext V W) (a : List Nat) : W.acc a = V.acc a ∨ (blA (W.acc a) ∧ blA (V.acc a)) := by
  obtain ⟨X, hX, bX⟩ := h.ac
  obtain ⟨h1, h2⟩ := lk_app VA.ad dVA a X V.ac
  rw [Vl.acc_lk, Vl.acc_lk, hX]
  by_cases hf : (V.ac.findIdx fun y => y.ad == a) < V.ac.length
  · exact .inl (h1 hf)
  · obtain ⟨h3, h4⟩ := h2 hf
    rw [h3, h4]
    refine .inr ⟨?_, rfl, rfl, rfl, rfl, rfl, rfl⟩
    rcases lk_mem VA.ad dVA a X with ⟨h5, _⟩ | h5
    · exact bX _ h5
    · rw [h5]; exact ⟨rfl, rfl, rfl, rfl, rfl, rfl⟩
theorem Ext.slt {V W : Vl} (h : Ext V W) (a : Nat) : W.slt a = V.slt a ∨ (blS (W.slt a) ∧ blS (V.slt a)) := by
  obtain ⟨X, hX, bX⟩ := h.sl
  obtain ⟨h1, h2⟩ := lk_app VSl.key dVS a X V.sl
  rw [Vl.slt_lk, Vl.slt_lk, hX]
  by_cases hf : (V.sl.findIdx fun y => y.key == a) < V.sl.length
  · exact .inl (h1 hf)
  · obtain ⟨h3, h4⟩ := h2 hf
    rw [h3, h4]
    refine .inr ⟨?_, rfl, rfl, rfl⟩
    rcases lk_mem VSl.key dVS a X with ⟨h5, _⟩ | h5
    · exact bX _ h5
    · rw [h5]; exact ⟨rfl, rfl, rfl⟩
theorem Ext.tmp {V W : Vl} (h : Ext V W) (a : Nat) : W.tmp a = V.tmp a ∨ (blT (W.tmp a) ∧ blT (V.tmp a)) := by
  obtain ⟨X, hX, bX⟩ := h.tp
  obtain ⟨h1, h2⟩ := lk_app VTp.key dVT a X V.tp
  rw [Vl.tmp_lk, Vl.tmp_lk, hX]
  by_cases hf : (V.tp.findIdx fun y => y.key == a) < V.tp.length
  · exact .inl (h1 hf)
  · obtain ⟨h3, h4⟩ := h2 hf
    rw [h3, h4]
    refine .inr ⟨?_, rfl⟩
    rcases lk_mem VTp.key dVT a X with ⟨h5, _⟩ | h5
    · exact bX _ h5
    · rw [h5]; rfl
/-! ### The vault bears the world -/
structure RW (K : YK) (V : Vl) (w : YW) : Prop where
  acc : ∀ a, (getA w.al a).nonce = (V.acc a).nonce ∧ (getA w.al a).bal = (V.acc a).bal ∧ (getA w.al a).code = (V.acc a).code
  wrm : ∀ a, (V.acc a).warm = true ↔ a ∈ w.wa
  mgn : ∀ a, ((V.acc a).made = true ↔ a ∈ w.md) ∧ (V.acc a).gone = false
  slo : ∀ k, loadS (getA w.al K.self).slots k = (V.slt k).val
  sor : ∀ k, (V.slt k).orig = 0
  swm : ∀ k, (V.slt k).warm = (findT K.self k w.ms).isSome
  tmp : ∀ k, valT (findT K.self k w.tp) = (V.tmp k).val
  rf : w.rf = V.rf
  lg : w.lg = V.lg
  x0 : ∃ y l, V.ac = y :: l ∧ y.ad = K.self
theorem RW.ext {K : YK} {V W : Vl} {w : YW} (h : RW K V w) (he : Ext V W) : RW K W w := by
  refine ⟨fun a => ?_, fun a => ?_, fun a => ?_, fun k => ?_, fun k => ?_, fun k => ?_, fun k => ?_, by rw [he.rf]; exact h.rf, by rw [he.lg]; exact h.lg, ?_⟩
  · rcases he.acc a with e | ⟨⟨a1, a2, a3, _⟩, b1, b2, b3, _⟩
    · rw [e]; exact h.acc a
    · rw [a1, a2, a3]; have := h.acc a; rw [b1, b2, b3] at this; exact this
  · rcases he.acc a with e | ⟨⟨_, _, _, a4, _⟩, _, _, _, b4, _⟩
    · rw [e]; exact h.wrm a
    · rw [a4]; have := h.wrm a; rw [b4] at this; exact this
  · rcases he.acc a with e | ⟨⟨_, _, _, _, a5, a6⟩, _, _, _, _, b5, _⟩
    · rw [e]; exact h.mgn a
    · rw [a5]; have := (h.mgn a).1; rw [b5] at this; exact ⟨this, a6⟩
  · rcases he.slt k with e | ⟨⟨a1, _⟩, b1, _⟩
    · rw [e]; exact h.slo k
    · rw [a1, ← b1]; exact h.slo k
  · rcases he.slt k with e | ⟨⟨_, a1, _⟩, _⟩
    · rw [e]; exact h.sor k
    · exact a1
  · rcases he.slt k with e | ⟨⟨_, _, a1⟩, _, _, b1⟩
    · rw [e]; exact h.swm k
    · rw [a1, ← b1]; exact h.swm k
  · rcases he.tmp k with e | ⟨a1, b1⟩
    · rw [e]; exact h.tmp k
    · rw [a1, ← b1]; exact h.tmp k
  · obtain ⟨y, l, h1, h2⟩ := h.x0
    obtain ⟨X, hX, _⟩ := he.ac
    exact ⟨y, l ++ X, by rw [hX, h1]; rfl, h2⟩

/-! ### The vault's moves and the world's -/
theorem lk_found {α κ : Type} [BEq κ] [LawfulBEq κ] [DecidableEq κ] (f : α → κ) (d : α) (k : κ) : ∀ (l : List α), (l.findIdx fun y => f y == k) < l.length → f (lk f d l k) = k
  | [], h => by simp at h
  | y :: l, h => by
    rw [lk_cons]
    rw [fi_cons] at h
    by_cases hy : f y = k
    · rw [if_pos hy]; exact hy
    · rw [if_neg hy] at h ⊢; exact lk_found f d k l (by simpa using h)
theorem lk_none {α κ : Type} [BEq κ] [LawfulBEq κ] [DecidableEq κ] (f : α → κ) (d : α) (k : κ) (l : List α) (h : ¬ (l.findIdx fun y => f y == k) < l.length) : lk f d l k = d := ((lk_app f d k [] l).2 h).2
theorem Vl.acc'_ad (V : Vl) (a : List Nat) : (V.acc' a).ad = a := by
  unfold Vl.acc'
  split
  · rename_i h; exact lk_found VA.ad dVA a V.ac h
  · rfl
theorem Vl.slt'_key (V : Vl) (a : Nat) : (V.slt' a).key = a := by
  unfold Vl.slt'
  split
  · rename_i h; exact lk_found VSl.key dVS a V.sl h
  · rfl
theorem Vl.tmp'_key (V : Vl) (a : Nat) : (V.tmp' a).key = a := by
  unfold Vl.tmp'
  split
  · rename_i h; exact lk_found VTp.key dVT a V.tp h
  · rfl
theorem Vl.acc'_eq (V : Vl) (a : List Nat) : (V.acc' a).nonce = (V.acc a).nonce ∧ (V.acc' a).bal = (V.acc a).bal ∧ (V.acc' a).code = (V.acc a).code ∧ (V.acc' a).warm = (V.acc a).warm ∧ (V.acc' a).made = (V.acc a).made ∧ (V.acc' a).gone = (V.acc a).gone := by
  unfold Vl.acc'
  split
  · exact ⟨rfl, rfl, rfl, rfl, rfl, rfl⟩
  · rename_i h
    rw [Vl.acc_lk, lk_none VA.ad dVA a V.ac h]; exact ⟨rfl, rfl, rfl, rfl, rfl, rfl⟩
theorem Vl.slt'_eq (V : Vl) (a : Nat) : (V.slt' a).val = (V.slt a).val ∧ (V.slt' a).orig = (V.slt a).orig ∧ (V.slt' a).warm = (V.slt a).warm := by
  unfold Vl.slt'
  split
  · exact ⟨rfl, rfl, rfl⟩
  · rename_i h
    rw [Vl.slt_lk, lk_none VSl.key dVS a V.sl h]; exact ⟨rfl, rfl, rfl⟩
theorem Vl.tmp'_eq (V : Vl) (a : Nat) : (V.tmp' a).val = (V.tmp a).val := by
  unfold Vl.tmp'
  split
  · rfl
  · rename_i h
    rw [Vl.tmp_lk, lk_none VTp.key dVT a V.tp h]; rfl
theorem Vl.ent_ac (V : Vl) (a : List Nat) (t : Nat → Int) : V.ix a < (V.ent a t).ac.length ∧ (V.ent a t).ac.getD (V.ix a) dVA = V.acc' a := by
  unfold Vl.ent Vl.acc'
  by_cases h : V.ix a < V.ac.length
  · rw [if_pos h, if_pos h]; exact ⟨h, rfl⟩
  · rw [if_neg h, if_neg h]
    have h2 : V.ix a = V.ac.length := (fi_app VA.ad a (newA a) rfl V.ac h).2
    show V.ix a < (V.ac ++ [newA a]).length ∧ (V.ac ++ [newA a]).getD (V.ix a) dVA = _
    rw [h2]; simp
theorem Vl.ens_sl (V : Vl) (a : Nat) (t : Nat → Int) : V.is a < (V.ens a t).sl.length ∧ (V.ens a t).sl.getD (V.is a) dVS = V.slt' a := by
  unfold Vl.ens Vl.slt'
  by_cases h : V.is a < V.sl.length
  · rw [if_pos h, if_pos h]; exact ⟨h, rfl⟩
  · rw [if_neg h, if_neg h]
    have h2 : V.is a = V.sl.length := (fi_app VSl.key a (newS a) rfl V.sl h).2
    show V.is a < (V.sl ++ [newS a]).length ∧ (V.sl ++ [newS a]).getD (V.is a) dVS = _
    rw [h2]; simp
theorem Vl.ete_tp (V : Vl) (a : Nat) (t : Nat → Int) : V.it a < (V.ete a t).tp.length ∧ (V.ete a t).tp.getD (V.it a) dVT = V.tmp' a := by
  unfold Vl.ete Vl.tmp'
  by_cases h : V.it a < V.tp.length
  · rw [if_pos h, if_pos h]; exact ⟨h, rfl⟩
  · rw [if_neg h, if_neg h]
    have h2 : V.it a = V.tp.length := (fi_app VTp.key a (newT a) rfl V.tp h).2
    show V.it a < (V.tp ++ [newT a]).length ∧ (V.tp ++ [newT a]).getD (V.it a) dVT = _
    rw [h2]; simp
theorem set_set_same {α : Type} {l : List α} {i : Nat} {d x y : α} (h : i < l.length) (hy : y = l.getD i d) : (l.set i x).set i y = l := by
  subst hy
  rw [List.set_set]
  apply List.ext_getElem?
  intro j
  rw [List.getElem?_set]
  split
  · rename_i e; subst e; rw [List.getD_eq_getElem?_getD, List.getElem?_eq_getElem h]; rfl
  · rfl
theorem set_get {α : Type} {l : List α} {i : Nat} {d x : α} (h : i < l.length) : (l.set i x).getD i d = x := by
  rw [List.getD_eq_getElem?_getD, List.getElem?_set_self h]; rfl
theorem jr_last {l : List VE} {e : VE} : (l ++ [e]).getD ((l ++ [e]).length - 1) dVE = e ∧ (l ++ [e]).dropLast = l := by simp
theorem vl_ext {A B : Vl} (h1 : A.ac = B.ac) (h2 : A.sl = B.sl) (h3 : A.jr = B.jr) (h4 : A.nm = B.nm) (h5 : A.mq = B.mq) (h6 : A.rf = B.rf) (h7 : A.lg = B.lg) (h8 : A.tp = B.tp) (h9 : A.ta = B.ta) (h10 : A.ts = B.ts) (h11 : A.tt = B.tt) : A = B := by
  cases A; cases B; simp only at *; subst h1 h2 h3 h4 h5 h6 h7 h8 h9 h10 h11; rfl
theorem pop_warmA {V : Vl} {a : List Nat} {t : Nat → Int} : pop1 (V.setA a t { V.acc' a with warm := true } ⟨4, V.ix a, 0, 0, (V.acc' a).warm⟩) = V.ent a t := by
  obtain ⟨h1, h2⟩ := V.ent_ac a t
  unfold pop1
  have hj : (V.setA a t { V.acc' a with warm := true } ⟨4, V.ix a, 0, 0, (V.acc' a).warm⟩).jr = V.jr ++ [⟨4, V.ix a, 0, 0, (V.acc' a).warm⟩] := rfl
  rw [hj, jr_last.1, jr_last.2]
  refine vl_ext ?_ rfl (Ext.ent V a t).jr.symm rfl rfl rfl rfl rfl rfl rfl rfl
  show ((V.ent a t).ac.set (V.ix a) _).set (V.ix a) { ((V.ent a t).ac.set (V.ix a) _).getD (V.ix a) dVA with warm := (V.acc' a).warm } = (V.ent a t).ac
  rw [set_get h1, set_set_same (d := dVA) h1 (by rw [h2])]
theorem pop_warmS {V : Vl} {a : Nat} {t : Nat → Int} : pop1 (V.setS a t { V.slt' a with warm := true } ⟨5, V.is a, 0, 0, (V.slt' a).warm⟩) = V.ens a t := by
  obtain ⟨h1, h2⟩ := V.ens_sl a t
  unfold pop1
  have hj : (V.setS a t { V.slt' a with warm := true } ⟨5, V.is a, 0, 0, (V.slt' a).warm⟩).jr = V.jr ++ [⟨5, V.is a, 0, 0, (V.slt' a).warm⟩] := rfl
  rw [hj, jr_last.1, jr_last.2]
  refine vl_ext rfl ?_ (Ext.ens V a t).jr.symm rfl rfl rfl rfl rfl rfl rfl rfl
  show ((V.ens a t).sl.set (V.is a) _).set (V.is a) { ((V.ens a t).sl.set (V.is a) _).getD (V.is a) dVS with warm := (V.slt' a).warm } = (V.ens a t).sl
  rw [set_get h1, set_set_same (d := dVS) h1 (by rw [h2])]
theorem pop_store {V : Vl} {a v : Nat} {t : Nat → Int} : pop1 (V.setS a t { V.slt' a with val := v } ⟨3, V.is a, 0, (V.slt' a).val, false⟩) = V.ens a t := by
  obtain ⟨h1, h2⟩ := V.ens_sl a t
  unfold pop1
  have hj : (V.setS a t { V.slt' a with val := v } ⟨3, V.is a, 0, (V.slt' a).val, false⟩).jr = V.jr ++ [⟨3, V.is a, 0, (V.slt' a).val, false⟩] := rfl
  rw [hj, jr_last.1, jr_last.2]
  refine vl_ext rfl ?_ (Ext.ens V a t).jr.symm rfl rfl rfl rfl rfl rfl rfl rfl
  show ((V.ens a t).sl.set (V.is a) _).set (V.is a) { ((V.ens a t).sl.set (V.is a) _).getD (V.is a) dVS with val := (V.slt' a).val } = (V.ens a t).sl
  rw [set_get h1, set_set_same (d := dVS) h1 (by rw [h2])]
theorem pop_tst {V : Vl} {a v : Nat} {t : Nat → Int} : pop1 (V.setT a t { V.tmp' a with val := v } ⟨8, V.it a, 0, (V.tmp' a).val, false⟩) = V.ete a t := by
  obtain ⟨h1, h2⟩ := V.ete_tp a t
  unfold pop1
  have hj : (V.setT a t { V.tmp' a with val := v } ⟨8, V.it a, 0, (V.tmp' a).val, false⟩).jr = V.jr ++ [⟨8, V.it a, 0, (V.tmp' a).val, false⟩] := rfl
  rw [hj, jr_last.1, jr_last.2]
  refine vl_ext rfl rfl (Ext.ete V a t).jr.symm rfl rfl rfl rfl ?_ rfl rfl rfl
  show ((V.ete a t).tp.set (V.it a) _).set (V.it a) { ((V.ete a t).tp.set (V.it a) _).getD (V.it a) dVT with val := (V.tmp' a).val } = (V.ete a t).tp
  rw [set_get h1, set_set_same (d := dVT) h1 (by rw [h2])]
theorem x0_set {V : Vl} {a sf : List Nat} {t : Nat → Int} {x : VA} {e : VE} (hx : x.ad = a) (h : ∃ y l, V.ac = y :: l ∧ y.ad = sf) : ∃ y l, (V.setA a t x e).ac = y :: l ∧ y.ad = sf := by
  obtain ⟨y, l, h1, h2⟩ := h
  obtain ⟨X, hX, _⟩ := (Ext.ent V a t).ac
  show ∃ y l, (V.ent a t).ac.set (V.ix a) x = y :: l ∧ y.ad = sf
  rw [hX, h1]
  by_cases h0 : y.ad = a
  · have : V.ix a = 0 := by unfold Vl.ix; rw [h1, fi_cons, if_pos h0]
    rw [this]; exact ⟨x, l ++ X, rfl, by rw [hx, ← h0]; exact h2⟩
  · have : V.ix a = (l.findIdx fun y => y.ad == a) + 1 := by unfold Vl.ix; rw [h1, fi_cons, if_neg h0]
    rw [this]; exact ⟨y, _, rfl, h2⟩
theorem RW.warmA {K : YK} {V : Vl} {w : YW} (h : RW K V w) (a : List Nat) (t : Nat → Int) (e : VE) : RW K (V.setA a t { V.acc' a with warm := true } e) { w with wa := withA a w.wa } := by
  obtain ⟨e1, e2, e3, e4, e5, e6⟩ := V.acc'_eq a
  have hacc := fun b => setA_acc (V := V) (t := t) (e := e) (x := { V.acc' a with warm := true }) (V.acc'_ad a) b
  obtain ⟨_, hsl, htp, _, _, _, hrf, hlg⟩ := Ext.ent V a t
  have hs : (V.setA a t { V.acc' a with warm := true } e).sl = V.sl := by show (V.ent a t).sl = V.sl; unfold Vl.ent; split <;> rfl
  have ht : (V.setA a t { V.acc' a with warm := true } e).tp = V.tp := by show (V.ent a t).tp = V.tp; unfold Vl.ent; split <;> rfl
  refine ⟨fun b => ?_, fun b => ?_, fun b => ?_, fun k => ?_, fun k => ?_, fun k => ?_, fun k => ?_, by show w.rf = (V.ent a t).rf; rw [hrf]; exact h.rf, by show w.lg = (V.ent a t).lg; rw [hlg]; exact h.lg, x0_set (V.acc'_ad a) h.x0⟩
  · rw [hacc b]
    by_cases hb : a = b
    · subst hb; rw [if_pos rfl]; show _ = (V.acc' a).nonce ∧ _ = (V.acc' a).bal ∧ _ = (V.acc' a).code; rw [e1, e2, e3]; exact h.acc a
    · rw [if_neg hb]; exact h.acc b
  · rw [hacc b]
    show _ ↔ b ∈ withA a w.wa
    rw [mem_withA]
    by_cases hb : a = b
    · subst hb; rw [if_pos rfl]; simp
    · rw [if_neg hb, h.wrm b]; simp [Ne.symm hb]
  · rw [hacc b]
    by_cases hb : a = b
    · subst hb; rw [if_pos rfl]; show ((V.acc' a).made = true ↔ _) ∧ (V.acc' a).gone = false; rw [e5, e6]; exact h.mgn a
    · rw [if_neg hb]; exact h.mgn b
  · rw [Vl.slt_lk, hs]; exact h.slo k
  · rw [Vl.slt_lk, hs]; exact h.sor k
  · rw [Vl.slt_lk, hs]; exact h.swm k
  · rw [Vl.tmp_lk, ht]; exact h.tmp k
theorem setS_ac (V : Vl) (k : Nat) (t : Nat → Int) (x : VSl) (e : VE) : (V.setS k t x e).ac = V.ac ∧ (V.setS k t x e).tp = V.tp ∧ (V.setS k t x e).rf = V.rf ∧ (V.setS k t x e).lg = V.lg := by
  unfold Vl.setS Vl.ens; split <;> exact ⟨rfl, rfl, rfl, rfl⟩
theorem setT_ac (V : Vl) (k : Nat) (t : Nat → Int) (x : VTp) (e : VE) : (V.setT k t x e).ac = V.ac ∧ (V.setT k t x e).sl = V.sl ∧ (V.setT k t x e).rf = V.rf ∧ (V.setT k t x e).lg = V.lg := by
  unfold Vl.setT Vl.ete; split <;> exact ⟨rfl, rfl, rfl, rfl⟩
theorem RW.warmS {K : YK} {V : Vl} {w : YW} (h : RW K V w) (k : Nat) (t : Nat → Int) (e : VE) : RW K (V.setS k t { V.slt' k with warm := true } e) { w with ms := warmM (K.self, k, 0) w.ms } := by
  obtain ⟨e1, e2, e3⟩ := V.slt'_eq k
  have hs := fun j => setS_slt (V := V) (t := t) (e := e) (x := { V.slt' k with warm := true }) (V.slt'_key k) j
  obtain ⟨ha, ht, hrf, hlg⟩ := setS_ac V k t { V.slt' k with warm := true } e
  refine ⟨fun b => ?_, fun b => ?_, fun b => ?_, fun j => ?_, fun j => ?_, fun j => ?_, fun j => ?_, by rw [hrf]; exact h.rf, by rw [hlg]; exact h.lg, by rw [ha]; exact h.x0⟩
  · rw [Vl.acc_lk, ha]; exact h.acc b
  · rw [Vl.acc_lk, ha]; exact h.wrm b
  · rw [Vl.acc_lk, ha]; exact h.mgn b
  · rw [hs j]
    by_cases hb : k = j
    · subst hb; rw [if_pos rfl]; show _ = (V.slt' k).val; rw [e1]; exact h.slo k
    · rw [if_neg hb]; exact h.slo j
  · rw [hs j]
    by_cases hb : k = j
    · subst hb; rw [if_pos rfl]; show (V.slt' k).orig = 0; rw [e2]; exact h.sor k
    · rw [if_neg hb]; exact h.sor j
  · rw [hs j]
    show _ = (findT K.self j (warmM (K.self, k, 0) w.ms)).isSome
    rw [find_warmM]
    by_cases hb : k = j
    · subst hb; rw [if_pos rfl]; simp
    · rw [if_neg hb, h.swm j]; simp [hb]
  · rw [Vl.tmp_lk, ht]; exact h.tmp j
theorem RW.store {K : YK} {V : Vl} {w : YW} (h : RW K V w) (k v : Nat) (t : Nat → Int) (e : VE) (hK : (getA w.al K.self).addr = K.self) : RW K (V.setS k t { V.slt' k with val := v } e) { w with al := putA { getA w.al K.self with slots := storeS k v (decide (v = 0)) (getA w.al K.self).slots } w.al } := by
  obtain ⟨e1, e2, e3⟩ := V.slt'_eq k
  have hs := fun j => setS_slt (V := V) (t := t) (e := e) (x := { V.slt' k with val := v }) (V.slt'_key k) j
  obtain ⟨ha, ht, hrf, hlg⟩ := setS_ac V k t { V.slt' k with val := v } e
  have hg := fun b => getA_put (a := { getA w.al K.self with slots := storeS k v (decide (v = 0)) (getA w.al K.self).slots }) (b := b) (al := w.al)
  have hg2 : ∀ b, (getA (putA { getA w.al K.self with slots := storeS k v (decide (v = 0)) (getA w.al K.self).slots } w.al) b).nonce = (getA w.al b).nonce ∧ (getA (putA { getA w.al K.self with slots := storeS k v (decide (v = 0)) (getA w.al K.self).slots } w.al) b).bal = (getA w.al b).bal ∧ (getA (putA { getA w.al K.self with slots := storeS k v (decide (v = 0)) (getA w.al K.self).slots } w.al) b).code = (getA w.al b).code := by
    intro b
    rw [hg b]
    by_cases hb : (getA w.al K.self).addr = b
    · rw [if_pos hb]; rw [hK] at hb; subst hb; exact ⟨rfl, rfl, rfl⟩
    · rw [if_neg hb]; exact ⟨rfl, rfl, rfl⟩
  refine ⟨fun b => ?_, fun b => ?_, fun b => ?_, fun j => ?_, fun j => ?_, fun j => ?_, fun j => ?_, by rw [hrf]; exact h.rf, by rw [hlg]; exact h.lg, by rw [ha]; exact h.x0⟩
  · rw [Vl.acc_lk, ha]
    show (getA (putA _ w.al) b).nonce = _ ∧ (getA (putA _ w.al) b).bal = _ ∧ (getA (putA _ w.al) b).code = _
    obtain ⟨g1, g2, g3⟩ := hg2 b
    rw [g1, g2, g3]; exact h.acc b
  · rw [Vl.acc_lk, ha]; exact h.wrm b
  · rw [Vl.acc_lk, ha]; exact h.mgn b
  · rw [hs j]
    show loadS (getA (putA _ w.al) K.self).slots j = _
    rw [hg K.self, if_pos hK]
    show loadS (storeS k v (decide (v = 0)) (getA w.al K.self).slots) j = _
    rw [load_store]
    by_cases hb : k = j
    · rw [if_pos hb, if_pos hb]
    · rw [if_neg hb, if_neg hb]; exact h.slo j
  · rw [hs j]
    by_cases hb : k = j
    · subst hb; rw [if_pos rfl]; show (V.slt' k).orig = 0; rw [e2]; exact h.sor k
    · rw [if_neg hb]; exact h.sor j
  · rw [hs j]
    by_cases hb : k = j
    · subst hb; rw [if_pos rfl]; show (V.slt' k).warm = _; rw [e3]; exact h.swm k
    · rw [if_neg hb]; exact h.swm j
  · rw [Vl.tmp_lk, ht]; exact h.tmp j
theorem RW.tst {K : YK} {V : Vl} {w : YW} (h : RW K V w) (k v : Nat) (t : Nat → Int) (e : VE) : RW K (V.setT k t { V.tmp' k with val := v } e) { w with tp := tstT (K.self, k, v) (decide (v = 0)) w.tp } := by
  have hs := fun j => setT_tmp (V := V) (t := t) (e := e) (x := { V.tmp' k with val := v }) (V.tmp'_key k) j
  obtain ⟨ha, ht, hrf, hlg⟩ := setT_ac V k t { V.tmp' k with val := v } e
  refine ⟨fun b => ?_, fun b => ?_, fun b => ?_, fun j => ?_, fun j => ?_, fun j => ?_, fun j => ?_, by rw [hrf]; exact h.rf, by rw [hlg]; exact h.lg, by rw [ha]; exact h.x0⟩
  · rw [Vl.acc_lk, ha]; exact h.acc b
  · rw [Vl.acc_lk, ha]; exact h.wrm b
  · rw [Vl.acc_lk, ha]; exact h.mgn b
  · rw [Vl.slt_lk, ht]; exact h.slo j
  · rw [Vl.slt_lk, ht]; exact h.sor j
  · rw [Vl.slt_lk, ht]; exact h.swm j
  · rw [hs j]
    show valT (findT K.self j (tstT (K.self, k, v) (decide (v = 0)) w.tp)) = _
    rw [val_tst]
    by_cases hb : k = j
    · rw [if_pos ⟨rfl, hb⟩, if_pos hb]
    · rw [if_neg (fun h => hb h.2), if_neg hb]; exact h.tmp j
theorem RW.same {K : YK} {V : Vl} {w : YW} (h : RW K V w) (jr : List VE) (rf : Nat) (lg : List LG) : RW K { V with jr := jr, rf := rf, lg := lg } { w with rf := rf, lg := lg } :=
  ⟨h.acc, h.wrm, h.mgn, h.slo, h.sor, h.swm, h.tmp, rfl, rfl, h.x0⟩
/-- What holds amid a transaction, whatever the number of marks. -/
structure RJ0 (K : YK) (V : Vl) (w : YW) : Prop where
  rel : RW K V w
  mq : V.mq ≤ V.jr.length
  pk : PopOk (V.jr.length - V.mq) V
  bk : RW K (popN (V.jr.length - V.mq) V) K.w0
  jx : ∀ e ∈ V.jr, e.kd = 6 → e.n < 2 ^ 40
/-- What holds amid a transaction. -/
structure RJ (K : YK) (V : Vl) (w : YW) : Prop extends RJ0 K V w where
  nm : V.nm = w.md.length + 1
theorem RJ0.push {K : YK} {V V' : Vl} {w w' : YW} {e : VE} (h : RJ0 K V w) (h1 : RW K V' w') (h4 : V'.mq = V.mq) (h5 : V'.jr = V.jr ++ [e]) (h6 : EOk V' e) (h7 : Ext V (pop1 V')) (h8 : e.kd = 6 → e.n < 2 ^ 40) : RJ0 K V' w' := by
  have hl : V'.jr.length = V.jr.length + 1 := by rw [h5, List.length_append]; rfl
  have hmq := h.mq
  have hd : V'.jr.length - V'.mq = (V.jr.length - V.mq) + 1 := by rw [hl, h4]; omega
  obtain ⟨g1, g2⟩ := h7.popN _ h.pk
  refine ⟨h1, by rw [hl, h4]; omega, ?_, ?_, ?_⟩
  · rw [hd]
    refine ⟨?_, g2⟩
    rw [h5, jr_last.1]; exact h6
  · rw [hd]; exact h.bk.ext g1
  · intro x hx
    rw [h5] at hx
    rcases List.mem_append.1 hx with h' | h'
    · exact h.jx x h'
    · obtain rfl := List.mem_singleton.1 h'; exact h8
theorem RJ.push {K : YK} {V V' : Vl} {w w' : YW} {e : VE} (h : RJ K V w) (h1 : RW K V' w') (h3 : V'.nm = V.nm) (h4 : V'.mq = V.mq) (h5 : V'.jr = V.jr ++ [e]) (h6 : EOk V' e) (h7 : Ext V (pop1 V')) (h8 : e.kd = 6 → e.n < 2 ^ 40) (h9 : w'.md = w.md := by rfl) : RJ K V' w' :=
  ⟨h.toRJ0.push h1 h4 h5 h6 h7 h8, by rw [h9]; exact h3.trans h.nm⟩
theorem RJ.warmA {K : YK} {V : Vl} {w : YW} (h : RJ K V w) (a : List Nat) (t : Nat → Int) : RJ K (V.setA a t { V.acc' a with warm := true } ⟨4, V.ix a, 0, 0, (V.acc' a).warm⟩) { w with wa := withA a w.wa } := by
  refine h.push (h.rel.warmA a t _) (Ext.ent V a t).nm (Ext.ent V a t).mq rfl ⟨by simp, fun _ => ?_, by simp, by simp, by simp⟩ (by rw [pop_warmA]; exact Ext.ent V a t) (by simp)
  show V.ix a < ((V.ent a t).ac.set _ _).length
  rw [List.length_set]; exact (V.ent_ac a t).1
theorem RJ.warmS {K : YK} {V : Vl} {w : YW} (h : RJ K V w) (k : Nat) (t : Nat → Int) : RJ K (V.setS k t { V.slt' k with warm := true } ⟨5, V.is k, 0, 0, (V.slt' k).warm⟩) { w with ms := warmM (K.self, k, 0) w.ms } := by
  refine h.push (h.rel.warmS k t _) (Ext.ens V k t).nm (Ext.ens V k t).mq rfl ⟨by simp, by simp, fun _ => ?_, by simp, by simp⟩ (by rw [pop_warmS]; exact Ext.ens V k t) (by simp)
  show V.is k < ((V.ens k t).sl.set _ _).length
  rw [List.length_set]; exact (V.ens_sl k t).1
theorem RJ.store {K : YK} {V : Vl} {w : YW} (h : RJ K V w) (k v : Nat) (t : Nat → Int) (hK : (getA w.al K.self).addr = K.self) : RJ K (V.setS k t { V.slt' k with val := v } ⟨3, V.is k, 0, (V.slt' k).val, false⟩) { w with al := putA { getA w.al K.self with slots := storeS k v (decide (v = 0)) (getA w.al K.self).slots } w.al } := by
  refine h.push (h.rel.store k v t _ hK) (Ext.ens V k t).nm (Ext.ens V k t).mq rfl ⟨by simp, by simp, fun _ => ?_, by simp, by simp⟩ (by rw [pop_store]; exact Ext.ens V k t) (by simp)
  show V.is k < ((V.ens k t).sl.set _ _).length
  rw [List.length_set]; exact (V.ens_sl k t).1
theorem RJ.tst {K : YK} {V : Vl} {w : YW} (h : RJ K V w) (k v : Nat) (t : Nat → Int) : RJ K (V.setT k t { V.tmp' k with val := v } ⟨8, V.it k, 0, (V.tmp' k).val, false⟩) { w with tp := tstT (K.self, k, v) (decide (v = 0)) w.tp } := by
  refine h.push (h.rel.tst k v t _) (Ext.ete V k t).nm (Ext.ete V k t).mq rfl ⟨by simp, by simp, by simp, fun _ => ?_, by simp⟩ (by rw [pop_tst]; exact Ext.ete V k t) (by simp)
  show V.it k < ((V.ete k t).tp.set _ _).length
  rw [List.length_set]; exact (V.ete_tp k t).1
theorem RJ.refund {K : YK} {V : Vl} {w : YW} (h : RJ K V w) (n : Nat) (hr : V.rf < 2 ^ 40) : RJ K { V with jr := V.jr ++ [⟨6, 0, V.rf, 0, false⟩], rf := n } { w with rf := n } := by
  have := h.rel.same (V.jr ++ [⟨6, 0, V.rf, 0, false⟩]) n V.lg
  rw [show ({ w with rf := n } : YW) = { w with rf := n, lg := V.lg } by rw [← h.rel.lg]]
  refine h.push (this) rfl rfl rfl ⟨by simp, by simp, by simp, by simp, by simp⟩ ?_ (fun _ => hr)
  unfold pop1
  rw [show ({ V with jr := V.jr ++ [⟨6, 0, V.rf, 0, false⟩], rf := n } : Vl).jr = V.jr ++ [⟨6, 0, V.rf, 0, false⟩] from rfl, jr_last.1, jr_last.2]
  exact Ext.refl V
theorem RJ.log {K : YK} {V : Vl} {w : YW} (h : RJ K V w) (l : LG) : RJ K { V with jr := V.jr ++ [⟨7, 0, 0, 0, false⟩], lg := V.lg ++ [l] } { w with lg := w.lg ++ [l] } := by
  have := h.rel.same (V.jr ++ [⟨7, 0, 0, 0, false⟩]) V.rf (V.lg ++ [l])
  rw [show ({ w with lg := w.lg ++ [l] } : YW) = { w with rf := V.rf, lg := V.lg ++ [l] } by rw [← h.rel.lg, ← h.rel.rf]]
  refine h.push (this) rfl rfl rfl ⟨by simp, by simp, by simp, by simp, by simp⟩ ?_ (by simp)
  unfold pop1
  rw [show ({ V with jr := V.jr ++ [⟨7, 0, 0, 0, false⟩], lg := V.lg ++ [l] } : Vl).jr = V.jr ++ [⟨7, 0, 0, 0, false⟩] from rfl, jr_last.1, jr_last.2]
  show Ext V { V with lg := (V.lg ++ [l]).dropLast }
  rw [List.dropLast_concat]; exact Ext.refl V
end Go.Proofs.YgvafwGreat
