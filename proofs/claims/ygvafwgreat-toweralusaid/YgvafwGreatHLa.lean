import Derived.Orders
import Derived.Tactics
namespace Go.HL

abbrev Heap := Array Obj
abbrev Env := Nat → Value

def upd (e : Env) (d : Nat) (v : Value) : Env := fun i => if i = d then v else e i
def put (e : Env) (d : Option Nat) (v : Value) : Env := match d with | some d => upd e d v | none => e
def ev (e : Env) : Operand → Value
  | .tmp t => e t
  | .const v => v
  | .global g => .pointer (some ⟨g, 0, none⟩)
  | .func f => .func (.func f) #[] #[]

structure Sim (n : Nat) (a : Act) (e : Env) : Prop where
  size : a.tmps.size = n
  get : ∀ i, a.tmps.getD i undef = e i
  defers : a.defers = []

theorem Sim.eval {n : Nat} {a : Act} {e : Env} (s : Sim n a e) : a.eval = ev e := by
  funext x
  cases x <;> simp [Act.eval, ev]
  simpa using s.get _

theorem Sim.put {n : Nat} {a : Act} {e : Env} (s : Sim n a e) {d : Option Nat} (hd : ∀ x, d = some x → x < n) (v : Value) : Sim n (a.put d v) (HL.put e d v) := by
  cases d with
  | none => exact s
  | some d =>
    refine ⟨by simp [Act.put, s.size], fun i => ?_, s.defers⟩
    have hs := s.size
    have hlt := hd d rfl
    have hg := s.get i
    simp only [Act.put, HL.put, upd]
    by_cases h : i = d
    · subst h
      simp [Array.getD, hs, hlt]
    · simp only [h, if_false]
      rw [← hg]
      simp [Array.getElem?_setIfInBounds_ne (Ne.symm h)]

/-- A block of memory: its number, its cells, its element type. -/
structure Ent where
  b : Nat
  sz : Nat
  T : TypeId
  c : Nat → Value

structure Ent.at (x : Ent) (h : Heap) : Prop where
  out : ∃ arr : Array Value, h[x.b]? = some (.cells arr x.T (0, 0)) ∧ arr.size = x.sz ∧ ∀ i, i < x.sz → arr[i]? = some (x.c i)

/-- The same, where some cells may be marked as never to be written. -/
structure Ent.sees (x : Ent) (h : Heap) : Prop where
  out : ∃ (arr : Array Value) (fz : Nat × Nat), h[x.b]? = some (.cells arr x.T fz) ∧ arr.size = x.sz ∧ ∀ i, i < x.sz → arr[i]? = some (x.c i)
theorem Ent.at.sees {x : Ent} {h : Heap} (hx : x.at h) : x.sees h := by
  obtain ⟨arr, h1⟩ := hx.out; exact ⟨arr, (0, 0), h1⟩

/-- What is known of memory: the blocks that nobody writes any more, and those that are one's own. -/
structure St where
  I : Ent → Prop
  G : List Ent

/-- A frame: blocks besides, and a world whose blocks below a mark nobody has changed. -/
structure Fr where
  l : List Ent
  w0 : World
  B : Nat
def Fr.app (F : Fr) (L : List Ent) : Fr := ⟨L ++ F.l, F.w0, F.B⟩
@[simp] theorem Fr.app_l (L : List Ent) (F : Fr) : (F.app L).l = L ++ F.l := rfl
@[simp] theorem Fr.nil_app (F : Fr) : F.app [] = F := rfl
@[simp] theorem Fr.app_w0 (L : List Ent) (F : Fr) : (F.app L).w0 = F.w0 := rfl
@[simp] theorem Fr.app_B (L : List Ent) (F : Fr) : (F.app L).B = F.B := rfl
/-- What was there below the mark is as it was; the blocks of one's own lie above it. -/
structure Low (F : Fr) (G : List Ent) (w : World) : Prop where
  top : F.B ≤ w.heap.size
  base : (w.os = F.w0.os ∧ w.tape = F.w0.tape ∧ w.output = F.w0.output) ∧ F.w0.heap.size ≤ w.heap.size ∧ ∀ k, k < F.B → w.heap[k]? = F.w0.heap[k]?
  high : ∀ x ∈ G ++ F.l, F.B ≤ x.b
theorem Low.sub {F : Fr} {G G' : List Ent} {w : World} (h : Low F G w) (hs : ∀ x ∈ G', x ∈ G ++ F.l) : Low F G' w :=
  ⟨h.top, h.base, fun x hx => (List.mem_append.1 hx).elim (fun h1 => h.high x (hs x h1)) (fun h1 => h.high x (List.mem_append_right _ h1))⟩

/-- A world is as the state says, with the blocks of a frame besides. -/
structure Holds (S : St) (F : Fr) (w : World) : Prop where
  imm : ∀ x, S.I x → x.sees w.heap
  own : ∀ x ∈ S.G ++ F.l, x.at w.heap
  dis : (S.G ++ F.l).Pairwise fun x y => x.b ≠ y.b
  apart : ∀ x, S.I x → ∀ y ∈ S.G ++ F.l, x.b ≠ y.b
  low : Low F S.G w

def Sub (I J : Ent → Prop) : Prop := ∀ x, I x → J x
theorem Sub.refl (I : Ent → Prop) : Sub I I := fun _ h => h
theorem Sub.trans {I J K : Ent → Prop} (h : Sub I J) (k : Sub J K) : Sub I K := fun x hx => k x (h x hx)

abbrev Post := Value → St → Prop
abbrev HPost := Exit → Env → St → Prop

/-- A call. -/
structure CallG (P : Program) (f : FuncId) (args : Array Value) (S : St) (K : Post) : Prop where
  run : ∀ (F : Fr) (w : World), Holds S F w → Calls P f args w fun x w' => ∃ v S', x = .returned v ∧ Holds S' F w' ∧ Sub S.I S'.I ∧ K v S'

theorem CallG.mono {P : Program} {f : FuncId} {args : Array Value} {S : St} {K K' : Post} (h : CallG P f args S K)
    (hk : ∀ v S', Sub S.I S'.I → K v S' → K' v S') : CallG P f args S K' :=
  ⟨fun F w hw => (h.run F w hw).mono fun _ _ ⟨v, S', e, hh, hs, k⟩ => ⟨v, S', e, hh, hs, hk v S' hs k⟩⟩

/-- What an operation must do. -/
def OpUpon (P : Program) (S : St) (F : Fr) (K : Post) : Result Next → Prop
  | .ok (.value v) w' => ∃ S', Holds S' F w' ∧ Sub S.I S'.I ∧ K v S'
  | .ok .skip w' => ∃ S', Holds S' F w' ∧ Sub S.I S'.I ∧ K undef S'
  | .ok (.enter f args) w' => Calls P f args w' fun x w'' => ∃ v S', x = .returned v ∧ Holds S' F w'' ∧ Sub S.I S'.I ∧ K v S'
  | _ => False

structure OpG (P : Program) (op : Op) (ty : TypeId) (e : Env) (S : St) (K : Post) : Prop where
  run : ∀ (F : Fr) (w : World), Holds S F w → OpUpon P S F K ((execOp (ev e) ⟨none, op, ty, "", #[], none⟩).run P w)

theorem execOp_same (ρ : Operand → Value) (o : Oper) : execOp ρ o = execOp ρ ⟨none, o.op, o.type, "", #[], none⟩ := by
  cases o; rfl

theorem OpUpon.mono {P : Program} {S : St} {F : Fr} {K K' : Post} {r : Result Next} (h : OpUpon P S F K r) (hk : ∀ v S', Sub S.I S'.I → K v S' → K' v S') : OpUpon P S F K' r := by
  cases r with
  | halt x w => exact h.elim
  | ok x w =>
    cases x <;> simp only [OpUpon] at h ⊢
    case value => obtain ⟨S', a, b, c⟩ := h; exact ⟨S', a, b, hk _ _ b c⟩
    case skip => obtain ⟨S', a, b, c⟩ := h; exact ⟨S', a, b, hk _ _ b c⟩
    case enter => exact h.mono fun _ _ ⟨v, S', e, a, b, c⟩ => ⟨v, S', e, a, b, hk _ _ b c⟩

theorem OpG.mono {P : Program} {op : Op} {ty : TypeId} {e : Env} {S : St} {K K' : Post} (h : OpG P op ty e S K)
    (hk : ∀ v S', Sub S.I S'.I → K v S' → K' v S') : OpG P op ty e S K' :=
  ⟨fun F w hw => (h.run F w hw).mono hk⟩

/-- The walk of a piece of code. -/
structure GW (P : Program) (n : Nat) (c : Code) (e : Env) (S : St) (Q : HPost) : Prop where
  run : ∀ (F : Fr) (a : Act) (w : World), Sim n a e → Holds S F w →
    c.wp P (fun x a' w' => ∃ e' S', Sim n a' e' ∧ Holds S' F w' ∧ Sub S.I S'.I ∧ Q x e' S') a w

section
variable {P : Program} {n : Nat} {e : Env} {S : St} {Q : HPost}

theorem GW.mono {c : Code} {Q' : HPost} (h : GW P n c e S Q) (hq : ∀ x e' S', Sub S.I S'.I → Q x e' S' → Q' x e' S') : GW P n c e S Q' :=
  ⟨fun F a w s hw => wp_mono (h.run F a w s hw) fun _ _ _ ⟨e', S', s', hh, hs, q⟩ => ⟨e', S', s', hh, hs, hq _ _ _ hs q⟩⟩

theorem GW.skip (h : Q .normal e S) : GW P n .skip e S Q :=
  ⟨fun _ _ _ s hw => wp_skip ⟨e, S, s, hw, .refl _, h⟩⟩
theorem GW.exit {id : Nat} (h : Q (.exit id) e S) : GW P n (.exit id) e S Q :=
  ⟨fun _ _ _ s hw => wp_exit ⟨e, S, s, hw, .refl _, h⟩⟩
theorem GW.ret (h : Q .ret e S) : GW P n .ret e S Q :=
  ⟨fun _ _ _ s hw => wp_ret ⟨e, S, s, hw, .refl _, h⟩⟩

def thenQ (K : Env → St → Prop) (Q : HPost) : HPost
  | .normal, e, S => K e S
  | x, e, S => Q x e S

theorem GW.seq {x y : Code} (h : GW P n x e S (thenQ (fun e S => GW P n y e S Q) Q)) : GW P n (.seq x y) e S Q := by
  refine ⟨fun F a w s hw => wp_seq (wp_mono (h.run F a w s hw) ?_)⟩
  rintro x a' w' ⟨e', S', s', hh, hs, q⟩
  cases x <;> simp only [thenQ, Exit.then] at q ⊢
  case normal => exact wp_mono (q.run F a' w' s' hh) fun _ _ _ ⟨e2, S2, s2, hh2, hs2, q2⟩ => ⟨e2, S2, s2, hh2, hs.trans hs2, q2⟩
  all_goals exact ⟨e', S', s', hh, hs, q⟩

theorem GW.cond {c : Operand} {x y : Code} {t : Bool} (hc : ev e c = .bool t) (ht : t = true → GW P n x e S Q) (hf : t = false → GW P n y e S Q) :
    GW P n (.cond c x y) e S Q := by
  refine ⟨fun F a w s hw => wp_cond_split (t := t) (by rw [s.eval]; exact hc) (fun h => (ht h).run F a w s hw) (fun h => (hf h).run F a w s hw)⟩

def blockQ (id : Nat) (Q : HPost) : HPost
  | .exit id', e, S => if id' = id then Q .normal e S else Q (.exit id') e S
  | x, e, S => Q x e S

theorem GW.block {id : Nat} {c : Code} (h : GW P n c e S (blockQ id Q)) : GW P n (.block id c) e S Q := by
  refine ⟨fun F a w s hw => wp_block (wp_mono (h.run F a w s hw) ?_)⟩
  rintro x a' w' ⟨e', S', s', hh, hs, q⟩
  cases x <;> simp only [blockQ, Exit.inBlock] at q ⊢
  case exit id' =>
    split
    · rename_i h; simp only [h, if_true] at q; exact ⟨e', S', s', hh, hs, q⟩
    · rename_i h; simp only [h, if_false] at q; exact ⟨e', S', s', hh, hs, q⟩
  all_goals exact ⟨e', S', s', hh, hs, q⟩

theorem least (p : Nat → Prop) (h : ∃ m, p m) : ∃ m, p m ∧ ∀ k, p k → m ≤ k := by
  obtain ⟨m, hm⟩ := h
  induction m using Nat.strongRecOn with
  | _ m ih =>
    by_cases h : ∃ k, k < m ∧ p k
    · obtain ⟨k, hk, hp⟩ := h; exact ih k hk hp
    · exact ⟨m, hm, fun k hk => Nat.le_of_not_lt fun hlt => h ⟨k, hlt, hk⟩⟩

/-- A loop: a relation between a state of the mind and what the variables and memory hold, and a measure of the former. -/
theorem GW.loop {σ : Type} {c : Code} (J : σ → Env → St → Prop) (μ : σ → Nat) (s0 : σ) (h0 : J s0 e S)
    (round : ∀ s e' S', Sub S.I S'.I → J s e' S' → GW P n c e' S' (thenQ (fun e2 S2 => ∃ s2, J s2 e2 S2 ∧ μ s2 < μ s) Q)) : GW P n (.loop c) e S Q := by
  refine ⟨fun F a w sim hw => ?_⟩
  let p : Act → World → Nat → Prop := fun a w m => ∃ s e' S', Sim n a e' ∧ Holds S' F w ∧ Sub S.I S'.I ∧ J s e' S' ∧ μ s = m
  let p' : Act → World → Nat → Prop := fun a w m => p a w m ∧ ∀ k, p a w k → m ≤ k
  have hp : ∀ a w, (∃ m, p a w m) → p' a w (Classical.epsilon (p' a w)) := fun a w h => Classical.epsilon_spec (least _ h)
  refine wp_loop (fun a w => ∃ m, p a w m) (fun a w => Classical.epsilon (p' a w)) ⟨_, s0, e, S, sim, hw, .refl _, h0, rfl⟩ ?_
  intro a w hI
  obtain ⟨⟨s, e', S', sim', hw', hs', hJ, hm⟩, _⟩ := hp a w hI
  refine wp_mono ((round s e' S' hs' hJ).run F a w sim' hw') ?_
  rintro x a2 w2 ⟨e2, S2, sim2, hh2, hs2, q⟩
  cases x <;> simp only [thenQ, Exit.then] at q ⊢
  case normal =>
    obtain ⟨s2, hJ2, hlt⟩ := q
    have hx : p a2 w2 (μ s2) := ⟨s2, e2, S2, sim2, hh2, hs'.trans hs2, hJ2, rfl⟩
    refine ⟨⟨_, hx⟩, ?_⟩
    have := (hp a2 w2 ⟨_, hx⟩).2 _ hx
    omega
  all_goals exact ⟨e2, S2, sim2, hh2, hs'.trans hs2, q⟩
end
end Go.HL
