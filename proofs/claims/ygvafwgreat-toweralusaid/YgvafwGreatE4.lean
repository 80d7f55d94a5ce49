import Derived.Test.YgvafwGreatE3
set_option exponentiation.threshold 1000
set_option maxRecDepth 100000
set_option maxHeartbeats 4000000
set_option linter.unusedVariables false
set_option linter.unusedSimpArgs false
-- v2
-- v4
-- v5
-- v6
-- v7
namespace Go.Proofs.YgvafwGreat
open Go.HL Go.Proofs

/-- mem.Arena.Move -/
theorem mMove {I : Ent → Prop} {G : List Ent} {cb sz b cap dst src n : Nat} {T : TypeId} {c cm : Nat → Value} {mem : List Nat} (hsz : 2435 ≤ sz) (hA : ArI c mem [⟨b, mulS cap 1, 5, cm⟩]) (h1 : c 1 = sl b 0 mem.length cap) (h2 : mem.length ≤ cap) (h4 : Row cm 0 (bvs mem)) (hn : 0 < n) (hon : dst + n ≤ mem.length) (hon2 : src + n ≤ mem.length) :
    CallG Hvaf.prog 308 #[ptr cb 1, .int .u32 (dst : Nat), .int .u32 (src : Nat), .int .u32 (n : Nat)] ⟨I, ⟨cb, sz, T, c⟩ :: ⟨b, mulS cap 1, 5, cm⟩ :: G⟩ fun r S' => r = .bool true ∧ ∃ cm', S' = ⟨I, ⟨cb, sz, T, c⟩ :: ⟨b, mulS cap 1, 5, cm'⟩ :: G⟩ ∧ Row cm' 0 (bvs (writeL mem dst (cutL mem src n))) := by
  have hpt := mPart (I := I) (G := ⟨b, mulS cap 1, 5, cm⟩ :: G) (cb := cb) (T := T) (off := dst) (n := n) hsz hA h1 hn hon
  have hpt2 := mPart (I := I) (G := ⟨b, mulS cap 1, 5, cm⟩ :: G) (cb := cb) (T := T) (off := src) (n := n) hsz hA h1 hn hon2
  have hrow := row_cut h4 hon2
  have hl := cutL_len mem src n
  have hcell : cellsFrom cm src n = bvs (cutL mem src n) := hrow.cells (by rw [bvs_len, hl])
  have hrw := row_write (bs := cutL mem src n) (off := dst) h4 (by rw [hl]; exact hon)
  refine CallG.start (C := mkC Hvaf.prog) cok (args := [ptr cb 1, .int .u32 (dst : Nat), .int .u32 (src : Nat), .int .u32 (n : Nat)]) Hvaf.func308 rfl Hvaf.ntmps308 (by simp) (by kernel_rfl) ?_
  repeat (first | refine SeqS.go cok ?_)
  refine CallG.sameL [] hpt ?_
  repeat (first | refine SeqS.go cok ?_)
  refine CallG.sameL [] hpt2 ?_
  repeat (first | refine SeqS.go cok ?_ | refine GuardS.yes rfl ?_ | refine CondS.f rfl ?_)
  refine OpG.keep ?_
  refine OpG.copy cok 1 rfl (y := ⟨b, mulS cap 1, 5, cm⟩) (.inr (List.mem_cons_of_mem _ List.mem_cons_self)) rfl rfl rfl rfl rfl rfl rfl ?_ ?_ ?_ ?_
  · show dst + mulS (Nat.min n n) 1 ≤ mulS cap 1; rw [mulS_eq, mulS_eq]; simp; omega
  · show src + mulS (Nat.min n n) 1 ≤ mulS cap 1; rw [mulS_eq, mulS_eq]; simp; omega
  · intro p hp
    have hp : p < mulS (Nat.min n n) 1 := hp
    rw [mulS_eq] at hp; simp at hp
    show one (cm (src + p)) = true
    rw [hrow.get p (by rw [bvs_len, hl]; exact hp), bvs_getD' (by rw [hl]; exact hp)]; rfl
  repeat (first | refine SeqS.go cok ?_)
  refine Fin.same ⟨rfl, _, rfl, ?_⟩
  show Row (updN cm dst (cellsFrom cm src (mulS (Nat.min n n) 1))) 0 _
  rw [mulS_eq, Nat.mul_one, show Nat.min n n = n by simp, hcell]
  exact hrw
theorem zeros8 (n : Nat) : (List.range (mulS n 1)).map (zc { kind := 1, ik := .u8, size := 1, bytes := 1, zero := z_int__u8_0 }) = bvs (List.replicate n 0) := by
  rw [mulS_eq, Nat.mul_one]
  apply List.ext_getElem?
  intro p
  by_cases hp : p < n
  · rw [List.getElem?_map, List.getElem?_range hp, bvs, List.getElem?_map, List.getElem?_replicate, if_pos hp]; rfl
  · rw [List.getElem?_eq_none (by simp; omega), List.getElem?_eq_none (by simp [bvs]; omega)]
theorem cut_past {src : List Nat} {fr n : Nat} (h : src.length ≤ fr) : cutL src fr n = List.replicate n 0 := by
  apply List.ext_getElem?
  intro i
  by_cases hi : i < n
  · rw [List.getElem?_replicate, if_pos hi]
    simp only [cutL, List.getElem?_map, List.getElem?_range hi, Option.map_some, List.getD_eq_getElem?_getD, List.getElem?_eq_none (show src.length ≤ fr + i by omega)]; rfl
  · rw [List.getElem?_eq_none (by rw [cutL_len]; omega), List.getElem?_eq_none (by simp; omega)]
/-- mem.Arena.Write, past the source's end -/
theorem mWriteZ {I : Ent → Prop} {G : List Ent} {cb sz b cap off n fr : Nat} {T : TypeId} {c cm : Nat → Value} {mem src : List Nat} {sv : Value} (hsz : 2435 ≤ sz) (hA : ArI c mem [⟨b, mulS cap 1, 5, cm⟩]) (h1 : c 1 = sl b 0 mem.length cap) (h2 : mem.length ≤ cap) (h4 : Row cm 0 (bvs mem)) (hn : 0 < n) (hon : off + n ≤ mem.length) (hs : Byt ⟨I, []⟩ sv src) (hfr : src.length ≤ fr) (hf64 : fr < 18446744073709551616) :
    CallG Hvaf.prog 268 #[ptr cb 1, .int .u32 (off : Nat), sv, .int .u64 (fr : Nat), .int .u32 (n : Nat)] ⟨I, ⟨cb, sz, T, c⟩ :: ⟨b, mulS cap 1, 5, cm⟩ :: G⟩ fun r S' => r = .bool true ∧ ∃ cm', S' = ⟨I, ⟨cb, sz, T, c⟩ :: ⟨b, mulS cap 1, 5, cm'⟩ :: G⟩ ∧ Row cm' 0 (bvs (writeL mem off (cutL src fr n))) := by
  have hpt := mPart (I := I) (G := ⟨b, mulS cap 1, 5, cm⟩ :: G) (cb := cb) (T := T) (off := off) (n := n) hsz hA h1 hn hon
  obtain ⟨ad, scap, rfl⟩ : ∃ ad cap, sv = .slice ad src.length cap := by
    rcases hs.cases with ⟨h1, h2⟩ | ⟨x, o, cap, h1, _⟩
    · exact ⟨none, 0, by rw [h1, h2]; rfl⟩
    · exact ⟨_, cap, h1⟩
  have hsl := hs.2.1
  rw [cut_past hfr]
  have hrw := row_write (bs := List.replicate n 0) (off := off) h4 (by simpa using hon)
  refine CallG.start (C := mkC Hvaf.prog) cok (args := [ptr cb 1, .int .u32 (off : Nat), .slice ad src.length scap, .int .u64 (fr : Nat), .int .u32 (n : Nat)]) Hvaf.func268 rfl Hvaf.ntmps268 (by simp) (by kernel_rfl) ?_
  repeat (first | refine SeqS.go cok ?_)
  refine CallG.sameL [] hpt ?_
  repeat (first | refine SeqS.go cok ?_ | refine CondS.f rfl ?_ | refine And.intro (Eq.refl true) ?_ | refine And.intro (by omega) ?_ | (refine NatS.keep ?_; first | with_reducible refine NatS.lit ?_) | (refine ValS.keep ?_; first | (with_reducible refine ValS.kU64 ?_; first | (with_reducible refine ValS.convU64 ?_ ?_ ; omega)) | with_reducible refine ValS.sl0 ?_) | (refine CondS.keep ?_; first | refine CondS.d0 rfl (by omega) ?_))
  refine OpG.keep ?_
  refine OpG.clear cok 1 rfl rfl rfl rfl (fun p hp => rfl) rfl rfl (by show off + mulS n 1 ≤ mulS cap 1; rw [mulS_eq, mulS_eq]; omega) ?_
  repeat (first | refine SeqS.go cok ?_)
  refine Fin.same ⟨rfl, _, rfl, ?_⟩
  show Row (updN cm off ((List.range (mulS n 1)).map (zc _))) 0 _
  rw [zeros8]; exact hrw
theorem _root_.Go.HL.OpG.copyQ {C : Cfg} {e : Env} {S : St} {K : Post} {ty : TypeId} (hC : C.Ok) {ad sa : Operand} {td ts : TypeId} {i j : TI} {b o dl dc b' o' slen sc q : Nat} {x y : Ent} (k : Nat) (hq : min slen dl = q) (hx : S.G[k]? = some x) (hy : Rd S y) (hD : C.D td = some i) (hk : i.kind = 4) (hj : C.D i.elem = some j)
    (hd : ev e ad = sl b o dl dc) (hs : ev e sa = sl b' o' slen sc) (hb : x.b = b) (hb' : y.b = b') (ho : o + mulS q j.size ≤ x.sz) (ho' : o' + mulS q j.size ≤ y.sz) (h1 : ∀ p, p < mulS q j.size → one (y.c (o' + p)) = true)
    (h : K (.int .i64 (q : Nat)) ⟨S.I, S.G.set k ⟨x.b, x.sz, x.T, updN x.c o (cellsFrom y.c o' (mulS q j.size))⟩⟩) : OpG C.P (.call ⟨.builtin .copy, #[ad, sa], #[td, ts]⟩) ty e S K := by
  subst hq
  exact OpG.copy hC k hx hy hD hk hj hd hs hb hb' ho ho' h1 h
theorem cut_in {src : List Nat} {fr n : Nat} (h : n ≤ src.length - fr) : ∀ i, i < n → (cutL src fr n).getD i 0 = src.getD (fr + i) 0 := fun i hi => cutL_get _ _ hi
theorem ValS.slZ {q : Value → Prop} {b o n z : Nat} (h : q (.slice (some ⟨b, o, none⟩) 0 0)) : ValS (.slice (some ⟨b, if n = n then o else addS o (mulS n z), none⟩) (n - n) (n - n)) q := ⟨by simpa using h⟩
theorem write_two {mem src : List Nat} {off fr n L : Nat} (hL : src.length - fr = L) (hon : off + n ≤ mem.length) (hLn : L < n) : writeL (writeL mem off (cutL src fr L)) (off + L) (List.replicate (n - L) 0) = writeL mem off (cutL src fr n) := by
  have hlen : (writeL (writeL mem off (cutL src fr L)) (off + L) (List.replicate (n - L) 0)).length = mem.length := by rw [writeL_len', writeL_len']
  apply List.ext_getElem (by rw [hlen, writeL_len'])
  intro i h1 h2
  rw [hlen] at h1
  have e : ∀ {l : List Nat} (h : i < l.length), l[i] = l.getD i 0 := fun h => by rw [List.getD_eq_getElem?_getD, List.getElem?_eq_getElem h]; rfl
  rw [e, e, writeL_get' (by rw [writeL_len']; exact h1), writeL_get' h1, writeL_get' h1]
  simp only [List.length_replicate, cutL_len]
  by_cases c1 : off + L ≤ i ∧ i < off + L + (n - L)
  · rw [if_pos c1, if_pos (by omega), cutL_get _ _ (by omega), List.getD_eq_getElem?_getD, List.getElem?_replicate, if_pos (by omega), List.getD_eq_getElem?_getD, List.getElem?_eq_none (by omega)]; rfl
  · rw [if_neg c1]
    by_cases c2 : off ≤ i ∧ i < off + L
    · rw [if_pos c2, if_pos (by omega), cutL_get _ _ (by omega), cutL_get _ _ (by omega)]
    · rw [if_neg c2, if_neg (by omega)]
/-- mem.Arena.Write, within the source -/
theorem mWriteS {I : Ent → Prop} {G : List Ent} {cb sz b cap off n fr : Nat} {T : TypeId} {c cm : Nat → Value} {mem src : List Nat} {sv : Value} (hsz : 2435 ≤ sz) (hA : ArI c mem [⟨b, mulS cap 1, 5, cm⟩]) (h1 : c 1 = sl b 0 mem.length cap) (h2 : mem.length ≤ cap) (h4 : Row cm 0 (bvs mem)) (hn : 0 < n) (hon : off + n ≤ mem.length) (hs : Byt ⟨I, []⟩ sv src) (hfr : fr < src.length) (hf64 : fr < 18446744073709551616) (hsl2 : src.length < 2 ^ 30) :
    CallG Hvaf.prog 268 #[ptr cb 1, .int .u32 (off : Nat), sv, .int .u64 (fr : Nat), .int .u32 (n : Nat)] ⟨I, ⟨cb, sz, T, c⟩ :: ⟨b, mulS cap 1, 5, cm⟩ :: G⟩ fun r S' => r = .bool true ∧ ∃ cm', S' = ⟨I, ⟨cb, sz, T, c⟩ :: ⟨b, mulS cap 1, 5, cm'⟩ :: G⟩ ∧ Row cm' 0 (bvs (writeL mem off (cutL src fr n))) := by
  have hpt := mPart (I := I) (G := ⟨b, mulS cap 1, 5, cm⟩ :: G) (cb := cb) (T := T) (off := off) (n := n) hsz hA h1 hn hon
  have hlen := hA.bf.len
  rcases hs.cases with ⟨_, h5⟩ | ⟨x, o, scap, rfl, h5, h6, hx, hbs⟩
  · rw [h5] at hfr; simp at hfr
  have hxI : I x := by rcases hx with h | h; exact h; simp at h
  have hao : addS o (mulS fr 1) = o + fr := addS_mulS _ _ _ rfl
  have hb1 := hbs.1
  have h8 : ∀ k, k < src.length → x.c (o + k) = .int .u8 (src.getD k 0 : Nat) := hbs.2
  have hl := cutL_len src fr n
  by_cases hle : n ≤ src.length - fr
  · have hcell : cellsFrom x.c (addS o (mulS fr 1)) (mulS n 1) = bvs (cutL src fr n) := by
      rw [hao, mulS_eq, Nat.mul_one]
      apply List.ext_getElem?
      intro p
      by_cases hp : p < n
      · rw [cellsFrom_get _ _ _ _ hp, Nat.add_assoc, h8 _ (by omega), bvs, List.getElem?_map, List.getElem?_eq_getElem (by rw [hl]; exact hp)]
        have := cutL_get src fr hp
        rw [List.getD_eq_getElem?_getD, List.getElem?_eq_getElem (by rw [hl]; exact hp), Option.getD_some] at this
        rw [this]; rfl
      · rw [List.getElem?_eq_none (by simp; omega), List.getElem?_eq_none (by rw [bvs_len, hl]; omega)]
    have hrw := row_write (bs := cutL src fr n) (off := off) h4 (by rw [hl]; exact hon)
    rw [← hcell] at hrw
    refine CallG.start (C := mkC Hvaf.prog) cok (args := [ptr cb 1, .int .u32 (off : Nat), .slice (some ⟨x.b, o, none⟩) src.length scap, .int .u64 (fr : Nat), .int .u32 (n : Nat)]) Hvaf.func268 rfl Hvaf.ntmps268 (by simp) (by kernel_rfl) ?_
    repeat (first | refine SeqS.go cok ?_)
    refine CallG.sameL [] hpt ?_
    repeat (first | refine SeqS.go cok ?_ | refine CondS.f rfl ?_ | refine And.intro (Eq.refl true) ?_ | refine And.intro (by omega) ?_ | (refine NatS.keep ?_; first | with_reducible refine NatS.nat ?_) | (refine ValS.keep ?_; first | (with_reducible refine ValS.kU64 ?_; first | (with_reducible refine ValS.convU64 ?_ ?_ ; omega)) | (with_reducible refine ValS.slN ?_ ?_; omega)) | (refine CondS.keep ?_; first | refine CondS.d1 rfl (by omega) ?_))
    refine OpG.keep ?_
    refine OpG.copyQ cok 1 (q := n) (by omega) rfl (y := x) (.inl hxI) rfl rfl rfl rfl rfl rfl rfl ?_ ?_ ?_ ?_
    · show off + mulS n 1 ≤ mulS cap 1; rw [mulS_eq, mulS_eq]; omega
    · show addS o (mulS fr 1) + mulS n 1 ≤ x.sz; rw [hao, mulS_eq]; omega
    · intro p hp
      have hp : p < mulS n 1 := hp
      rw [mulS_eq] at hp
      show one (x.c (addS o (mulS fr 1) + p)) = true
      rw [hao, Nat.add_assoc, h8 _ (by omega)]; rfl
    repeat (first | refine SeqS.go cok ?_ | refine And.intro (Eq.refl true) ?_ | refine And.intro (by omega) ?_ | (refine NatS.keep ?_; first | with_reducible refine NatS.nat ?_))
    refine ValS.slZ ?_
    skip
    refine OpG.keep ?_
    refine OpG.clear0 cok rfl rfl rfl ?_
    repeat (first | refine SeqS.go cok ?_)
    exact Fin.same ⟨rfl, _, rfl, hrw⟩
  · generalize hL : src.length - fr = L at *
    have hLn : L < n := by omega
    have hcell : cellsFrom x.c (addS o (mulS fr 1)) (mulS L 1) = bvs (cutL src fr L) := by
      rw [hao, mulS_eq, Nat.mul_one]
      apply List.ext_getElem?
      intro p
      by_cases hp : p < L
      · rw [cellsFrom_get _ _ _ _ hp, Nat.add_assoc, h8 _ (by omega), bvs, List.getElem?_map, List.getElem?_eq_getElem (by rw [cutL_len]; exact hp)]
        have := cutL_get src fr hp
        rw [List.getD_eq_getElem?_getD, List.getElem?_eq_getElem (by rw [cutL_len]; exact hp), Option.getD_some] at this
        rw [this]; rfl
      · rw [List.getElem?_eq_none (by simp; omega), List.getElem?_eq_none (by rw [bvs_len, cutL_len]; omega)]
    have hrw := row_write (bs := cutL src fr L) (off := off) h4 (by rw [cutL_len]; omega)
    have hrw2 := row_write (bs := List.replicate (n - L) 0) (off := off + L) hrw (by rw [writeL_len', List.length_replicate]; omega)
    have hoL : addS off (mulS L 1) = off + L := addS_mulS _ _ _ rfl
    rw [write_two (by omega) hon (by omega), ← zeros8, ← hoL, ← hcell] at hrw2
    refine CallG.start (C := mkC Hvaf.prog) cok (args := [ptr cb 1, .int .u32 (off : Nat), .slice (some ⟨x.b, o, none⟩) src.length scap, .int .u64 (fr : Nat), .int .u32 (n : Nat)]) Hvaf.func268 rfl Hvaf.ntmps268 (by simp) (by kernel_rfl) ?_
    repeat (first | refine SeqS.go cok ?_)
    refine CallG.sameL [] hpt ?_
    repeat (first | refine SeqS.go cok ?_ | refine CondS.f rfl ?_ | refine And.intro (Eq.refl true) ?_ | refine And.intro (by omega) ?_ | (refine NatS.keep ?_; first | with_reducible refine NatS.nat ?_) | (refine ValS.keep ?_; first | (with_reducible refine ValS.kU64 ?_; first | (with_reducible refine ValS.convU64 ?_ ?_ ; omega)) | (with_reducible refine ValS.slN ?_ ?_; omega)) | (refine CondS.keep ?_; first | refine CondS.d1 rfl (by omega) ?_))
    refine OpG.keep ?_
    refine OpG.copyQ cok 1 (q := L) (by omega) rfl (y := x) (.inl hxI) rfl rfl rfl rfl rfl rfl rfl ?_ ?_ ?_ ?_
    · show off + mulS L 1 ≤ mulS cap 1; rw [mulS_eq, mulS_eq]; omega
    · show addS o (mulS fr 1) + mulS L 1 ≤ x.sz; rw [hao, mulS_eq]; omega
    · intro p hp
      have hp : p < mulS L 1 := hp
      rw [mulS_eq] at hp
      show one (x.c (addS o (mulS fr 1) + p)) = true
      rw [hao, Nat.add_assoc, h8 _ (by omega)]; rfl
    repeat (first | refine SeqS.go cok ?_ | refine And.intro (Eq.refl true) ?_ | refine And.intro (by omega) ?_ | (refine NatS.keep ?_; first | with_reducible refine NatS.nat ?_) | (refine ValS.keep ?_; first | (with_reducible refine ValS.slN ?_ ?_; omega)))
    refine OpG.keep ?_
    refine OpG.clear cok 1 rfl rfl rfl rfl (fun p hp => rfl) rfl rfl (by show addS off (mulS L 1) + mulS (n - L) 1 ≤ mulS cap 1; rw [hoL, mulS_eq, mulS_eq]; omega) ?_
    repeat (first | refine SeqS.go cok ?_)
    exact Fin.same ⟨rfl, _, rfl, hrw2⟩
/-- mem.Arena.Write -/
theorem mWrite {I : Ent → Prop} {G : List Ent} {cb sz b cap off n fr : Nat} {T : TypeId} {c cm : Nat → Value} {mem src : List Nat} {sv : Value} (hsz : 2435 ≤ sz) (hA : ArI c mem [⟨b, mulS cap 1, 5, cm⟩]) (h1 : c 1 = sl b 0 mem.length cap) (h2 : mem.length ≤ cap) (h4 : Row cm 0 (bvs mem)) (hn : 0 < n) (hon : off + n ≤ mem.length) (hs : Byt ⟨I, []⟩ sv src) (hf64 : fr < 18446744073709551616) (hsl2 : src.length < 2 ^ 30) :
    CallG Hvaf.prog 268 #[ptr cb 1, .int .u32 (off : Nat), sv, .int .u64 (fr : Nat), .int .u32 (n : Nat)] ⟨I, ⟨cb, sz, T, c⟩ :: ⟨b, mulS cap 1, 5, cm⟩ :: G⟩ fun r S' => r = .bool true ∧ ∃ cm', S' = ⟨I, ⟨cb, sz, T, c⟩ :: ⟨b, mulS cap 1, 5, cm'⟩ :: G⟩ ∧ Row cm' 0 (bvs (writeL mem off (cutL src fr n))) := by
  by_cases hfr : fr < src.length
  · exact mWriteS hsz hA h1 h2 h4 hn hon hs hfr hf64 hsl2
  · exact mWriteZ hsz hA h1 h2 h4 hn hon hs (by omega) hf64
end Go.Proofs.YgvafwGreat
