import Derived.Test.YgvafwGreatV16
import Derived.Test.YgvafwGreatV17
set_option exponentiation.threshold 1000
set_option maxRecDepth 100000
set_option maxHeartbeats 4000000
set_option linter.unusedVariables false
set_option linter.unusedSimpArgs false
-- v2
-- v4
-- v5
-- v6
-- v7
namespace Go.Proofs.YgvafwGreat
open Go.HL Go.Proofs

/-- An entry's old content is laid back. -/
def undo1 (V : Vl) (e : VE) : Vl :=
  if e.kd = 3 then { V with sl := V.sl.set e.pl { V.sl.getD e.pl dVS with val := e.w } }
  else if e.kd = 4 then { V with ac := V.ac.set e.pl { V.ac.getD e.pl dVA with warm := e.fl } }
  else if e.kd = 5 then { V with sl := V.sl.set e.pl { V.sl.getD e.pl dVS with warm := e.fl } }
  else if e.kd = 6 then { V with rf := e.n }
  else if e.kd = 7 then { V with lg := V.lg.dropLast }
  else if e.kd = 8 then { V with tp := V.tp.set e.pl { V.tp.getD e.pl dVT with val := e.w } }
  else if e.kd = 1 then { V with ac := V.ac.set e.pl { V.ac.getD e.pl dVA with nonce := e.n } }
  else if e.kd = 9 then { V with ac := V.ac.set e.pl { V.ac.getD e.pl dVA with made := e.fl } }
  else V
/-- The entry names a place. -/
structure EOk (V : Vl) (e : VE) : Prop where
  kd : e.kd = 3 ∨ e.kd = 4 ∨ e.kd = 5 ∨ e.kd = 6 ∨ e.kd = 7 ∨ e.kd = 8 ∨ e.kd = 1 ∨ e.kd = 9
  ac : e.kd = 4 ∨ e.kd = 1 ∨ e.kd = 9 → e.pl < V.ac.length
  sl : e.kd = 3 ∨ e.kd = 5 → e.pl < V.sl.length
  tp : e.kd = 8 → e.pl < V.tp.length
  lg : e.kd = 7 → V.lg ≠ []
theorem VE.g0 (e : VE) : e.enc.getD 0 undef = .int .u8 (e.kd : Nat) := rfl
theorem VE.g1 (e : VE) : e.enc.getD 1 undef = .int .i32 (e.pl : Nat) := rfl
theorem VE.g2 (e : VE) : e.enc.getD 2 undef = .int .u64 (e.n : Nat) := rfl
theorem VE.g8 (e : VE) : e.enc.getD 8 undef = .bool e.fl := rfl
theorem VE.gw (e : VE) : (e.enc.drop 3).take 4 = wcs e.w := rfl
theorem VI.jblk {I : Ent → Prop} {c : Nat → Value} {V : Vl} {G : List Ent} (h : VI I c V G) (hl : 0 < V.jr.length) : ∃ jb jcap cj, c 10629 = sl jb 0 V.jr.length jcap ∧ V.jr.length ≤ jcap ∧ (⟨jb, mulS jcap 9, 228, cj⟩ : Ent) ∈ G ∧ Els ⟨jb, mulS jcap 9, 228, cj⟩ 0 9 (V.jr.map VE.enc) := by
  obtain ⟨MA, MS, MJ, ML, MT, MH, hq, hb⟩ := h.own
  obtain ⟨b, cap, ca, h1, h2, rfl, h4⟩ := hb.oj.some (by rw [List.length_map]; exact hl)
  rw [List.length_map] at h1 h2
  exact ⟨b, cap, ca, h1, h2, hq.symm.subset (by simp), h4⟩
def UndoP (I : Ent → Prop) (R : List Ent) (cb sz : Nat) (T : TypeId) (c : Nat → Value) (V' : Vl) : Post := fun r S' =>
  r = .bool true ∧ ∃ c' G', S' = ⟨I, ⟨cb, sz, T, c'⟩ :: (R ++ G')⟩ ∧ VI I c' V' G' ∧ c' 10629 = c 10629 ∧ c' 27014 = c 27014 ∧ Out c c'
theorem setWarmB {x : VA} {f : Bool} (h : x.ad.length = 20) : x.enc.set 26 (.bool f) = ({ x with warm := f } : VA).enc := setAt 6 h
theorem setMadeB {x : VA} {f : Bool} (h : x.ad.length = 20) : x.enc.set 27 (.bool f) = ({ x with made := f } : VA).enc := setAt 7 h
theorem setSWB {x : VSl} {f : Bool} : x.enc.set 13 (.bool f) = ({ x with warm := f } : VSl).enc := rfl
theorem cdset {I : Ent → Prop} {c : Nat → Value} {V : Vl} {G : List Ent} {i : Nat} {y x : VA} (hV : VI I c V G) (hm : y ∈ V.ac) (h1 : x.cv = y.cv := by rfl) (h2 : x.code = y.code := by rfl) : ∀ z ∈ V.ac.set i x, Byt ⟨I, []⟩ z.cv z.code := by
  intro z hz
  rcases List.mem_or_eq_of_mem_set hz with h | h
  · exact hV.cd z h
  · rw [h, h1, h2]; exact hV.cd _ hm
theorem perm_o {x s : Ent} {R Y M G : List Ent} (hp : G.Perm (s :: (Y ++ M))) : (x :: (R ++ G)).Perm (x :: s :: ((R ++ Y) ++ M)) := by
  refine perm_sum fun f => ?_
  have := sumE_perm (f := f) hp
  simp only [sumE, sumE_append] at this ⊢; omega
theorem perm_o' {x s : Ent} {R Y M : List Ent} : (x :: s :: ((R ++ Y) ++ M)).Perm ((x :: (R ++ (s :: (Y ++ M)))) ++ []) := by
  refine perm_sum fun f => ?_
  simp only [sumE, sumE_append]; omega
theorem vUndoV4 {I : Ent → Prop} {R G : List Ent} {cb sz jb jcap q : Nat} {T : TypeId} {c cj : Nat → Value} {V : Vl} {e : VE} (hsz : 27019 ≤ sz) (hV : VI I c V G) (hO : VOk V) (hE0 : EOk V e) (h : e.kd = 4) (hj1 : (⟨jb, mulS jcap 9, 228, cj⟩ : Ent) ∈ G) (hj2 : Els ⟨jb, mulS jcap 9, 228, cj⟩ 0 9 (V.jr.map VE.enc)) (hq : q < V.jr.length) (he : V.jr.getD q dVE = e) :
    CallG Hvaf.prog 409 #[ptr cb 2435, ptr jb (addS 0 (mulS q 9))] ⟨I, ⟨cb, sz, T, c⟩ :: (R ++ G)⟩ (UndoP I R cb sz T c (undo1 V e)) := by
  have hpl := hE0.ac (.inl h)
  have hm := getD_mem (d := dVA) hpl
  obtain ⟨b, cap, ca, Y, MJ, hp, hA⟩ := hV.openA (by omega)
  have hjm : (⟨jb, mulS jcap 9, 228, cj⟩ : Ent) ∈ ((R ++ Y) ++ MJ) := by
    rcases List.mem_cons.1 (hp.subset hj1) with h1 | h1
    · exact absurd (congrArg Ent.T h1) (by intro hc; revert hc; exact (by decide : ¬ (228 = 177)))
    · rcases List.mem_append.1 h1 with h2 | h2
      · simp [h2]
      · simp [h2]
  have hmap : (V.jr.map VE.enc).getD q [] = e.enc := by rw [getD_map (d := dVE) hq, he]
  have hln := hO.aln
  have hln2 := hO.sln
  have hln3 := hO.tln
  refine CallG.perm _ (perm_o hp) ?_
  refine CallG.post ((vUndo4 (p := e.pl) hsz hA.sl hA.els (by rw [List.length_map]) (by omega) hpl hjm hj2 (by rw [List.length_map]; exact hq) (by rw [hmap, VE.g0, h]) (by rw [hmap, VE.g1]) (by rw [hmap, VE.g8]) rfl).mono ?_)
  rintro r _ - ⟨rfl, ca', rfl, hE'⟩
  refine Rel.perm (⟨cb, sz, T, c⟩ :: (R ++ (⟨b, mulS cap 29, 177, ca'⟩ :: (Y ++ MJ)))) [] perm_o' ⟨rfl, c, _, rfl, ?_, rfl, rfl, .refl _⟩
  have hcl := hA.close ca' (c 10629) (V.ac.set e.pl { V.ac.getD e.pl dVA with warm := e.fl }) V.jr MJ (by
    rw [List.map_set]
    rw [getD_map (d := dVA) hpl] at hE'
    have hs : _ = ({ V.ac.getD e.pl dVA with warm := e.fl } : _).enc := (setWarmB (hO.aok _ hm).len)
    rw [← hs]; exact hE') List.length_set hA.jr (cdset hV hm)
  rw [upd_self] at hcl
  unfold undo1
  rw [if_neg (by omega), if_pos h]
  exact hcl
theorem vUndoV1 {I : Ent → Prop} {R G : List Ent} {cb sz jb jcap q : Nat} {T : TypeId} {c cj : Nat → Value} {V : Vl} {e : VE} (hsz : 27019 ≤ sz) (hV : VI I c V G) (hO : VOk V) (hE0 : EOk V e) (h : e.kd = 1) (hj1 : (⟨jb, mulS jcap 9, 228, cj⟩ : Ent) ∈ G) (hj2 : Els ⟨jb, mulS jcap 9, 228, cj⟩ 0 9 (V.jr.map VE.enc)) (hq : q < V.jr.length) (he : V.jr.getD q dVE = e) :
    CallG Hvaf.prog 409 #[ptr cb 2435, ptr jb (addS 0 (mulS q 9))] ⟨I, ⟨cb, sz, T, c⟩ :: (R ++ G)⟩ (UndoP I R cb sz T c (undo1 V e)) := by
  have hpl := hE0.ac (.inr (.inl h))
  have hm := getD_mem (d := dVA) hpl
  obtain ⟨b, cap, ca, Y, MJ, hp, hA⟩ := hV.openA (by omega)
  have hjm : (⟨jb, mulS jcap 9, 228, cj⟩ : Ent) ∈ ((R ++ Y) ++ MJ) := by
    rcases List.mem_cons.1 (hp.subset hj1) with h1 | h1
    · exact absurd (congrArg Ent.T h1) (by intro hc; revert hc; exact (by decide : ¬ (228 = 177)))
    · rcases List.mem_append.1 h1 with h2 | h2
      · simp [h2]
      · simp [h2]
  have hmap : (V.jr.map VE.enc).getD q [] = e.enc := by rw [getD_map (d := dVE) hq, he]
  have hln := hO.aln
  have hln2 := hO.sln
  have hln3 := hO.tln
  refine CallG.perm _ (perm_o hp) ?_
  refine CallG.post ((vUndo1 (p := e.pl) hsz hA.sl hA.els (by rw [List.length_map]) (by omega) hpl hjm hj2 (by rw [List.length_map]; exact hq) (by rw [hmap, VE.g0, h]) (by rw [hmap, VE.g1]) (by rw [hmap, VE.g2]) rfl).mono ?_)
  rintro r _ - ⟨rfl, ca', rfl, hE'⟩
  refine Rel.perm (⟨cb, sz, T, c⟩ :: (R ++ (⟨b, mulS cap 29, 177, ca'⟩ :: (Y ++ MJ)))) [] perm_o' ⟨rfl, c, _, rfl, ?_, rfl, rfl, .refl _⟩
  have hcl := hA.close ca' (c 10629) (V.ac.set e.pl { V.ac.getD e.pl dVA with nonce := e.n }) V.jr MJ (by
    rw [List.map_set]
    rw [getD_map (d := dVA) hpl] at hE'
    have hs : _ = ({ V.ac.getD e.pl dVA with nonce := e.n } : _).enc := (setNonce (hO.aok _ hm).len)
    rw [← hs]; exact hE') List.length_set hA.jr (cdset hV hm)
  rw [upd_self] at hcl
  unfold undo1
  rw [if_neg (by omega), if_neg (by omega), if_neg (by omega), if_neg (by omega), if_neg (by omega), if_neg (by omega), if_pos h]
  exact hcl
theorem vUndoV9 {I : Ent → Prop} {R G : List Ent} {cb sz jb jcap q : Nat} {T : TypeId} {c cj : Nat → Value} {V : Vl} {e : VE} (hsz : 27019 ≤ sz) (hV : VI I c V G) (hO : VOk V) (hE0 : EOk V e) (h : e.kd = 9) (hj1 : (⟨jb, mulS jcap 9, 228, cj⟩ : Ent) ∈ G) (hj2 : Els ⟨jb, mulS jcap 9, 228, cj⟩ 0 9 (V.jr.map VE.enc)) (hq : q < V.jr.length) (he : V.jr.getD q dVE = e) :
    CallG Hvaf.prog 409 #[ptr cb 2435, ptr jb (addS 0 (mulS q 9))] ⟨I, ⟨cb, sz, T, c⟩ :: (R ++ G)⟩ (UndoP I R cb sz T c (undo1 V e)) := by
  have hpl := hE0.ac (.inr (.inr h))
  have hm := getD_mem (d := dVA) hpl
  obtain ⟨b, cap, ca, Y, MJ, hp, hA⟩ := hV.openA (by omega)
  have hjm : (⟨jb, mulS jcap 9, 228, cj⟩ : Ent) ∈ ((R ++ Y) ++ MJ) := by
    rcases List.mem_cons.1 (hp.subset hj1) with h1 | h1
    · exact absurd (congrArg Ent.T h1) (by intro hc; revert hc; exact (by decide : ¬ (228 = 177)))
    · rcases List.mem_append.1 h1 with h2 | h2
      · simp [h2]
      · simp [h2]
  have hmap : (V.jr.map VE.enc).getD q [] = e.enc := by rw [getD_map (d := dVE) hq, he]
  have hln := hO.aln
  have hln2 := hO.sln
  have hln3 := hO.tln
  refine CallG.perm _ (perm_o hp) ?_
  refine CallG.post ((vUndo9 (p := e.pl) hsz hA.sl hA.els (by rw [List.length_map]) (by omega) hpl hjm hj2 (by rw [List.length_map]; exact hq) (by rw [hmap, VE.g0, h]) (by rw [hmap, VE.g1]) (by rw [hmap, VE.g8]) rfl).mono ?_)
  rintro r _ - ⟨rfl, ca', rfl, hE'⟩
  refine Rel.perm (⟨cb, sz, T, c⟩ :: (R ++ (⟨b, mulS cap 29, 177, ca'⟩ :: (Y ++ MJ)))) [] perm_o' ⟨rfl, c, _, rfl, ?_, rfl, rfl, .refl _⟩
  have hcl := hA.close ca' (c 10629) (V.ac.set e.pl { V.ac.getD e.pl dVA with made := e.fl }) V.jr MJ (by
    rw [List.map_set]
    rw [getD_map (d := dVA) hpl] at hE'
    have hs : _ = ({ V.ac.getD e.pl dVA with made := e.fl } : _).enc := (setMadeB (hO.aok _ hm).len)
    rw [← hs]; exact hE') List.length_set hA.jr (cdset hV hm)
  rw [upd_self] at hcl
  unfold undo1
  rw [if_neg (by omega), if_neg (by omega), if_neg (by omega), if_neg (by omega), if_neg (by omega), if_neg (by omega), if_neg (by omega), if_pos h]
  exact hcl
theorem vUndoV3 {I : Ent → Prop} {R G : List Ent} {cb sz jb jcap q : Nat} {T : TypeId} {c cj : Nat → Value} {V : Vl} {e : VE} (hsz : 27019 ≤ sz) (hV : VI I c V G) (hO : VOk V) (hE0 : EOk V e) (h : e.kd = 3) (hj1 : (⟨jb, mulS jcap 9, 228, cj⟩ : Ent) ∈ G) (hj2 : Els ⟨jb, mulS jcap 9, 228, cj⟩ 0 9 (V.jr.map VE.enc)) (hq : q < V.jr.length) (he : V.jr.getD q dVE = e) :
    CallG Hvaf.prog 409 #[ptr cb 2435, ptr jb (addS 0 (mulS q 9))] ⟨I, ⟨cb, sz, T, c⟩ :: (R ++ G)⟩ (UndoP I R cb sz T c (undo1 V e)) := by
  have hpl := hE0.sl (.inl h)
  have hm := getD_mem (d := dVS) hpl
  obtain ⟨b, cap, ca, Y, MJ, hp, hA⟩ := hV.openS (by omega)
  have hjm : (⟨jb, mulS jcap 9, 228, cj⟩ : Ent) ∈ ((R ++ Y) ++ MJ) := by
    rcases List.mem_cons.1 (hp.subset hj1) with h1 | h1
    · exact absurd (congrArg Ent.T h1) (by intro hc; revert hc; exact (by decide : ¬ (228 = 186)))
    · rcases List.mem_append.1 h1 with h2 | h2
      · simp [h2]
      · simp [h2]
  have hmap : (V.jr.map VE.enc).getD q [] = e.enc := by rw [getD_map (d := dVE) hq, he]
  have hln := hO.aln
  have hln2 := hO.sln
  have hln3 := hO.tln
  refine CallG.perm _ (perm_o hp) ?_
  refine CallG.post ((vUndo3 (p := e.pl) hsz hA.sl hA.els (by rw [List.length_map]) (by omega) hpl hjm hj2 (by rw [List.length_map]; exact hq) (by rw [hmap, VE.g0, h]) (by rw [hmap, VE.g1]) (by rw [hmap, VE.gw])).mono ?_)
  rintro r _ - ⟨rfl, ca', rfl, hE'⟩
  refine Rel.perm (⟨cb, sz, T, c⟩ :: (R ++ (⟨b, mulS cap 14, 186, ca'⟩ :: (Y ++ MJ)))) [] perm_o' ⟨rfl, c, _, rfl, ?_, rfl, rfl, .refl _⟩
  have hcl := hA.close ca' (c 10629) (V.sl.set e.pl { V.sl.getD e.pl dVS with val := e.w }) V.jr MJ (by
    rw [List.map_set]
    rw [getD_map (d := dVS) hpl] at hE'
    have hs : _ = ({ V.sl.getD e.pl dVS with val := e.w } : _).enc := setVal
    rw [← hs]; exact hE') List.length_set hA.jr
  rw [upd_self] at hcl
  unfold undo1
  rw [if_pos h]
  exact hcl
theorem vUndoV5 {I : Ent → Prop} {R G : List Ent} {cb sz jb jcap q : Nat} {T : TypeId} {c cj : Nat → Value} {V : Vl} {e : VE} (hsz : 27019 ≤ sz) (hV : VI I c V G) (hO : VOk V) (hE0 : EOk V e) (h : e.kd = 5) (hj1 : (⟨jb, mulS jcap 9, 228, cj⟩ : Ent) ∈ G) (hj2 : Els ⟨jb, mulS jcap 9, 228, cj⟩ 0 9 (V.jr.map VE.enc)) (hq : q < V.jr.length) (he : V.jr.getD q dVE = e) :
    CallG Hvaf.prog 409 #[ptr cb 2435, ptr jb (addS 0 (mulS q 9))] ⟨I, ⟨cb, sz, T, c⟩ :: (R ++ G)⟩ (UndoP I R cb sz T c (undo1 V e)) := by
  have hpl := hE0.sl (.inr h)
  have hm := getD_mem (d := dVS) hpl
  obtain ⟨b, cap, ca, Y, MJ, hp, hA⟩ := hV.openS (by omega)
  have hjm : (⟨jb, mulS jcap 9, 228, cj⟩ : Ent) ∈ ((R ++ Y) ++ MJ) := by
    rcases List.mem_cons.1 (hp.subset hj1) with h1 | h1
    · exact absurd (congrArg Ent.T h1) (by intro hc; revert hc; exact (by decide : ¬ (228 = 186)))
    · rcases List.mem_append.1 h1 with h2 | h2
      · simp [h2]
      · simp [h2]
  have hmap : (V.jr.map VE.enc).getD q [] = e.enc := by rw [getD_map (d := dVE) hq, he]
  have hln := hO.aln
  have hln2 := hO.sln
  have hln3 := hO.tln
  refine CallG.perm _ (perm_o hp) ?_
  refine CallG.post ((vUndo5 (p := e.pl) hsz hA.sl hA.els (by rw [List.length_map]) (by omega) hpl hjm hj2 (by rw [List.length_map]; exact hq) (by rw [hmap, VE.g0, h]) (by rw [hmap, VE.g1]) (by rw [hmap, VE.g8]) rfl).mono ?_)
  rintro r _ - ⟨rfl, ca', rfl, hE'⟩
  refine Rel.perm (⟨cb, sz, T, c⟩ :: (R ++ (⟨b, mulS cap 14, 186, ca'⟩ :: (Y ++ MJ)))) [] perm_o' ⟨rfl, c, _, rfl, ?_, rfl, rfl, .refl _⟩
  have hcl := hA.close ca' (c 10629) (V.sl.set e.pl { V.sl.getD e.pl dVS with warm := e.fl }) V.jr MJ (by
    rw [List.map_set]
    rw [getD_map (d := dVS) hpl] at hE'
    have hs : _ = ({ V.sl.getD e.pl dVS with warm := e.fl } : _).enc := setSWB
    rw [← hs]; exact hE') List.length_set hA.jr
  rw [upd_self] at hcl
  unfold undo1
  rw [if_neg (by omega), if_neg (by omega), if_pos h]
  exact hcl
theorem vUndoV8 {I : Ent → Prop} {R G : List Ent} {cb sz jb jcap q : Nat} {T : TypeId} {c cj : Nat → Value} {V : Vl} {e : VE} (hsz : 27019 ≤ sz) (hV : VI I c V G) (hO : VOk V) (hE0 : EOk V e) (h : e.kd = 8) (hj1 : (⟨jb, mulS jcap 9, 228, cj⟩ : Ent) ∈ G) (hj2 : Els ⟨jb, mulS jcap 9, 228, cj⟩ 0 9 (V.jr.map VE.enc)) (hq : q < V.jr.length) (he : V.jr.getD q dVE = e) :
    CallG Hvaf.prog 409 #[ptr cb 2435, ptr jb (addS 0 (mulS q 9))] ⟨I, ⟨cb, sz, T, c⟩ :: (R ++ G)⟩ (UndoP I R cb sz T c (undo1 V e)) := by
  have hpl := hE0.tp h
  have hm := getD_mem (d := dVT) hpl
  obtain ⟨b, cap, ca, Y, MJ, hp, hA⟩ := hV.openT (by omega)
  have hjm : (⟨jb, mulS jcap 9, 228, cj⟩ : Ent) ∈ ((R ++ Y) ++ MJ) := by
    rcases List.mem_cons.1 (hp.subset hj1) with h1 | h1
    · exact absurd (congrArg Ent.T h1) (by intro hc; revert hc; exact (by decide : ¬ (228 = 440)))
    · rcases List.mem_append.1 h1 with h2 | h2
      · simp [h2]
      · simp [h2]
  have hmap : (V.jr.map VE.enc).getD q [] = e.enc := by rw [getD_map (d := dVE) hq, he]
  have hln := hO.aln
  have hln2 := hO.sln
  have hln3 := hO.tln
  refine CallG.perm _ (perm_o hp) ?_
  refine CallG.post ((vUndo8 (p := e.pl) hsz hA.sl hA.els (by rw [List.length_map]) (by omega) hpl hjm hj2 (by rw [List.length_map]; exact hq) (by rw [hmap, VE.g0, h]) (by rw [hmap, VE.g1]) (by rw [hmap, VE.gw])).mono ?_)
  rintro r _ - ⟨rfl, ca', rfl, hE'⟩
  refine Rel.perm (⟨cb, sz, T, c⟩ :: (R ++ (⟨b, mulS cap 9, 440, ca'⟩ :: (Y ++ MJ)))) [] perm_o' ⟨rfl, c, _, rfl, ?_, rfl, rfl, .refl _⟩
  have hcl := hA.close ca' (c 10629) (V.tp.set e.pl { V.tp.getD e.pl dVT with val := e.w }) V.jr MJ (by
    rw [List.map_set]
    rw [getD_map (d := dVT) hpl] at hE'
    have hs : _ = ({ V.tp.getD e.pl dVT with val := e.w } : _).enc := setValT
    rw [← hs]; exact hE') List.length_set hA.jr
  rw [upd_self] at hcl
  unfold undo1
  rw [if_neg (by omega), if_neg (by omega), if_neg (by omega), if_neg (by omega), if_neg (by omega), if_pos h]
  exact hcl
theorem _root_.Go.Proofs.YgvafwGreat.L2.dropLast {α : Type} {R : List Value → α → Prop} {d : α} {vss : List (List Value)} {al : List α} (h : L2 R d vss al) : L2 R d vss.dropLast al.dropLast := by
  have hl := h.len
  refine ⟨by simp [hl], fun i hi => ?_⟩
  rw [List.length_dropLast] at hi
  have := h.at' i (by omega)
  rw [List.getD_eq_getElem?_getD, List.getD_eq_getElem?_getD, List.getElem?_dropLast, List.getElem?_dropLast, if_pos (by omega), if_pos hi, ← List.getD_eq_getElem?_getD, ← List.getD_eq_getElem?_getD]
  exact this
theorem vUndoV6 {I : Ent → Prop} {R G : List Ent} {cb sz jb jcap q : Nat} {T : TypeId} {c cj : Nat → Value} {V : Vl} {e : VE} (hsz : 27019 ≤ sz) (hV : VI I c V G) (hO : VOk V) (hE0 : EOk V e) (h : e.kd = 6) (hj1 : (⟨jb, mulS jcap 9, 228, cj⟩ : Ent) ∈ G) (hj2 : Els ⟨jb, mulS jcap 9, 228, cj⟩ 0 9 (V.jr.map VE.enc)) (hq : q < V.jr.length) (he : V.jr.getD q dVE = e) :
    CallG Hvaf.prog 409 #[ptr cb 2435, ptr jb (addS 0 (mulS q 9))] ⟨I, ⟨cb, sz, T, c⟩ :: (R ++ G)⟩ (UndoP I R cb sz T c (undo1 V e)) := by
  have hmap : (V.jr.map VE.enc).getD q [] = e.enc := by rw [getD_map (d := dVE) hq, he]
  obtain ⟨Y, MJ, hp, hA⟩ := hV.openJ
  refine (vUndo6 (n := e.n) hsz (List.mem_append_right R hj1) hj2 (by rw [List.length_map]; exact hq) (by rw [hmap, VE.g0, h]) (by rw [hmap, VE.g2])).mono ?_
  rintro r _ - ⟨rfl, rfl⟩
  refine ⟨rfl, _, G, rfl, ?_, updNe (by decide), updNe (by decide), fun k hk => updNe (by omega)⟩
  have hcl := hA.close (upd c 27015 (.int .u64 (e.n : Nat))) V.jr e.n MJ (fun k h1 h2 => updNe h2) (by rw [updNe (by decide)]; exact hA.jr) updEq
  unfold undo1
  rw [if_neg (by omega), if_neg (by omega), if_neg (by omega), if_pos h]
  exact hcl.perm hp
theorem vUndoV7 {I : Ent → Prop} {R G : List Ent} {cb sz jb jcap q : Nat} {T : TypeId} {c cj : Nat → Value} {V : Vl} {e : VE} (hsz : 27019 ≤ sz) (hV : VI I c V G) (hO : VOk V) (hE0 : EOk V e) (h : e.kd = 7) (hj1 : (⟨jb, mulS jcap 9, 228, cj⟩ : Ent) ∈ G) (hj2 : Els ⟨jb, mulS jcap 9, 228, cj⟩ 0 9 (V.jr.map VE.enc)) (hq : q < V.jr.length) (he : V.jr.getD q dVE = e) :
    CallG Hvaf.prog 409 #[ptr cb 2435, ptr jb (addS 0 (mulS q 9))] ⟨I, ⟨cb, sz, T, c⟩ :: (R ++ G)⟩ (UndoP I R cb sz T c (undo1 V e)) := by
  have hmap : (V.jr.map VE.enc).getD q [] = e.enc := by rw [getD_map (d := dVE) hq, he]
  have hln := hO.lln
  obtain ⟨MA, MS, MJ, ML, MT, MH, hpm, hb⟩ := hV.own
  obtain ⟨vss, hO2, hL⟩ := hb.ol.out
  have hlen := hL.len
  have hpos : 0 < V.lg.length := List.length_pos_iff.2 (hE0.lg h)
  obtain ⟨lb, lcap, cl, h1, h2, rfl, h4⟩ := hO2.some (by omega)
  refine (vUndo7 (n := vss.length) hsz h1 (by omega) h2 (by omega) (List.mem_append_right R hj1) hj2 (by rw [List.length_map]; exact hq) (by rw [hmap, VE.g0, h])).mono ?_
  rintro r _ - ⟨rfl, rfl⟩
  refine ⟨rfl, _, G, rfl, ?_, updNe (by decide), updNe (by decide), fun k hk => updNe (by omega)⟩
  have e2 : ∀ k, k ≠ 27016 → upd c 27016 (sl lb 0 (vss.length - 1) lcap) k = c k := fun k hk => updNe hk
  unfold undo1
  rw [if_neg (by omega), if_neg (by omega), if_neg (by omega), if_neg (by omega), if_pos h]
  refine ⟨⟨MA, MS, MJ, [⟨lb, mulS lcap 22, 141, cl⟩], MT, MH, hpm, ?_⟩, fun q hq => ?_, fun q hq => ?_, ?_, ?_, ?_, hV.cd⟩
  · refine ⟨?_, ?_, ?_, ?_, ?_, ?_⟩
    · rw [e2 _ (by omega)]; exact hb.oa
    · rw [e2 _ (by omega)]; exact hb.os
    · rw [e2 _ (by omega)]; exact hb.oj
    · refine ⟨vss.dropLast, ?_, ?_⟩
      · rw [updEq]
        refine OwnL.of ⟨fun l hl => h4.len l (List.dropLast_subset _ hl), ⟨fun j hj => ?_⟩, ?_⟩ (by rw [List.length_dropLast]) (by rw [List.length_dropLast]; omega)
        · have hsp : vss.flatten = vss.dropLast.flatten ++ (vss.getLast (by intro hc; rw [hc] at hlen; simp at hlen; omega)) := by
            conv => lhs; rw [← List.dropLast_concat_getLast (l := vss) (by intro hc; rw [hc] at hlen; simp at hlen; omega)]
            rw [List.flatten_append]; simp
          rw [h4.row.get j (by rw [hsp, List.length_append]; omega), hsp, List.getD_eq_getElem?_getD, List.getD_eq_getElem?_getD, List.getElem?_append_left hj]
        · have := h4.fit
          rw [List.length_dropLast]
          have : (vss.length - 1) * 22 ≤ vss.length * 22 := Nat.mul_le_mul_right _ (by omega)
          show 0 + (vss.length - 1) * 22 ≤ mulS lcap 22
          have hf : 0 + vss.length * 22 ≤ mulS lcap 22 := h4.fit
          omega
      · exact hL.dropLast
    · rw [e2 _ (by omega)]; exact hb.ot
    · rw [e2 _ (by omega)]; exact hb.oh
  · rw [e2 _ (by omega)]; exact hV.ta q hq
  · rw [e2 _ (by omega)]; exact hV.ts q hq
  · rw [e2 _ (by omega)]; exact hV.mrk
  · rw [e2 _ (by omega)]; exact hV.nm
  · rw [e2 _ (by omega)]; exact hV.rf
/-- vault.Vault.undo -/
theorem vUndo {I : Ent → Prop} {R G : List Ent} {cb sz jb jcap q : Nat} {T : TypeId} {c cj : Nat → Value} {V : Vl} {e : VE} (hsz : 27019 ≤ sz) (hV : VI I c V G) (hO : VOk V) (hE0 : EOk V e) (hj1 : (⟨jb, mulS jcap 9, 228, cj⟩ : Ent) ∈ G) (hj2 : Els ⟨jb, mulS jcap 9, 228, cj⟩ 0 9 (V.jr.map VE.enc)) (hq : q < V.jr.length) (he : V.jr.getD q dVE = e) :
    CallG Hvaf.prog 409 #[ptr cb 2435, ptr jb (addS 0 (mulS q 9))] ⟨I, ⟨cb, sz, T, c⟩ :: (R ++ G)⟩ (UndoP I R cb sz T c (undo1 V e)) := by
  rcases hE0.kd with h | h | h | h | h | h | h | h
  · exact vUndoV3 hsz hV hO hE0 h hj1 hj2 hq he
  · exact vUndoV4 hsz hV hO hE0 h hj1 hj2 hq he
  · exact vUndoV5 hsz hV hO hE0 h hj1 hj2 hq he
  · exact vUndoV6 hsz hV hO hE0 h hj1 hj2 hq he
  · exact vUndoV7 hsz hV hO hE0 h hj1 hj2 hq he
  · exact vUndoV8 hsz hV hO hE0 h hj1 hj2 hq he
  · exact vUndoV1 hsz hV hO hE0 h hj1 hj2 hq he
  · exact vUndoV9 hsz hV hO hE0 h hj1 hj2 hq he
end Go.Proofs.YgvafwGreat
