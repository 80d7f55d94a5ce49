import Derived.Test.YgvafwGreatY68
set_option exponentiation.threshold 1000
set_option maxRecDepth 100000
set_option maxHeartbeats 4000000
set_option linter.unusedVariables false
set_option linter.unusedSimpArgs false
-- v2
-- v4
-- v5
-- v6
-- v7
namespace Go.Proofs.YgvafwGreat
open Go.HL Go.Proofs

section
variable {I : Ent → Prop} {sb ssz fb fsz o t : Nat} {Ts Tf : TypeId} {cs cf : Nat → Value} {K : YK} {σ : NS} {M ML : List Ent}
theorem pl80 (h : YI I fb cs cf K σ M ML) (hsz : 179 ≤ ssz) (hfz : 60 ≤ fsz) (hN : NOk K σ) (hN' : NOk K (plainN kecN K σ 80)) (hpc : σ.pc < 2 ^ 20) (hs1 : 1 ≤ σ.s.length) :
    CallG Hvaf.prog 77 #[ptr sb 0, ptr fb 0, .int .u8 (80 : Nat)] ⟨I, ⟨sb, ssz, Ts, cs⟩ :: ⟨fb, fsz, Tf, cf⟩ :: (M ++ ML)⟩ fun _ S' => PlY sb ssz fb fsz Ts Tf cs K (plainN kecN K σ 80) S' := by
  refine plE (t := 1) h hfz hN' hpc (by decide) rfl rfl hs1 (by decide) (by decide) (.inl (by decide)) fun J av hs hA => ?_
  exact effS (h.c.W.up hs) (h.l.up hs) h.m (effQ (yEff80 hsz hfz (h.c.up hs) hA (by rw [argsN_len]; decide)))
theorem pl91 (h : YI I fb cs cf K σ M ML) (hsz : 179 ≤ ssz) (hfz : 60 ≤ fsz) (hN : NOk K σ) (hN' : NOk K (plainN kecN K σ 91)) (hpc : σ.pc < 2 ^ 20) (hs1 : 0 ≤ σ.s.length) :
    CallG Hvaf.prog 77 #[ptr sb 0, ptr fb 0, .int .u8 (91 : Nat)] ⟨I, ⟨sb, ssz, Ts, cs⟩ :: ⟨fb, fsz, Tf, cf⟩ :: (M ++ ML)⟩ fun _ S' => PlY sb ssz fb fsz Ts Tf cs K (plainN kecN K σ 91) S' := by
  refine plE (t := 0) h hfz hN' hpc (by decide) rfl rfl hs1 (by decide) (by decide) (.inl (by decide)) fun J av hs hA => ?_
  exact effS (h.c.W.up hs) (h.l.up hs) h.m (effQ (yEff91 hsz hfz (h.c.up hs) hA (by rw [argsN_len]; decide)))
theorem pl62 (h : YI I fb cs cf K σ M ML) (hsz : 179 ≤ ssz) (hfz : 60 ≤ fsz) (hN : NOk K σ) (hN' : NOk K (plainN kecN K σ 62)) (hpc : σ.pc < 2 ^ 20) (hs1 : 3 ≤ σ.s.length) (hz : argN σ.s 2 = 0) :
    CallG Hvaf.prog 77 #[ptr sb 0, ptr fb 0, .int .u8 (62 : Nat)] ⟨I, ⟨sb, ssz, Ts, cs⟩ :: ⟨fb, fsz, Tf, cf⟩ :: (M ++ ML)⟩ fun _ S' => PlY sb ssz fb fsz Ts Tf cs K (plainN kecN K σ 62) S' := by
  refine plE (t := 3) h hfz hN' hpc (by decide) rfl rfl hs1 (by decide) (by decide) (.inl (by decide)) fun J av hs hA => ?_
  exact effS (h.c.W.up hs) (h.l.up hs) h.m (effQ (yEff62z hsz hfz (h.c.up hs) (h.e.up hs) h.m (fun x hx => List.mem_append_left _ hx) hA (by rw [argsN_len]; decide) hz))
theorem pl93 (h : YI I fb cs cf K σ M ML) (hsz : 179 ≤ ssz) (hfz : 60 ≤ fsz) (hN : NOk K σ) (hN' : NOk K (plainN kecN K σ 93)) (hpc : σ.pc < 2 ^ 20) (hs1 : 2 ≤ σ.s.length) :
    CallG Hvaf.prog 77 #[ptr sb 0, ptr fb 0, .int .u8 (93 : Nat)] ⟨I, ⟨sb, ssz, Ts, cs⟩ :: ⟨fb, fsz, Tf, cf⟩ :: (M ++ ML)⟩ fun _ S' => PlY sb ssz fb fsz Ts Tf cs K (plainN kecN K σ 93) S' := by
  refine plE (t := 2) h hfz hN' hpc (by decide) rfl rfl hs1 (by decide) (by decide) (.inl (by decide)) fun J av hs hA => ?_
  refine (yEff93 hsz hfz (h.c.up hs) hA (by rw [argsN_len]; decide)).mono ?_
  rintro r _ hs2 ⟨rfl, J2, w1, rfl, hm⟩
  have hs2 : Sub J J2 := hs2
  have hW2 := (h.c.W.up hs).up hs2
  exact ⟨rfl, J2, _, _, rfl, ⟨⟨hW2.acc, hW2.wrm, hW2.wok, hW2.mks, hW2.rfd, hm, hW2.mde, hW2.mok, hW2.gne⟩, fun k hk => upd_ne (by omega)⟩, M, ML, rfl, (h.l.up hs).up hs2, h.m⟩
theorem pl85 (h : YI I fb cs cf K σ M ML) (hsz : 179 ≤ ssz) (hfz : 60 ≤ fsz) (hN : NOk K σ) (hN' : NOk K (plainN kecN K σ 85)) (hpc : σ.pc < 2 ^ 20) (hs1 : 2 ≤ σ.s.length) (hst : K.st = []) :
    CallG Hvaf.prog 77 #[ptr sb 0, ptr fb 0, .int .u8 (85 : Nat)] ⟨I, ⟨sb, ssz, Ts, cs⟩ :: ⟨fb, fsz, Tf, cf⟩ :: (M ++ ML)⟩ fun _ S' => PlY sb ssz fb fsz Ts Tf cs K (plainN kecN K σ 85) S' := by
  have hp := sst_plus (w := σ.w) (s := σ.s) hst
  have hrf := hN.rf
  refine plE (t := 2) h hfz hN' hpc (by decide) rfl rfl hs1 (by decide) (by decide) (.inl (by decide)) fun J av hs hA => ?_
  refine (yEff85 hsz hfz (h.c.up hs) hA (by rw [argsN_len]; decide) (by rw [sst_minus hst]; exact Nat.zero_le _) (NB_p (Nat.lt_trans (show σ.w.rf + (sstoreN K σ.w σ.s).2.1 < 2 ^ 40 by omega) (by decide +kernel)))).mono ?_
  rintro r _ hs2 ⟨rfl, J2, w1, w2, w3, rfl, hm1, hm2, hm3⟩
  have hs2 : Sub J J2 := hs2
  have hW2 := (h.c.W.up hs).up hs2
  exact ⟨rfl, J2, _, _, rfl, ⟨⟨hm3, hW2.wrm, hW2.wok, hm2, hm1, hW2.tmp, hW2.mde, hW2.mok, hW2.gne⟩, fun k hk => by rw [upd_ne (by omega), upd_ne (by omega), upd_ne (by omega)]⟩, M, ML, rfl, (h.l.up hs).up hs2, h.m⟩
theorem pl82 (h : YI I fb cs cf K σ M ML) (hsz : 179 ≤ ssz) (hfz : 60 ≤ fsz) (hN : NOk K σ) (hN' : NOk K (plainN kecN K σ 82)) (hpc : σ.pc < 2 ^ 20) (hs1 : 2 ≤ σ.s.length) (hD : KY K) (hin : reachN σ.s 82 ≤ σ.mem.length) (hml : σ.mem.length < 2 ^ 30) :
    CallG Hvaf.prog 77 #[ptr sb 0, ptr fb 0, .int .u8 (82 : Nat)] ⟨I, ⟨sb, ssz, Ts, cs⟩ :: ⟨fb, fsz, Tf, cf⟩ :: (M ++ ML)⟩ fun _ S' => PlY sb ssz fb fsz Ts Tf cs K (plainN kecN K σ 82) S' := by
  have hin : endN (argN σ.s 0) 32 ≤ σ.mem.length := hin
  unfold endN at hin
  rw [if_neg (by decide)] at hin
  obtain ⟨b, c, e9, eM⟩ := h.m.some (by omega)
  subst eM
  refine plE (t := 2) h hfz hN' hpc (by decide) rfl rfl hs1 (by decide) (by decide) (.inl (by decide)) fun J av hs hA => ?_
  exact effM (mem' := memN K σ.mem σ.w σ.s 82) (h.c.W.up hs) (h.l.up hs) e9 memN_len hml (memN_lt hD.cb hD.db hN.wk.cb hN.mb) (yEff82 hsz hfz (h.c.up hs) e9 hml hA (by rw [argsN_len]; decide) (args_lt _ _ hN.sb))
theorem pl83 (h : YI I fb cs cf K σ M ML) (hsz : 179 ≤ ssz) (hfz : 60 ≤ fsz) (hN : NOk K σ) (hN' : NOk K (plainN kecN K σ 83)) (hpc : σ.pc < 2 ^ 20) (hs1 : 2 ≤ σ.s.length) (hD : KY K) (hin : reachN σ.s 83 ≤ σ.mem.length) (hml : σ.mem.length < 2 ^ 30) :
    CallG Hvaf.prog 77 #[ptr sb 0, ptr fb 0, .int .u8 (83 : Nat)] ⟨I, ⟨sb, ssz, Ts, cs⟩ :: ⟨fb, fsz, Tf, cf⟩ :: (M ++ ML)⟩ fun _ S' => PlY sb ssz fb fsz Ts Tf cs K (plainN kecN K σ 83) S' := by
  have hin : endN (argN σ.s 0) 1 ≤ σ.mem.length := hin
  unfold endN at hin
  rw [if_neg (by decide)] at hin
  obtain ⟨b, c, e9, eM⟩ := h.m.some (by omega)
  subst eM
  refine plE (t := 2) h hfz hN' hpc (by decide) rfl rfl hs1 (by decide) (by decide) (.inl (by decide)) fun J av hs hA => ?_
  exact effM (mem' := memN K σ.mem σ.w σ.s 83) (h.c.W.up hs) (h.l.up hs) e9 memN_len hml (memN_lt hD.cb hD.db hN.wk.cb hN.mb) (yEff83 hsz hfz (h.c.up hs) e9 hml hA (by rw [argsN_len]; decide) (args_lt _ _ hN.sb))
theorem pl55 (h : YI I fb cs cf K σ M ML) (hsz : 179 ≤ ssz) (hfz : 60 ≤ fsz) (hN : NOk K σ) (hN' : NOk K (plainN kecN K σ 55)) (hpc : σ.pc < 2 ^ 20) (hs1 : 3 ≤ σ.s.length) (hD : KY K) (hin : reachN σ.s 55 ≤ σ.mem.length) (hml : σ.mem.length < 2 ^ 30) :
    CallG Hvaf.prog 77 #[ptr sb 0, ptr fb 0, .int .u8 (55 : Nat)] ⟨I, ⟨sb, ssz, Ts, cs⟩ :: ⟨fb, fsz, Tf, cf⟩ :: (M ++ ML)⟩ fun _ S' => PlY sb ssz fb fsz Ts Tf cs K (plainN kecN K σ 55) S' := by
  by_cases hz : argN σ.s 2 = 0
  · have em : memN K σ.mem σ.w σ.s 55 = σ.mem := by
      show cpyL σ.mem K.data (argN σ.s 0) (argN σ.s 1) (argN σ.s 2) = σ.mem
      unfold cpyL; rw [if_pos hz]
    refine plE (t := 3) h hfz hN' hpc (by decide) rfl rfl hs1 (by decide) (by decide) (.inl (by decide)) fun J av hs hA => ?_
    exact effS (h.c.W.up hs) (h.l.up hs) (em.symm ▸ h.m) (effQ (yEff55z hsz hfz (h.c.up hs) (h.e.up hs) h.m (fun x hx => List.mem_append_left _ hx) hA (by rw [argsN_len]; decide) hz))
  · have hin : endN (argN σ.s 0) (argN σ.s 2) ≤ σ.mem.length := hin
    unfold endN at hin
    repeat rw [if_neg hz] at hin
    obtain ⟨b, c, e9, eM⟩ := h.m.some (by omega)
    subst eM
    refine plE (t := 3) h hfz hN' hpc (by decide) rfl rfl hs1 (by decide) (by decide) (.inl (by decide)) fun J av hs hA => ?_
    exact effM (mem' := memN K σ.mem σ.w σ.s 55) (h.c.W.up hs) (h.l.up hs) e9 memN_len hml (memN_lt hD.cb hD.db hN.wk.cb hN.mb) (yEff55 hsz hfz (h.c.up hs) e9 hml hA (by rw [argsN_len]; decide) (show argN σ.s 2 < 2 ^ 30 by omega))
theorem pl57 (h : YI I fb cs cf K σ M ML) (hsz : 179 ≤ ssz) (hfz : 60 ≤ fsz) (hN : NOk K σ) (hN' : NOk K (plainN kecN K σ 57)) (hpc : σ.pc < 2 ^ 20) (hs1 : 3 ≤ σ.s.length) (hD : KY K) (hin : reachN σ.s 57 ≤ σ.mem.length) (hml : σ.mem.length < 2 ^ 30) :
    CallG Hvaf.prog 77 #[ptr sb 0, ptr fb 0, .int .u8 (57 : Nat)] ⟨I, ⟨sb, ssz, Ts, cs⟩ :: ⟨fb, fsz, Tf, cf⟩ :: (M ++ ML)⟩ fun _ S' => PlY sb ssz fb fsz Ts Tf cs K (plainN kecN K σ 57) S' := by
  by_cases hz : argN σ.s 2 = 0
  · have em : memN K σ.mem σ.w σ.s 57 = σ.mem := by
      show cpyL σ.mem K.code (argN σ.s 0) (argN σ.s 1) (argN σ.s 2) = σ.mem
      unfold cpyL; rw [if_pos hz]
    refine plE (t := 3) h hfz hN' hpc (by decide) rfl rfl hs1 (by decide) (by decide) (.inl (by decide)) fun J av hs hA => ?_
    exact effS (h.c.W.up hs) (h.l.up hs) (em.symm ▸ h.m) (effQ (yEff57z hsz hfz (h.c.up hs) (h.e.up hs) h.m (fun x hx => List.mem_append_left _ hx) hA (by rw [argsN_len]; decide) hz))
  · have hin : endN (argN σ.s 0) (argN σ.s 2) ≤ σ.mem.length := hin
    unfold endN at hin
    repeat rw [if_neg hz] at hin
    obtain ⟨b, c, e9, eM⟩ := h.m.some (by omega)
    subst eM
    refine plE (t := 3) h hfz hN' hpc (by decide) rfl rfl hs1 (by decide) (by decide) (.inl (by decide)) fun J av hs hA => ?_
    exact effM (mem' := memN K σ.mem σ.w σ.s 57) (h.c.W.up hs) (h.l.up hs) e9 memN_len hml (memN_lt hD.cb hD.db hN.wk.cb hN.mb) (yEff57 hsz hfz (h.c.up hs) e9 hml hA (by rw [argsN_len]; decide) (show argN σ.s 2 < 2 ^ 30 by omega))
theorem pl94 (h : YI I fb cs cf K σ M ML) (hsz : 179 ≤ ssz) (hfz : 60 ≤ fsz) (hN : NOk K σ) (hN' : NOk K (plainN kecN K σ 94)) (hpc : σ.pc < 2 ^ 20) (hs1 : 3 ≤ σ.s.length) (hD : KY K) (hin : reachN σ.s 94 ≤ σ.mem.length) (hml : σ.mem.length < 2 ^ 30) :
    CallG Hvaf.prog 77 #[ptr sb 0, ptr fb 0, .int .u8 (94 : Nat)] ⟨I, ⟨sb, ssz, Ts, cs⟩ :: ⟨fb, fsz, Tf, cf⟩ :: (M ++ ML)⟩ fun _ S' => PlY sb ssz fb fsz Ts Tf cs K (plainN kecN K σ 94) S' := by
  by_cases hz : argN σ.s 2 = 0
  · have em : memN K σ.mem σ.w σ.s 94 = σ.mem := by
      show cpyL σ.mem σ.mem (argN σ.s 0) (argN σ.s 1) (argN σ.s 2) = σ.mem
      unfold cpyL; rw [if_pos hz]
    refine plE (t := 3) h hfz hN' hpc (by decide) rfl rfl hs1 (by decide) (by decide) (.inl (by decide)) fun J av hs hA => ?_
    exact effS (h.c.W.up hs) (h.l.up hs) (em.symm ▸ h.m) ((yEff94z hsz hfz (h.c.up hs) (h.e.up hs) h.m (fun x hx => List.mem_append_left _ hx) hA (by rw [argsN_len]; decide) hz))
  · have hin : max (endN (argN σ.s 0) (argN σ.s 2)) (endN (argN σ.s 1) (argN σ.s 2)) ≤ σ.mem.length := hin
    unfold endN at hin
    repeat rw [if_neg hz] at hin
    obtain ⟨b, c, e9, eM⟩ := h.m.some (by omega)
    subst eM
    refine plE (t := 3) h hfz hN' hpc (by decide) rfl rfl hs1 (by decide) (by decide) (.inl (by decide)) fun J av hs hA => ?_
    exact effM (mem' := memN K σ.mem σ.w σ.s 94) (h.c.W.up hs) (h.l.up hs) e9 memN_len hml (memN_lt hD.cb hD.db hN.wk.cb hN.mb) (yEff94 hsz hfz (h.c.up hs) e9 hml hA (by rw [argsN_len]; decide) (show argN σ.s 2 < 2 ^ 30 by omega) hN.mb)
theorem pl60 (h : YI I fb cs cf K σ M ML) (hsz : 179 ≤ ssz) (hfz : 60 ≤ fsz) (hN : NOk K σ) (hN' : NOk K (plainN kecN K σ 60)) (hpc : σ.pc < 2 ^ 20) (hs1 : 4 ≤ σ.s.length) (hD : KY K) (hin : reachN σ.s 60 ≤ σ.mem.length) (hml : σ.mem.length < 2 ^ 30) :
    CallG Hvaf.prog 77 #[ptr sb 0, ptr fb 0, .int .u8 (60 : Nat)] ⟨I, ⟨sb, ssz, Ts, cs⟩ :: ⟨fb, fsz, Tf, cf⟩ :: (M ++ ML)⟩ fun _ S' => PlY sb ssz fb fsz Ts Tf cs K (plainN kecN K σ 60) S' := by
  by_cases hz : argN σ.s 3 = 0
  · have em : memN K σ.mem σ.w σ.s 60 = σ.mem := by
      show cpyL σ.mem (getA σ.w.al (adN (argN σ.s 0))).code (argN σ.s 1) (argN σ.s 2) (argN σ.s 3) = σ.mem
      unfold cpyL; rw [if_pos hz]
    refine plE (t := 4) h hfz hN' hpc (by decide) rfl rfl hs1 (by decide) (by decide) (.inl (by decide)) fun J av hs hA => ?_
    refine (yEff60z (mem := σ.mem) hsz hfz (h.c.up hs) hA (by rw [argsN_len]; decide) (Nat.lt_trans (hN.wk.cl _) (by decide)) hz).mono ?_
    rintro r _ hs2 ⟨rfl, J2, w1, rfl, hm⟩
    have hs2 : Sub J J2 := hs2
    have hW2 := (h.c.W.up hs).up hs2
    exact ⟨rfl, J2, _, _, rfl, ⟨⟨hW2.acc, hm, withA_ok hW2.wok (adN_ok _), hW2.mks, hW2.rfd, hW2.tmp, hW2.mde, hW2.mok, hW2.gne⟩, fun k hk => upd_ne (by omega)⟩, M, ML, rfl, (h.l.up hs).up hs2, em.symm ▸ h.m⟩
  · have hin : endN (argN σ.s 1) (argN σ.s 3) ≤ σ.mem.length := hin
    unfold endN at hin
    rw [if_neg hz] at hin
    obtain ⟨b, c, e9, eM⟩ := h.m.some (by omega)
    subst eM
    have hlen := memN_len (K := K) (mem := σ.mem) (w := σ.w) (s := σ.s) (o := 60)
    refine plE (t := 4) h hfz hN' hpc (by decide) rfl rfl hs1 (by decide) (by decide) (.inl (by decide)) fun J av hs hA => ?_
    refine (yEff60 hsz hfz (h.c.up hs) hA (by rw [argsN_len]; decide) (Nat.lt_trans (hN.wk.cl _) (by decide)) e9 hml (show argN σ.s 3 < 2 ^ 30 by omega)).mono ?_
    rintro r _ hs2 ⟨rfl, J2, w1, rfl, hm⟩
    have hs2 : Sub J J2 := hs2
    have hW2 := (h.c.W.up hs).up hs2
    exact ⟨rfl, J2, _, _, rfl, ⟨⟨hW2.acc, hm, withA_ok hW2.wok (adN_ok _), hW2.mks, hW2.rfd, hW2.tmp, hW2.mde, hW2.mok, hW2.gne⟩, fun k hk => upd_ne (by omega)⟩, [⟨b, (memN K σ.mem σ.w σ.s 60).length, 5, updN c 0 (bvs (memN K σ.mem σ.w σ.s 60))⟩], ML, by rw [hlen]; rfl, (h.l.up hs).up hs2, memN_lt hD.cb hD.db hN.wk.cb hN.mb, by rw [hlen]; exact hml, .inr ⟨b, c, by rw [hlen]; exact e9, rfl⟩⟩
theorem plLog (h : YI I fb cs cf K σ M ML) (hsz : 179 ≤ ssz) (hfz : 60 ≤ fsz) (hN : NOk K σ) (hN' : NOk K (plainN kecN K σ o)) (hpc : σ.pc < 2 ^ 20) (hs1 : o - 158 ≤ σ.s.length) (h1 : 160 ≤ o) (h2 : o ≤ 164) (hin : reachN σ.s o ≤ σ.mem.length) (hml : σ.mem.length < 2 ^ 30) :
    CallG Hvaf.prog 77 #[ptr sb 0, ptr fb 0, .int .u8 (o : Nat)] ⟨I, ⟨sb, ssz, Ts, cs⟩ :: ⟨fb, fsz, Tf, cf⟩ :: (M ++ ML)⟩ fun _ S' => PlY sb ssz fb fsz Ts Tf cs K (plainN kecN K σ o) S' := by
  have har : (arN o).1 = o - 158 ∧ (arN o).2.1 = 0 := (by decide +kernel : ∀ o, o < 256 → o < 160 ∨ 164 < o ∨ ((arN o).1 = o - 158 ∧ (arN o).2.1 = 0)) o (by omega) |>.resolve_left (by omega) |>.resolve_left (by omega)
  have hin2 : endN (argN σ.s 0) (argN σ.s 1) ≤ σ.mem.length := by
    have : reachN σ.s o = endN (argN σ.s 0) (argN σ.s 1) := by unfold reachN; rw [if_pos (by omega)]
    omega
  have hn : argN σ.s 1 < 2 ^ 40 := by
    unfold endN at hin2
    by_cases hz : argN σ.s 1 = 0
    · rw [hz]; decide
    · rw [if_neg hz] at hin2; omega
  have hw : wrlN K σ.mem σ.w σ.s o = { σ.w with lg := σ.w.lg ++ [(K.self, (argsN σ.s (o - 158)).drop 2, cutL σ.mem (argN σ.s 0) (argN σ.s 1))] } := by
    unfold wrlN
    repeat (first | rw [if_pos (by omega)] | rw [if_neg (by omega)])
  have hg0 : (argsN σ.s (o - 158)).getD 0 0 = argN σ.s 0 := argsN_get _ (by omega)
  have hg1 : (argsN σ.s (o - 158)).getD 1 0 = argN σ.s 1 := argsN_get _ (by omega)
  refine plE (t := o - 158) h hfz hN' hpc (by omega) har.1 har.2 hs1 (by omega) (by omega) (.inr (by omega)) fun J av hs hA => ?_
  have hL := yEffL (o := o) hsz hfz (h.c.up hs) h.m (R := M) (fun x hx => hx) (h.l.up hs) hA (sb := sb) (ssz := ssz) (fb := fb) (fsz := fsz) (Ts := Ts) (Tf := Tf) (by rw [argsN_len]; omega) (by rw [argsN_len]; omega) (fun x hx => by
    obtain ⟨i, _, rfl⟩ := List.mem_map.1 hx
    exact argN_lt hN.sb) h1 h2 (by rw [hg1]; exact hn)
  rw [hg0, hg1] at hL
  rw [hw, memN_oth (by omega)]
  refine hL.mono ?_
  rintro r _ hs2 ⟨rfl, J2, lv, ML', rfl, hm⟩
  have hs2 : Sub J J2 := hs2
  have hW2 := (h.c.W.up hs).up hs2
  exact ⟨rfl, J2, _, _, rfl, ⟨⟨hW2.acc, hW2.wrm, hW2.wok, hW2.mks, hW2.rfd, hW2.tmp, hW2.mde, hW2.mok, hW2.gne⟩, fun k hk => upd_ne (by omega)⟩, M, ML', rfl, hm, h.m⟩
theorem plDup (h : YI I fb cs cf K σ M ML) (hsz : 179 ≤ ssz) (hfz : 60 ≤ fsz) (hN : NOk K σ) (hN' : NOk K (plainN kecN K σ o)) (hpc : σ.pc < 2 ^ 20) (hs1 : o - 127 ≤ σ.s.length) (h1 : 128 ≤ o) (h2 : o ≤ 143) :
    CallG Hvaf.prog 77 #[ptr sb 0, ptr fb 0, .int .u8 (o : Nat)] ⟨I, ⟨sb, ssz, Ts, cs⟩ :: ⟨fb, fsz, Tf, cf⟩ :: (M ++ ML)⟩ fun _ S' => PlY sb ssz fb fsz Ts Tf cs K (plainN kecN K σ o) S' := by
  refine plJ h hN' (wrlN_oth (by omega) (by omega)) (memN_oth (by omega)) (by unfold nextN; rw [if_neg (by omega)]) ?_ (yPlainD (t := o - 128 + 1) hfz h.c.F (by omega) rfl (by omega) h1 h2 (Nat.lt_trans hpc (by decide)))
  unfold stkN
  rw [if_pos ⟨h1, h2⟩, Nat.sub_zero, List.take_length, Nat.add_sub_cancel]
theorem plSwap (h : YI I fb cs cf K σ M ML) (hsz : 179 ≤ ssz) (hfz : 60 ≤ fsz) (hN : NOk K σ) (hN' : NOk K (plainN kecN K σ o)) (hpc : σ.pc < 2 ^ 20) (hs1 : o - 142 ≤ σ.s.length) (h1 : 144 ≤ o) (h2 : o ≤ 159) :
    CallG Hvaf.prog 77 #[ptr sb 0, ptr fb 0, .int .u8 (o : Nat)] ⟨I, ⟨sb, ssz, Ts, cs⟩ :: ⟨fb, fsz, Tf, cf⟩ :: (M ++ ML)⟩ fun _ S' => PlY sb ssz fb fsz Ts Tf cs K (plainN kecN K σ o) S' := by
  refine plJ h hN' (wrlN_oth (by omega) (by omega)) (memN_oth (by omega)) (by unfold nextN; rw [if_neg (by omega)]) ?_ (yPlainS (t := o - 142) hfz h.c.F (by omega) (by omega) (by omega) h1 h2 (Nat.lt_trans hpc (by decide)))
  unfold stkN
  rw [if_neg (by omega), if_pos ⟨h1, h2⟩]
theorem pl86 (h : YI I fb cs cf K σ M ML) (hsz : 179 ≤ ssz) (hfz : 60 ≤ fsz) (hN : NOk K σ) (hN' : NOk K (plainN kecN K σ 86)) (hpc : σ.pc < 2 ^ 20) (hs1 : 1 ≤ σ.s.length) :
    CallG Hvaf.prog 77 #[ptr sb 0, ptr fb 0, .int .u8 (86 : Nat)] ⟨I, ⟨sb, ssz, Ts, cs⟩ :: ⟨fb, fsz, Tf, cf⟩ :: (M ++ ML)⟩ fun _ S' => PlY sb ssz fb fsz Ts Tf cs K (plainN kecN K σ 86) S' := by
  exact plJ h hN' rfl rfl rfl rfl (yPlainJ hfz h.c.F hs1 (Nat.lt_trans hpc (by decide)))
theorem pl87 (h : YI I fb cs cf K σ M ML) (hsz : 179 ≤ ssz) (hfz : 60 ≤ fsz) (hN : NOk K σ) (hN' : NOk K (plainN kecN K σ 87)) (hpc : σ.pc < 2 ^ 20) (hs1 : 2 ≤ σ.s.length) :
    CallG Hvaf.prog 77 #[ptr sb 0, ptr fb 0, .int .u8 (87 : Nat)] ⟨I, ⟨sb, ssz, Ts, cs⟩ :: ⟨fb, fsz, Tf, cf⟩ :: (M ++ ML)⟩ fun _ S' => PlY sb ssz fb fsz Ts Tf cs K (plainN kecN K σ 87) S' := by
  by_cases hz : argN σ.s 1 = 0
  · exact plJ h hN' rfl rfl (by unfold nextN; rw [if_neg (by omega)]; rfl) rfl (yPlainK hfz h.c.F hs1 hz (Nat.lt_trans hpc (by decide)) fun J av hs hA => effQ (yEff87 hsz hfz (h.c.up hs) hA (by rw [argsN_len]; decide)))
  · exact plJ h hN' rfl rfl (by unfold nextN; rw [if_pos (by omega)]) rfl (yPlainI hfz h.c.F hs1 hz (Nat.lt_trans hpc (by decide)))
/-- yp.State.plain at every instruction. -/
theorem yPl (h : YI I fb cs cf K σ M ML) (hsz : 179 ≤ ssz) (hfz : 60 ≤ fsz) (hN : NOk K σ) (hN' : NOk K (plainN kecN K σ o)) (hD : KY K) (hpc : σ.pc < 2 ^ 20) (ho2 : o < 256) (hf0 : famN o ≠ 0) (hf16 : famN o ≠ 16) (hx0 : o ≠ 0) (hx1 : o ≠ 243) (hx2 : o ≠ 253) (hs1 : (arN o).1 ≤ σ.s.length) (hin : reachN σ.s o ≤ σ.mem.length) (hml : σ.mem.length ≤ 717311) (h62 : o = 62 → argN σ.s 1 + argN σ.s 2 = 0) :
    CallG Hvaf.prog 77 #[ptr sb 0, ptr fb 0, .int .u8 (o : Nat)] ⟨I, ⟨sb, ssz, Ts, cs⟩ :: ⟨fb, fsz, Tf, cf⟩ :: (M ++ ML)⟩ fun _ S' => PlY sb ssz fb fsz Ts Tf cs K (plainN kecN K σ o) S' := by
  have hm30 : σ.mem.length < 2 ^ 30 := by omega
  have hc : famN o = 0 ∨ famN o = 16 ∨ o = 0 ∨ o = 243 ∨ o = 253 ∨ o ∈ [1, 2, 3, 4, 5, 6, 7, 8, 9, 10, 11, 16, 17, 18, 19, 20, 21, 22, 23, 24, 25, 26, 27, 28, 29, 32, 48, 49, 50, 51, 52, 53, 54, 55, 56, 57, 58, 59, 60, 61, 62, 63, 64, 65, 66, 67, 68, 69, 70, 71, 72, 80, 81, 82, 83, 84, 85, 86, 88, 89, 90, 91, 92, 93, 94, 87] ∨ (95 ≤ o ∧ o ≤ 127) ∨ (128 ≤ o ∧ o ≤ 143) ∨ (144 ≤ o ∧ o ≤ 159) ∨ (160 ≤ o ∧ o ≤ 164) := (by decide +kernel : ∀ o, o < 256 → famN o = 0 ∨ famN o = 16 ∨ o = 0 ∨ o = 243 ∨ o = 253 ∨ o ∈ [1, 2, 3, 4, 5, 6, 7, 8, 9, 10, 11, 16, 17, 18, 19, 20, 21, 22, 23, 24, 25, 26, 27, 28, 29, 32, 48, 49, 50, 51, 52, 53, 54, 55, 56, 57, 58, 59, 60, 61, 62, 63, 64, 65, 66, 67, 68, 69, 70, 71, 72, 80, 81, 82, 83, 84, 85, 86, 88, 89, 90, 91, 92, 93, 94, 87] ∨ (95 ≤ o ∧ o ≤ 127) ∨ (128 ≤ o ∧ o ≤ 143) ∨ (144 ≤ o ∧ o ≤ 159) ∨ (160 ≤ o ∧ o ≤ 164)) o ho2
  rcases hc with hc | hc | hc | hc | hc | hc | ⟨h1, h2⟩ | ⟨h1, h2⟩ | ⟨h1, h2⟩ | ⟨h1, h2⟩
  · exact absurd hc hf0
  · exact absurd hc hf16
  · exact absurd hc hx0
  · exact absurd hc hx1
  · exact absurd hc hx2
  · simp only [List.mem_cons, List.not_mem_nil, or_false] at hc
    rcases hc with rfl | rfl | rfl | rfl | rfl | rfl | rfl | rfl | rfl | rfl | rfl | rfl | rfl | rfl | rfl | rfl | rfl | rfl | rfl | rfl | rfl | rfl | rfl | rfl | rfl | rfl | rfl | rfl | rfl | rfl | rfl | rfl | rfl | rfl | rfl | rfl | rfl | rfl | rfl | rfl | rfl | rfl | rfl | rfl | rfl | rfl | rfl | rfl | rfl | rfl | rfl | rfl | rfl | rfl | rfl | rfl | rfl | rfl | rfl | rfl | rfl | rfl | rfl | rfl | rfl | rfl
    · exact pl1 h hsz hfz hN hN' hpc hs1
    · exact pl2 h hsz hfz hN hN' hpc hs1
    · exact pl3 h hsz hfz hN hN' hpc hs1
    · exact pl4 h hsz hfz hN hN' hpc hs1
    · exact pl5 h hsz hfz hN hN' hpc hs1
    · exact pl6 h hsz hfz hN hN' hpc hs1
    · exact pl7 h hsz hfz hN hN' hpc hs1
    · exact pl8 h hsz hfz hN hN' hpc hs1
    · exact pl9 h hsz hfz hN hN' hpc hs1
    · exact pl10 h hsz hfz hN hN' hpc hs1
    · exact pl11 h hsz hfz hN hN' hpc hs1
    · exact pl16 h hsz hfz hN hN' hpc hs1
    · exact pl17 h hsz hfz hN hN' hpc hs1
    · exact pl18 h hsz hfz hN hN' hpc hs1
    · exact pl19 h hsz hfz hN hN' hpc hs1
    · exact pl20 h hsz hfz hN hN' hpc hs1
    · exact pl21 h hsz hfz hN hN' hpc hs1
    · exact pl22 h hsz hfz hN hN' hpc hs1
    · exact pl23 h hsz hfz hN hN' hpc hs1
    · exact pl24 h hsz hfz hN hN' hpc hs1
    · exact pl25 h hsz hfz hN hN' hpc hs1
    · exact pl26 h hsz hfz hN hN' hpc hs1
    · exact pl27 h hsz hfz hN hN' hpc hs1
    · exact pl28 h hsz hfz hN hN' hpc hs1
    · exact pl29 h hsz hfz hN hN' hpc hs1
    · refine pl32 h hsz hfz hN hN' hpc hs1 ?_
      have hin : endN (argN σ.s 0) (argN σ.s 1) ≤ σ.mem.length := hin
      unfold endN at hin
      by_cases hz : argN σ.s 1 = 0
      · rw [hz]; decide
      · rw [if_neg hz] at hin; omega
    · exact pl48 h hsz hfz hN hN' hpc hs1
    · exact pl49 h hsz hfz hN hN' hpc hs1
    · exact pl50 h hsz hfz hN hN' hpc hs1
    · exact pl51 h hsz hfz hN hN' hpc hs1
    · exact pl52 h hsz hfz hN hN' hpc hs1
    · exact pl53 h hsz hfz hN hN' hpc hs1
    · exact pl54 h hsz hfz hN hN' hpc hs1
    · exact pl55 h hsz hfz hN hN' hpc hs1 hD hin hm30
    · exact pl56 h hsz hfz hN hN' hpc hs1
    · exact pl57 h hsz hfz hN hN' hpc hs1 hD hin hm30
    · exact pl58 h hsz hfz hN hN' hpc hs1
    · exact pl59 h hsz hfz hN hN' hpc hs1
    · exact pl60 h hsz hfz hN hN' hpc hs1 hD hin hm30
    · exact pl61 h hsz hfz hN hN' hpc hs1
    · exact pl62 h hsz hfz hN hN' hpc hs1 (by have := h62 rfl; omega)
    · exact pl63 h hsz hfz hN hN' hpc hs1
    · exact pl64 h hsz hfz hN hN' hpc hs1
    · exact pl65 h hsz hfz hN hN' hpc hs1
    · exact pl66 h hsz hfz hN hN' hpc hs1
    · exact pl67 h hsz hfz hN hN' hpc hs1
    · exact pl68 h hsz hfz hN hN' hpc hs1
    · exact pl69 h hsz hfz hN hN' hpc hs1
    · exact pl70 h hsz hfz hN hN' hpc hs1
    · exact pl71 h hsz hfz hN hN' hpc hs1
    · exact pl72 h hsz hfz hN hN' hpc hs1
    · exact pl80 h hsz hfz hN hN' hpc hs1
    · exact pl81 h hsz hfz hN hN' hpc hs1
    · exact pl82 h hsz hfz hN hN' hpc hs1 hD hin hm30
    · exact pl83 h hsz hfz hN hN' hpc hs1 hD hin hm30
    · exact pl84 h hsz hfz hN hN' hpc hs1
    · exact pl85 h hsz hfz hN hN' hpc hs1 hD.st
    · exact pl86 h hsz hfz hN hN' hpc hs1
    · exact pl88 h hsz hfz hN hN' hpc hs1
    · exact pl89 h hsz hfz hN hN' hpc hs1
    · exact pl90 h hsz hfz hN hN' hpc hs1
    · exact pl91 h hsz hfz hN hN' hpc hs1
    · exact pl92 h hsz hfz hN hN' hpc hs1
    · exact pl93 h hsz hfz hN hN' hpc hs1
    · exact pl94 h hsz hfz hN hN' hpc hs1 hD hin hm30
    · exact pl87 h hsz hfz hN hN' hpc hs1
  · exact plPush h hsz hfz hN hN' hpc (Nat.zero_le _) h1 h2
  · have har : (arN o).1 = o - 127 := (by decide +kernel : ∀ o, o < 256 → o < 128 ∨ 143 < o ∨ (arN o).1 = o - 127) o ho2 |>.resolve_left (by omega) |>.resolve_left (by omega)
    exact plDup h hsz hfz hN hN' hpc (har ▸ hs1) h1 h2
  · have har : (arN o).1 = o - 142 := (by decide +kernel : ∀ o, o < 256 → o < 144 ∨ 159 < o ∨ (arN o).1 = o - 142) o ho2 |>.resolve_left (by omega) |>.resolve_left (by omega)
    exact plSwap h hsz hfz hN hN' hpc (har ▸ hs1) h1 h2
  · have har : (arN o).1 = o - 158 := (by decide +kernel : ∀ o, o < 256 → o < 160 ∨ 164 < o ∨ (arN o).1 = o - 158) o ho2 |>.resolve_left (by omega) |>.resolve_left (by omega)
    exact plLog h hsz hfz hN hN' hpc (har ▸ hs1) h1 h2 hin hm30
end
end Go.Proofs.YgvafwGreat
