import Derived.Test.YgvafwGreatY67
set_option exponentiation.threshold 1000
set_option maxRecDepth 100000
set_option maxHeartbeats 4000000
set_option linter.unusedVariables false
set_option linter.unusedSimpArgs false
-- v2
-- v4
-- v5
-- v6
-- v7
namespace Go.Proofs.YgvafwGreat
open Go.HL Go.Proofs

theorem args_lt {s : List Nat} (t i : Nat) (h : ∀ x ∈ s, x < 2 ^ 256) : (argsN s t).getD i 0 < 115792089237316195423570985008687907853269984665640564039457584007913129639936 := by
  by_cases hi : i < t
  · rw [argsN_get s hi]; exact argN_lt h
  · rw [List.getD_eq_getElem?_getD, List.getElem?_eq_none (by rw [argsN_len]; omega)]
    exact (by decide : 0 < 115792089237316195423570985008687907853269984665640564039457584007913129639936)
theorem alu_c {o a b c c' : Nat} (h8 : o ≠ 8) (h9 : o ≠ 9) : aluN o a b c = aluN o a b c' := by
  unfold aluN
  simp only [h8, h9, if_false]
theorem memN_oth {K : YK} {mem : List Nat} {w : YW} {s : List Nat} {o : Nat} (h : 95 ≤ o) : memN K mem w s o = mem := by
  unfold memN
  repeat rw [if_neg (by omega)]
theorem wrlN_oth {K : YK} {mem : List Nat} {w : YW} {s : List Nat} {o : Nat} (h : 95 ≤ o) (h2 : o < 160) : wrlN K mem w s o = w := by
  unfold wrlN
  repeat rw [if_neg (by omega)]
theorem valN_push {kec : List Nat → List Nat} {K : YK} {pc gas o : Nat} {mem : List Nat} {w : YW} {s : List Nat} (h : 95 ≤ o) (h2 : o ≤ 127) : valN kec K pc gas mem w s o = bev (cutL K.code (pc + 1) (o - 95)) := by
  unfold valN
  rw [if_neg (by omega), if_neg (by omega), if_pos ⟨h, h2⟩]
section
variable {I : Ent → Prop} {sb ssz fb fsz o t : Nat} {Ts Tf : TypeId} {cs cf : Nat → Value} {K : YK} {σ : NS} {M ML : List Ent}
theorem pl1 (h : YI I fb cs cf K σ M ML) (hsz : 179 ≤ ssz) (hfz : 60 ≤ fsz) (hN : NOk K σ) (hN' : NOk K (plainN kecN K σ 1)) (hpc : σ.pc < 2 ^ 20) (hs1 : 2 ≤ σ.s.length) :
    CallG Hvaf.prog 77 #[ptr sb 0, ptr fb 0, .int .u8 (1 : Nat)] ⟨I, ⟨sb, ssz, Ts, cs⟩ :: ⟨fb, fsz, Tf, cf⟩ :: (M ++ ML)⟩ fun _ S' => PlY sb ssz fb fsz Ts Tf cs K (plainN kecN K σ 1) S' := by
  refine plV (t := 2) h hfz hN' hpc (by decide) rfl rfl hs1 (by decide) (by decide) (by decide) rfl rfl fun J av hs hA => ?_
  have e : valN kecN K σ.pc σ.gas σ.mem σ.w σ.s 1 = aluN 1 ((argsN σ.s 2).getD 0 0) ((argsN σ.s 2).getD 1 0) ((argsN σ.s 2).getD 2 0) := by
    show aluN 1 (argN σ.s 0) (argN σ.s 1) (argN σ.s 2) = aluN 1 (argN σ.s 0) (argN σ.s 1) 0
    exact alu_c (by decide) (by decide)
  rw [e]
  exact valS (h.c.W.up hs) (yVal1 hA (by rw [argsN_len]; decide) (args_lt _ _ hN.sb) (args_lt _ _ hN.sb))
theorem pl2 (h : YI I fb cs cf K σ M ML) (hsz : 179 ≤ ssz) (hfz : 60 ≤ fsz) (hN : NOk K σ) (hN' : NOk K (plainN kecN K σ 2)) (hpc : σ.pc < 2 ^ 20) (hs1 : 2 ≤ σ.s.length) :
    CallG Hvaf.prog 77 #[ptr sb 0, ptr fb 0, .int .u8 (2 : Nat)] ⟨I, ⟨sb, ssz, Ts, cs⟩ :: ⟨fb, fsz, Tf, cf⟩ :: (M ++ ML)⟩ fun _ S' => PlY sb ssz fb fsz Ts Tf cs K (plainN kecN K σ 2) S' := by
  refine plV (t := 2) h hfz hN' hpc (by decide) rfl rfl hs1 (by decide) (by decide) (by decide) rfl rfl fun J av hs hA => ?_
  have e : valN kecN K σ.pc σ.gas σ.mem σ.w σ.s 2 = aluN 2 ((argsN σ.s 2).getD 0 0) ((argsN σ.s 2).getD 1 0) ((argsN σ.s 2).getD 2 0) := by
    show aluN 2 (argN σ.s 0) (argN σ.s 1) (argN σ.s 2) = aluN 2 (argN σ.s 0) (argN σ.s 1) 0
    exact alu_c (by decide) (by decide)
  rw [e]
  exact valS (h.c.W.up hs) (yVal2 hA (by rw [argsN_len]; decide) (args_lt _ _ hN.sb) (args_lt _ _ hN.sb))
theorem pl3 (h : YI I fb cs cf K σ M ML) (hsz : 179 ≤ ssz) (hfz : 60 ≤ fsz) (hN : NOk K σ) (hN' : NOk K (plainN kecN K σ 3)) (hpc : σ.pc < 2 ^ 20) (hs1 : 2 ≤ σ.s.length) :
    CallG Hvaf.prog 77 #[ptr sb 0, ptr fb 0, .int .u8 (3 : Nat)] ⟨I, ⟨sb, ssz, Ts, cs⟩ :: ⟨fb, fsz, Tf, cf⟩ :: (M ++ ML)⟩ fun _ S' => PlY sb ssz fb fsz Ts Tf cs K (plainN kecN K σ 3) S' := by
  refine plV (t := 2) h hfz hN' hpc (by decide) rfl rfl hs1 (by decide) (by decide) (by decide) rfl rfl fun J av hs hA => ?_
  have e : valN kecN K σ.pc σ.gas σ.mem σ.w σ.s 3 = aluN 3 ((argsN σ.s 2).getD 0 0) ((argsN σ.s 2).getD 1 0) ((argsN σ.s 2).getD 2 0) := by
    show aluN 3 (argN σ.s 0) (argN σ.s 1) (argN σ.s 2) = aluN 3 (argN σ.s 0) (argN σ.s 1) 0
    exact alu_c (by decide) (by decide)
  rw [e]
  exact valS (h.c.W.up hs) (yVal3 hA (by rw [argsN_len]; decide) (args_lt _ _ hN.sb) (args_lt _ _ hN.sb))
theorem pl4 (h : YI I fb cs cf K σ M ML) (hsz : 179 ≤ ssz) (hfz : 60 ≤ fsz) (hN : NOk K σ) (hN' : NOk K (plainN kecN K σ 4)) (hpc : σ.pc < 2 ^ 20) (hs1 : 2 ≤ σ.s.length) :
    CallG Hvaf.prog 77 #[ptr sb 0, ptr fb 0, .int .u8 (4 : Nat)] ⟨I, ⟨sb, ssz, Ts, cs⟩ :: ⟨fb, fsz, Tf, cf⟩ :: (M ++ ML)⟩ fun _ S' => PlY sb ssz fb fsz Ts Tf cs K (plainN kecN K σ 4) S' := by
  refine plV (t := 2) h hfz hN' hpc (by decide) rfl rfl hs1 (by decide) (by decide) (by decide) rfl rfl fun J av hs hA => ?_
  have e : valN kecN K σ.pc σ.gas σ.mem σ.w σ.s 4 = aluN 4 ((argsN σ.s 2).getD 0 0) ((argsN σ.s 2).getD 1 0) ((argsN σ.s 2).getD 2 0) := by
    show aluN 4 (argN σ.s 0) (argN σ.s 1) (argN σ.s 2) = aluN 4 (argN σ.s 0) (argN σ.s 1) 0
    exact alu_c (by decide) (by decide)
  rw [e]
  exact valS (h.c.W.up hs) (yVal4 hA (by rw [argsN_len]; decide) (args_lt _ _ hN.sb) (args_lt _ _ hN.sb))
theorem pl5 (h : YI I fb cs cf K σ M ML) (hsz : 179 ≤ ssz) (hfz : 60 ≤ fsz) (hN : NOk K σ) (hN' : NOk K (plainN kecN K σ 5)) (hpc : σ.pc < 2 ^ 20) (hs1 : 2 ≤ σ.s.length) :
    CallG Hvaf.prog 77 #[ptr sb 0, ptr fb 0, .int .u8 (5 : Nat)] ⟨I, ⟨sb, ssz, Ts, cs⟩ :: ⟨fb, fsz, Tf, cf⟩ :: (M ++ ML)⟩ fun _ S' => PlY sb ssz fb fsz Ts Tf cs K (plainN kecN K σ 5) S' := by
  refine plV (t := 2) h hfz hN' hpc (by decide) rfl rfl hs1 (by decide) (by decide) (by decide) rfl rfl fun J av hs hA => ?_
  have e : valN kecN K σ.pc σ.gas σ.mem σ.w σ.s 5 = aluN 5 ((argsN σ.s 2).getD 0 0) ((argsN σ.s 2).getD 1 0) ((argsN σ.s 2).getD 2 0) := by
    show aluN 5 (argN σ.s 0) (argN σ.s 1) (argN σ.s 2) = aluN 5 (argN σ.s 0) (argN σ.s 1) 0
    exact alu_c (by decide) (by decide)
  rw [e]
  exact valS (h.c.W.up hs) (yVal5 hA (by rw [argsN_len]; decide) (args_lt _ _ hN.sb) (args_lt _ _ hN.sb))
theorem pl6 (h : YI I fb cs cf K σ M ML) (hsz : 179 ≤ ssz) (hfz : 60 ≤ fsz) (hN : NOk K σ) (hN' : NOk K (plainN kecN K σ 6)) (hpc : σ.pc < 2 ^ 20) (hs1 : 2 ≤ σ.s.length) :
    CallG Hvaf.prog 77 #[ptr sb 0, ptr fb 0, .int .u8 (6 : Nat)] ⟨I, ⟨sb, ssz, Ts, cs⟩ :: ⟨fb, fsz, Tf, cf⟩ :: (M ++ ML)⟩ fun _ S' => PlY sb ssz fb fsz Ts Tf cs K (plainN kecN K σ 6) S' := by
  refine plV (t := 2) h hfz hN' hpc (by decide) rfl rfl hs1 (by decide) (by decide) (by decide) rfl rfl fun J av hs hA => ?_
  have e : valN kecN K σ.pc σ.gas σ.mem σ.w σ.s 6 = aluN 6 ((argsN σ.s 2).getD 0 0) ((argsN σ.s 2).getD 1 0) ((argsN σ.s 2).getD 2 0) := by
    show aluN 6 (argN σ.s 0) (argN σ.s 1) (argN σ.s 2) = aluN 6 (argN σ.s 0) (argN σ.s 1) 0
    exact alu_c (by decide) (by decide)
  rw [e]
  exact valS (h.c.W.up hs) (yVal6 hA (by rw [argsN_len]; decide) (args_lt _ _ hN.sb) (args_lt _ _ hN.sb))
theorem pl7 (h : YI I fb cs cf K σ M ML) (hsz : 179 ≤ ssz) (hfz : 60 ≤ fsz) (hN : NOk K σ) (hN' : NOk K (plainN kecN K σ 7)) (hpc : σ.pc < 2 ^ 20) (hs1 : 2 ≤ σ.s.length) :
    CallG Hvaf.prog 77 #[ptr sb 0, ptr fb 0, .int .u8 (7 : Nat)] ⟨I, ⟨sb, ssz, Ts, cs⟩ :: ⟨fb, fsz, Tf, cf⟩ :: (M ++ ML)⟩ fun _ S' => PlY sb ssz fb fsz Ts Tf cs K (plainN kecN K σ 7) S' := by
  refine plV (t := 2) h hfz hN' hpc (by decide) rfl rfl hs1 (by decide) (by decide) (by decide) rfl rfl fun J av hs hA => ?_
  have e : valN kecN K σ.pc σ.gas σ.mem σ.w σ.s 7 = aluN 7 ((argsN σ.s 2).getD 0 0) ((argsN σ.s 2).getD 1 0) ((argsN σ.s 2).getD 2 0) := by
    show aluN 7 (argN σ.s 0) (argN σ.s 1) (argN σ.s 2) = aluN 7 (argN σ.s 0) (argN σ.s 1) 0
    exact alu_c (by decide) (by decide)
  rw [e]
  exact valS (h.c.W.up hs) (yVal7 hA (by rw [argsN_len]; decide) (args_lt _ _ hN.sb) (args_lt _ _ hN.sb))
theorem pl8 (h : YI I fb cs cf K σ M ML) (hsz : 179 ≤ ssz) (hfz : 60 ≤ fsz) (hN : NOk K σ) (hN' : NOk K (plainN kecN K σ 8)) (hpc : σ.pc < 2 ^ 20) (hs1 : 3 ≤ σ.s.length) :
    CallG Hvaf.prog 77 #[ptr sb 0, ptr fb 0, .int .u8 (8 : Nat)] ⟨I, ⟨sb, ssz, Ts, cs⟩ :: ⟨fb, fsz, Tf, cf⟩ :: (M ++ ML)⟩ fun _ S' => PlY sb ssz fb fsz Ts Tf cs K (plainN kecN K σ 8) S' := by
  refine plV (t := 3) h hfz hN' hpc (by decide) rfl rfl hs1 (by decide) (by decide) (by decide) rfl rfl fun J av hs hA => ?_
  exact valS (h.c.W.up hs) (yVal8 hA (by rw [argsN_len]; decide) (args_lt _ _ hN.sb) (args_lt _ _ hN.sb))
theorem pl9 (h : YI I fb cs cf K σ M ML) (hsz : 179 ≤ ssz) (hfz : 60 ≤ fsz) (hN : NOk K σ) (hN' : NOk K (plainN kecN K σ 9)) (hpc : σ.pc < 2 ^ 20) (hs1 : 3 ≤ σ.s.length) :
    CallG Hvaf.prog 77 #[ptr sb 0, ptr fb 0, .int .u8 (9 : Nat)] ⟨I, ⟨sb, ssz, Ts, cs⟩ :: ⟨fb, fsz, Tf, cf⟩ :: (M ++ ML)⟩ fun _ S' => PlY sb ssz fb fsz Ts Tf cs K (plainN kecN K σ 9) S' := by
  refine plV (t := 3) h hfz hN' hpc (by decide) rfl rfl hs1 (by decide) (by decide) (by decide) rfl rfl fun J av hs hA => ?_
  exact valS (h.c.W.up hs) (yVal9 hA (by rw [argsN_len]; decide) (args_lt _ _ hN.sb) (args_lt _ _ hN.sb))
theorem pl10 (h : YI I fb cs cf K σ M ML) (hsz : 179 ≤ ssz) (hfz : 60 ≤ fsz) (hN : NOk K σ) (hN' : NOk K (plainN kecN K σ 10)) (hpc : σ.pc < 2 ^ 20) (hs1 : 2 ≤ σ.s.length) :
    CallG Hvaf.prog 77 #[ptr sb 0, ptr fb 0, .int .u8 (10 : Nat)] ⟨I, ⟨sb, ssz, Ts, cs⟩ :: ⟨fb, fsz, Tf, cf⟩ :: (M ++ ML)⟩ fun _ S' => PlY sb ssz fb fsz Ts Tf cs K (plainN kecN K σ 10) S' := by
  refine plV (t := 2) h hfz hN' hpc (by decide) rfl rfl hs1 (by decide) (by decide) (by decide) rfl rfl fun J av hs hA => ?_
  have e : valN kecN K σ.pc σ.gas σ.mem σ.w σ.s 10 = aluN 10 ((argsN σ.s 2).getD 0 0) ((argsN σ.s 2).getD 1 0) ((argsN σ.s 2).getD 2 0) := by
    show aluN 10 (argN σ.s 0) (argN σ.s 1) (argN σ.s 2) = aluN 10 (argN σ.s 0) (argN σ.s 1) 0
    exact alu_c (by decide) (by decide)
  rw [e]
  exact valS (h.c.W.up hs) (yVal10 hA (by rw [argsN_len]; decide) (args_lt _ _ hN.sb) (args_lt _ _ hN.sb))
theorem pl11 (h : YI I fb cs cf K σ M ML) (hsz : 179 ≤ ssz) (hfz : 60 ≤ fsz) (hN : NOk K σ) (hN' : NOk K (plainN kecN K σ 11)) (hpc : σ.pc < 2 ^ 20) (hs1 : 2 ≤ σ.s.length) :
    CallG Hvaf.prog 77 #[ptr sb 0, ptr fb 0, .int .u8 (11 : Nat)] ⟨I, ⟨sb, ssz, Ts, cs⟩ :: ⟨fb, fsz, Tf, cf⟩ :: (M ++ ML)⟩ fun _ S' => PlY sb ssz fb fsz Ts Tf cs K (plainN kecN K σ 11) S' := by
  refine plV (t := 2) h hfz hN' hpc (by decide) rfl rfl hs1 (by decide) (by decide) (by decide) rfl rfl fun J av hs hA => ?_
  have e : valN kecN K σ.pc σ.gas σ.mem σ.w σ.s 11 = aluN 11 ((argsN σ.s 2).getD 0 0) ((argsN σ.s 2).getD 1 0) ((argsN σ.s 2).getD 2 0) := by
    show aluN 11 (argN σ.s 0) (argN σ.s 1) (argN σ.s 2) = aluN 11 (argN σ.s 0) (argN σ.s 1) 0
    exact alu_c (by decide) (by decide)
  rw [e]
  exact valS (h.c.W.up hs) (yVal11 hA (by rw [argsN_len]; decide) (args_lt _ _ hN.sb) (args_lt _ _ hN.sb))
theorem pl16 (h : YI I fb cs cf K σ M ML) (hsz : 179 ≤ ssz) (hfz : 60 ≤ fsz) (hN : NOk K σ) (hN' : NOk K (plainN kecN K σ 16)) (hpc : σ.pc < 2 ^ 20) (hs1 : 2 ≤ σ.s.length) :
    CallG Hvaf.prog 77 #[ptr sb 0, ptr fb 0, .int .u8 (16 : Nat)] ⟨I, ⟨sb, ssz, Ts, cs⟩ :: ⟨fb, fsz, Tf, cf⟩ :: (M ++ ML)⟩ fun _ S' => PlY sb ssz fb fsz Ts Tf cs K (plainN kecN K σ 16) S' := by
  refine plV (t := 2) h hfz hN' hpc (by decide) rfl rfl hs1 (by decide) (by decide) (by decide) rfl rfl fun J av hs hA => ?_
  have e : valN kecN K σ.pc σ.gas σ.mem σ.w σ.s 16 = aluN 16 ((argsN σ.s 2).getD 0 0) ((argsN σ.s 2).getD 1 0) ((argsN σ.s 2).getD 2 0) := by
    show aluN 16 (argN σ.s 0) (argN σ.s 1) (argN σ.s 2) = aluN 16 (argN σ.s 0) (argN σ.s 1) 0
    exact alu_c (by decide) (by decide)
  rw [e]
  exact valS (h.c.W.up hs) (yVal16 hA (by rw [argsN_len]; decide) (args_lt _ _ hN.sb) (args_lt _ _ hN.sb))
theorem pl17 (h : YI I fb cs cf K σ M ML) (hsz : 179 ≤ ssz) (hfz : 60 ≤ fsz) (hN : NOk K σ) (hN' : NOk K (plainN kecN K σ 17)) (hpc : σ.pc < 2 ^ 20) (hs1 : 2 ≤ σ.s.length) :
    CallG Hvaf.prog 77 #[ptr sb 0, ptr fb 0, .int .u8 (17 : Nat)] ⟨I, ⟨sb, ssz, Ts, cs⟩ :: ⟨fb, fsz, Tf, cf⟩ :: (M ++ ML)⟩ fun _ S' => PlY sb ssz fb fsz Ts Tf cs K (plainN kecN K σ 17) S' := by
  refine plV (t := 2) h hfz hN' hpc (by decide) rfl rfl hs1 (by decide) (by decide) (by decide) rfl rfl fun J av hs hA => ?_
  have e : valN kecN K σ.pc σ.gas σ.mem σ.w σ.s 17 = aluN 17 ((argsN σ.s 2).getD 0 0) ((argsN σ.s 2).getD 1 0) ((argsN σ.s 2).getD 2 0) := by
    show aluN 17 (argN σ.s 0) (argN σ.s 1) (argN σ.s 2) = aluN 17 (argN σ.s 0) (argN σ.s 1) 0
    exact alu_c (by decide) (by decide)
  rw [e]
  exact valS (h.c.W.up hs) (yVal17 hA (by rw [argsN_len]; decide) (args_lt _ _ hN.sb) (args_lt _ _ hN.sb))
theorem pl18 (h : YI I fb cs cf K σ M ML) (hsz : 179 ≤ ssz) (hfz : 60 ≤ fsz) (hN : NOk K σ) (hN' : NOk K (plainN kecN K σ 18)) (hpc : σ.pc < 2 ^ 20) (hs1 : 2 ≤ σ.s.length) :
    CallG Hvaf.prog 77 #[ptr sb 0, ptr fb 0, .int .u8 (18 : Nat)] ⟨I, ⟨sb, ssz, Ts, cs⟩ :: ⟨fb, fsz, Tf, cf⟩ :: (M ++ ML)⟩ fun _ S' => PlY sb ssz fb fsz Ts Tf cs K (plainN kecN K σ 18) S' := by
  refine plV (t := 2) h hfz hN' hpc (by decide) rfl rfl hs1 (by decide) (by decide) (by decide) rfl rfl fun J av hs hA => ?_
  have e : valN kecN K σ.pc σ.gas σ.mem σ.w σ.s 18 = aluN 18 ((argsN σ.s 2).getD 0 0) ((argsN σ.s 2).getD 1 0) ((argsN σ.s 2).getD 2 0) := by
    show aluN 18 (argN σ.s 0) (argN σ.s 1) (argN σ.s 2) = aluN 18 (argN σ.s 0) (argN σ.s 1) 0
    exact alu_c (by decide) (by decide)
  rw [e]
  exact valS (h.c.W.up hs) (yVal18 hA (by rw [argsN_len]; decide) (args_lt _ _ hN.sb) (args_lt _ _ hN.sb))
theorem pl19 (h : YI I fb cs cf K σ M ML) (hsz : 179 ≤ ssz) (hfz : 60 ≤ fsz) (hN : NOk K σ) (hN' : NOk K (plainN kecN K σ 19)) (hpc : σ.pc < 2 ^ 20) (hs1 : 2 ≤ σ.s.length) :
    CallG Hvaf.prog 77 #[ptr sb 0, ptr fb 0, .int .u8 (19 : Nat)] ⟨I, ⟨sb, ssz, Ts, cs⟩ :: ⟨fb, fsz, Tf, cf⟩ :: (M ++ ML)⟩ fun _ S' => PlY sb ssz fb fsz Ts Tf cs K (plainN kecN K σ 19) S' := by
  refine plV (t := 2) h hfz hN' hpc (by decide) rfl rfl hs1 (by decide) (by decide) (by decide) rfl rfl fun J av hs hA => ?_
  have e : valN kecN K σ.pc σ.gas σ.mem σ.w σ.s 19 = aluN 19 ((argsN σ.s 2).getD 0 0) ((argsN σ.s 2).getD 1 0) ((argsN σ.s 2).getD 2 0) := by
    show aluN 19 (argN σ.s 0) (argN σ.s 1) (argN σ.s 2) = aluN 19 (argN σ.s 0) (argN σ.s 1) 0
    exact alu_c (by decide) (by decide)
  rw [e]
  exact valS (h.c.W.up hs) (yVal19 hA (by rw [argsN_len]; decide) (args_lt _ _ hN.sb) (args_lt _ _ hN.sb))
theorem pl20 (h : YI I fb cs cf K σ M ML) (hsz : 179 ≤ ssz) (hfz : 60 ≤ fsz) (hN : NOk K σ) (hN' : NOk K (plainN kecN K σ 20)) (hpc : σ.pc < 2 ^ 20) (hs1 : 2 ≤ σ.s.length) :
    CallG Hvaf.prog 77 #[ptr sb 0, ptr fb 0, .int .u8 (20 : Nat)] ⟨I, ⟨sb, ssz, Ts, cs⟩ :: ⟨fb, fsz, Tf, cf⟩ :: (M ++ ML)⟩ fun _ S' => PlY sb ssz fb fsz Ts Tf cs K (plainN kecN K σ 20) S' := by
  refine plV (t := 2) h hfz hN' hpc (by decide) rfl rfl hs1 (by decide) (by decide) (by decide) rfl rfl fun J av hs hA => ?_
  have e : valN kecN K σ.pc σ.gas σ.mem σ.w σ.s 20 = aluN 20 ((argsN σ.s 2).getD 0 0) ((argsN σ.s 2).getD 1 0) ((argsN σ.s 2).getD 2 0) := by
    show aluN 20 (argN σ.s 0) (argN σ.s 1) (argN σ.s 2) = aluN 20 (argN σ.s 0) (argN σ.s 1) 0
    exact alu_c (by decide) (by decide)
  rw [e]
  exact valS (h.c.W.up hs) (yVal20 hA (by rw [argsN_len]; decide) (args_lt _ _ hN.sb) (args_lt _ _ hN.sb))
theorem pl21 (h : YI I fb cs cf K σ M ML) (hsz : 179 ≤ ssz) (hfz : 60 ≤ fsz) (hN : NOk K σ) (hN' : NOk K (plainN kecN K σ 21)) (hpc : σ.pc < 2 ^ 20) (hs1 : 1 ≤ σ.s.length) :
    CallG Hvaf.prog 77 #[ptr sb 0, ptr fb 0, .int .u8 (21 : Nat)] ⟨I, ⟨sb, ssz, Ts, cs⟩ :: ⟨fb, fsz, Tf, cf⟩ :: (M ++ ML)⟩ fun _ S' => PlY sb ssz fb fsz Ts Tf cs K (plainN kecN K σ 21) S' := by
  refine plV (t := 1) h hfz hN' hpc (by decide) rfl rfl hs1 (by decide) (by decide) (by decide) rfl rfl fun J av hs hA => ?_
  have e : valN kecN K σ.pc σ.gas σ.mem σ.w σ.s 21 = aluN 21 ((argsN σ.s 1).getD 0 0) ((argsN σ.s 1).getD 1 0) ((argsN σ.s 1).getD 2 0) := by
    show aluN 21 (argN σ.s 0) (argN σ.s 1) (argN σ.s 2) = aluN 21 (argN σ.s 0) 0 0
    simp [aluN]
  rw [e]
  exact valS (h.c.W.up hs) (yVal21 hA (by rw [argsN_len]; decide) (args_lt _ _ hN.sb) (args_lt _ _ hN.sb))
theorem pl22 (h : YI I fb cs cf K σ M ML) (hsz : 179 ≤ ssz) (hfz : 60 ≤ fsz) (hN : NOk K σ) (hN' : NOk K (plainN kecN K σ 22)) (hpc : σ.pc < 2 ^ 20) (hs1 : 2 ≤ σ.s.length) :
    CallG Hvaf.prog 77 #[ptr sb 0, ptr fb 0, .int .u8 (22 : Nat)] ⟨I, ⟨sb, ssz, Ts, cs⟩ :: ⟨fb, fsz, Tf, cf⟩ :: (M ++ ML)⟩ fun _ S' => PlY sb ssz fb fsz Ts Tf cs K (plainN kecN K σ 22) S' := by
  refine plV (t := 2) h hfz hN' hpc (by decide) rfl rfl hs1 (by decide) (by decide) (by decide) rfl rfl fun J av hs hA => ?_
  have e : valN kecN K σ.pc σ.gas σ.mem σ.w σ.s 22 = aluN 22 ((argsN σ.s 2).getD 0 0) ((argsN σ.s 2).getD 1 0) ((argsN σ.s 2).getD 2 0) := by
    show aluN 22 (argN σ.s 0) (argN σ.s 1) (argN σ.s 2) = aluN 22 (argN σ.s 0) (argN σ.s 1) 0
    exact alu_c (by decide) (by decide)
  rw [e]
  exact valS (h.c.W.up hs) (yVal22 hA (by rw [argsN_len]; decide) (args_lt _ _ hN.sb) (args_lt _ _ hN.sb))
theorem pl23 (h : YI I fb cs cf K σ M ML) (hsz : 179 ≤ ssz) (hfz : 60 ≤ fsz) (hN : NOk K σ) (hN' : NOk K (plainN kecN K σ 23)) (hpc : σ.pc < 2 ^ 20) (hs1 : 2 ≤ σ.s.length) :
    CallG Hvaf.prog 77 #[ptr sb 0, ptr fb 0, .int .u8 (23 : Nat)] ⟨I, ⟨sb, ssz, Ts, cs⟩ :: ⟨fb, fsz, Tf, cf⟩ :: (M ++ ML)⟩ fun _ S' => PlY sb ssz fb fsz Ts Tf cs K (plainN kecN K σ 23) S' := by
  refine plV (t := 2) h hfz hN' hpc (by decide) rfl rfl hs1 (by decide) (by decide) (by decide) rfl rfl fun J av hs hA => ?_
  have e : valN kecN K σ.pc σ.gas σ.mem σ.w σ.s 23 = aluN 23 ((argsN σ.s 2).getD 0 0) ((argsN σ.s 2).getD 1 0) ((argsN σ.s 2).getD 2 0) := by
    show aluN 23 (argN σ.s 0) (argN σ.s 1) (argN σ.s 2) = aluN 23 (argN σ.s 0) (argN σ.s 1) 0
    exact alu_c (by decide) (by decide)
  rw [e]
  exact valS (h.c.W.up hs) (yVal23 hA (by rw [argsN_len]; decide) (args_lt _ _ hN.sb) (args_lt _ _ hN.sb))
theorem pl24 (h : YI I fb cs cf K σ M ML) (hsz : 179 ≤ ssz) (hfz : 60 ≤ fsz) (hN : NOk K σ) (hN' : NOk K (plainN kecN K σ 24)) (hpc : σ.pc < 2 ^ 20) (hs1 : 2 ≤ σ.s.length) :
    CallG Hvaf.prog 77 #[ptr sb 0, ptr fb 0, .int .u8 (24 : Nat)] ⟨I, ⟨sb, ssz, Ts, cs⟩ :: ⟨fb, fsz, Tf, cf⟩ :: (M ++ ML)⟩ fun _ S' => PlY sb ssz fb fsz Ts Tf cs K (plainN kecN K σ 24) S' := by
  refine plV (t := 2) h hfz hN' hpc (by decide) rfl rfl hs1 (by decide) (by decide) (by decide) rfl rfl fun J av hs hA => ?_
  have e : valN kecN K σ.pc σ.gas σ.mem σ.w σ.s 24 = aluN 24 ((argsN σ.s 2).getD 0 0) ((argsN σ.s 2).getD 1 0) ((argsN σ.s 2).getD 2 0) := by
    show aluN 24 (argN σ.s 0) (argN σ.s 1) (argN σ.s 2) = aluN 24 (argN σ.s 0) (argN σ.s 1) 0
    exact alu_c (by decide) (by decide)
  rw [e]
  exact valS (h.c.W.up hs) (yVal24 hA (by rw [argsN_len]; decide) (args_lt _ _ hN.sb) (args_lt _ _ hN.sb))
theorem pl25 (h : YI I fb cs cf K σ M ML) (hsz : 179 ≤ ssz) (hfz : 60 ≤ fsz) (hN : NOk K σ) (hN' : NOk K (plainN kecN K σ 25)) (hpc : σ.pc < 2 ^ 20) (hs1 : 1 ≤ σ.s.length) :
    CallG Hvaf.prog 77 #[ptr sb 0, ptr fb 0, .int .u8 (25 : Nat)] ⟨I, ⟨sb, ssz, Ts, cs⟩ :: ⟨fb, fsz, Tf, cf⟩ :: (M ++ ML)⟩ fun _ S' => PlY sb ssz fb fsz Ts Tf cs K (plainN kecN K σ 25) S' := by
  refine plV (t := 1) h hfz hN' hpc (by decide) rfl rfl hs1 (by decide) (by decide) (by decide) rfl rfl fun J av hs hA => ?_
  have e : valN kecN K σ.pc σ.gas σ.mem σ.w σ.s 25 = aluN 25 ((argsN σ.s 1).getD 0 0) ((argsN σ.s 1).getD 1 0) ((argsN σ.s 1).getD 2 0) := by
    show aluN 25 (argN σ.s 0) (argN σ.s 1) (argN σ.s 2) = aluN 25 (argN σ.s 0) 0 0
    simp [aluN]
  rw [e]
  exact valS (h.c.W.up hs) (yVal25 hA (by rw [argsN_len]; decide) (args_lt _ _ hN.sb) (args_lt _ _ hN.sb) (by rw [argsN_len]; decide))
theorem pl26 (h : YI I fb cs cf K σ M ML) (hsz : 179 ≤ ssz) (hfz : 60 ≤ fsz) (hN : NOk K σ) (hN' : NOk K (plainN kecN K σ 26)) (hpc : σ.pc < 2 ^ 20) (hs1 : 2 ≤ σ.s.length) :
    CallG Hvaf.prog 77 #[ptr sb 0, ptr fb 0, .int .u8 (26 : Nat)] ⟨I, ⟨sb, ssz, Ts, cs⟩ :: ⟨fb, fsz, Tf, cf⟩ :: (M ++ ML)⟩ fun _ S' => PlY sb ssz fb fsz Ts Tf cs K (plainN kecN K σ 26) S' := by
  refine plV (t := 2) h hfz hN' hpc (by decide) rfl rfl hs1 (by decide) (by decide) (by decide) rfl rfl fun J av hs hA => ?_
  have e : valN kecN K σ.pc σ.gas σ.mem σ.w σ.s 26 = aluN 26 ((argsN σ.s 2).getD 0 0) ((argsN σ.s 2).getD 1 0) ((argsN σ.s 2).getD 2 0) := by
    show aluN 26 (argN σ.s 0) (argN σ.s 1) (argN σ.s 2) = aluN 26 (argN σ.s 0) (argN σ.s 1) 0
    exact alu_c (by decide) (by decide)
  rw [e]
  exact valS (h.c.W.up hs) (yVal26 hA (by rw [argsN_len]; decide) (args_lt _ _ hN.sb) (args_lt _ _ hN.sb))
theorem pl27 (h : YI I fb cs cf K σ M ML) (hsz : 179 ≤ ssz) (hfz : 60 ≤ fsz) (hN : NOk K σ) (hN' : NOk K (plainN kecN K σ 27)) (hpc : σ.pc < 2 ^ 20) (hs1 : 2 ≤ σ.s.length) :
    CallG Hvaf.prog 77 #[ptr sb 0, ptr fb 0, .int .u8 (27 : Nat)] ⟨I, ⟨sb, ssz, Ts, cs⟩ :: ⟨fb, fsz, Tf, cf⟩ :: (M ++ ML)⟩ fun _ S' => PlY sb ssz fb fsz Ts Tf cs K (plainN kecN K σ 27) S' := by
  refine plV (t := 2) h hfz hN' hpc (by decide) rfl rfl hs1 (by decide) (by decide) (by decide) rfl rfl fun J av hs hA => ?_
  have e : valN kecN K σ.pc σ.gas σ.mem σ.w σ.s 27 = aluN 27 ((argsN σ.s 2).getD 0 0) ((argsN σ.s 2).getD 1 0) ((argsN σ.s 2).getD 2 0) := by
    show aluN 27 (argN σ.s 0) (argN σ.s 1) (argN σ.s 2) = aluN 27 (argN σ.s 0) (argN σ.s 1) 0
    exact alu_c (by decide) (by decide)
  rw [e]
  exact valS (h.c.W.up hs) (yVal27 hA (by rw [argsN_len]; decide) (args_lt _ _ hN.sb) (args_lt _ _ hN.sb))
theorem pl28 (h : YI I fb cs cf K σ M ML) (hsz : 179 ≤ ssz) (hfz : 60 ≤ fsz) (hN : NOk K σ) (hN' : NOk K (plainN kecN K σ 28)) (hpc : σ.pc < 2 ^ 20) (hs1 : 2 ≤ σ.s.length) :
    CallG Hvaf.prog 77 #[ptr sb 0, ptr fb 0, .int .u8 (28 : Nat)] ⟨I, ⟨sb, ssz, Ts, cs⟩ :: ⟨fb, fsz, Tf, cf⟩ :: (M ++ ML)⟩ fun _ S' => PlY sb ssz fb fsz Ts Tf cs K (plainN kecN K σ 28) S' := by
  refine plV (t := 2) h hfz hN' hpc (by decide) rfl rfl hs1 (by decide) (by decide) (by decide) rfl rfl fun J av hs hA => ?_
  have e : valN kecN K σ.pc σ.gas σ.mem σ.w σ.s 28 = aluN 28 ((argsN σ.s 2).getD 0 0) ((argsN σ.s 2).getD 1 0) ((argsN σ.s 2).getD 2 0) := by
    show aluN 28 (argN σ.s 0) (argN σ.s 1) (argN σ.s 2) = aluN 28 (argN σ.s 0) (argN σ.s 1) 0
    exact alu_c (by decide) (by decide)
  rw [e]
  exact valS (h.c.W.up hs) (yVal28 hA (by rw [argsN_len]; decide) (args_lt _ _ hN.sb) (args_lt _ _ hN.sb))
theorem pl29 (h : YI I fb cs cf K σ M ML) (hsz : 179 ≤ ssz) (hfz : 60 ≤ fsz) (hN : NOk K σ) (hN' : NOk K (plainN kecN K σ 29)) (hpc : σ.pc < 2 ^ 20) (hs1 : 2 ≤ σ.s.length) :
    CallG Hvaf.prog 77 #[ptr sb 0, ptr fb 0, .int .u8 (29 : Nat)] ⟨I, ⟨sb, ssz, Ts, cs⟩ :: ⟨fb, fsz, Tf, cf⟩ :: (M ++ ML)⟩ fun _ S' => PlY sb ssz fb fsz Ts Tf cs K (plainN kecN K σ 29) S' := by
  refine plV (t := 2) h hfz hN' hpc (by decide) rfl rfl hs1 (by decide) (by decide) (by decide) rfl rfl fun J av hs hA => ?_
  have e : valN kecN K σ.pc σ.gas σ.mem σ.w σ.s 29 = aluN 29 ((argsN σ.s 2).getD 0 0) ((argsN σ.s 2).getD 1 0) ((argsN σ.s 2).getD 2 0) := by
    show aluN 29 (argN σ.s 0) (argN σ.s 1) (argN σ.s 2) = aluN 29 (argN σ.s 0) (argN σ.s 1) 0
    exact alu_c (by decide) (by decide)
  rw [e]
  exact valS (h.c.W.up hs) (yVal29 hA (by rw [argsN_len]; decide) (args_lt _ _ hN.sb) (args_lt _ _ hN.sb))
theorem pl48 (h : YI I fb cs cf K σ M ML) (hsz : 179 ≤ ssz) (hfz : 60 ≤ fsz) (hN : NOk K σ) (hN' : NOk K (plainN kecN K σ 48)) (hpc : σ.pc < 2 ^ 20) (hs1 : 0 ≤ σ.s.length) :
    CallG Hvaf.prog 77 #[ptr sb 0, ptr fb 0, .int .u8 (48 : Nat)] ⟨I, ⟨sb, ssz, Ts, cs⟩ :: ⟨fb, fsz, Tf, cf⟩ :: (M ++ ML)⟩ fun _ S' => PlY sb ssz fb fsz Ts Tf cs K (plainN kecN K σ 48) S' := by
  refine plV (t := 0) h hfz hN' hpc (by decide) rfl rfl hs1 (by decide) (by decide) (by decide) rfl rfl fun J av hs hA => ?_
  exact valS (h.c.W.up hs) (yVal48 hsz hfz (h.c.up hs) (h.e.up hs) h.m (fun x hx => List.mem_append_left _ hx) hA (by rw [argsN_len]; decide))
theorem pl50 (h : YI I fb cs cf K σ M ML) (hsz : 179 ≤ ssz) (hfz : 60 ≤ fsz) (hN : NOk K σ) (hN' : NOk K (plainN kecN K σ 50)) (hpc : σ.pc < 2 ^ 20) (hs1 : 0 ≤ σ.s.length) :
    CallG Hvaf.prog 77 #[ptr sb 0, ptr fb 0, .int .u8 (50 : Nat)] ⟨I, ⟨sb, ssz, Ts, cs⟩ :: ⟨fb, fsz, Tf, cf⟩ :: (M ++ ML)⟩ fun _ S' => PlY sb ssz fb fsz Ts Tf cs K (plainN kecN K σ 50) S' := by
  refine plV (t := 0) h hfz hN' hpc (by decide) rfl rfl hs1 (by decide) (by decide) (by decide) rfl rfl fun J av hs hA => ?_
  exact valS (h.c.W.up hs) (yVal50 hsz hfz (h.c.up hs) (h.e.up hs) h.m (fun x hx => List.mem_append_left _ hx) hA (by rw [argsN_len]; decide))
theorem pl51 (h : YI I fb cs cf K σ M ML) (hsz : 179 ≤ ssz) (hfz : 60 ≤ fsz) (hN : NOk K σ) (hN' : NOk K (plainN kecN K σ 51)) (hpc : σ.pc < 2 ^ 20) (hs1 : 0 ≤ σ.s.length) :
    CallG Hvaf.prog 77 #[ptr sb 0, ptr fb 0, .int .u8 (51 : Nat)] ⟨I, ⟨sb, ssz, Ts, cs⟩ :: ⟨fb, fsz, Tf, cf⟩ :: (M ++ ML)⟩ fun _ S' => PlY sb ssz fb fsz Ts Tf cs K (plainN kecN K σ 51) S' := by
  refine plV (t := 0) h hfz hN' hpc (by decide) rfl rfl hs1 (by decide) (by decide) (by decide) rfl rfl fun J av hs hA => ?_
  exact valS (h.c.W.up hs) (yVal51 hsz hfz (h.c.up hs) (h.e.up hs) h.m (fun x hx => List.mem_append_left _ hx) hA (by rw [argsN_len]; decide))
theorem pl52 (h : YI I fb cs cf K σ M ML) (hsz : 179 ≤ ssz) (hfz : 60 ≤ fsz) (hN : NOk K σ) (hN' : NOk K (plainN kecN K σ 52)) (hpc : σ.pc < 2 ^ 20) (hs1 : 0 ≤ σ.s.length) :
    CallG Hvaf.prog 77 #[ptr sb 0, ptr fb 0, .int .u8 (52 : Nat)] ⟨I, ⟨sb, ssz, Ts, cs⟩ :: ⟨fb, fsz, Tf, cf⟩ :: (M ++ ML)⟩ fun _ S' => PlY sb ssz fb fsz Ts Tf cs K (plainN kecN K σ 52) S' := by
  refine plV (t := 0) h hfz hN' hpc (by decide) rfl rfl hs1 (by decide) (by decide) (by decide) rfl rfl fun J av hs hA => ?_
  exact valS (h.c.W.up hs) (yVal52 hsz hfz (h.c.up hs) (h.e.up hs) h.m (fun x hx => List.mem_append_left _ hx) hA (by rw [argsN_len]; decide))
theorem pl53 (h : YI I fb cs cf K σ M ML) (hsz : 179 ≤ ssz) (hfz : 60 ≤ fsz) (hN : NOk K σ) (hN' : NOk K (plainN kecN K σ 53)) (hpc : σ.pc < 2 ^ 20) (hs1 : 1 ≤ σ.s.length) :
    CallG Hvaf.prog 77 #[ptr sb 0, ptr fb 0, .int .u8 (53 : Nat)] ⟨I, ⟨sb, ssz, Ts, cs⟩ :: ⟨fb, fsz, Tf, cf⟩ :: (M ++ ML)⟩ fun _ S' => PlY sb ssz fb fsz Ts Tf cs K (plainN kecN K σ 53) S' := by
  refine plV (t := 1) h hfz hN' hpc (by decide) rfl rfl hs1 (by decide) (by decide) (by decide) rfl rfl fun J av hs hA => ?_
  have e : valN kecN K σ.pc σ.gas σ.mem σ.w σ.s 53 = bev (cutL K.data (argN σ.s 0) 32) := by unfold valN; rw [if_neg (by decide), if_neg (by decide), if_neg (by decide), if_neg (by decide), if_neg (by decide), if_pos rfl]
  have ea : (argsN σ.s 1).getD 0 0 = argN σ.s 0 := argsN_get _ (by decide)
  have hy := yVal53 (sb := sb) (ssz := ssz) (fb := fb) (fsz := fsz) (Ts := Ts) (Tf := Tf) (G := M ++ ML) hsz hfz (h.c.up hs) (h.e.up hs) h.m (fun x hx => List.mem_append_left _ hx) hA (by rw [argsN_len]; decide)
  rw [ea] at hy
  rw [e]
  exact valS (h.c.W.up hs) hy
theorem pl54 (h : YI I fb cs cf K σ M ML) (hsz : 179 ≤ ssz) (hfz : 60 ≤ fsz) (hN : NOk K σ) (hN' : NOk K (plainN kecN K σ 54)) (hpc : σ.pc < 2 ^ 20) (hs1 : 0 ≤ σ.s.length) :
    CallG Hvaf.prog 77 #[ptr sb 0, ptr fb 0, .int .u8 (54 : Nat)] ⟨I, ⟨sb, ssz, Ts, cs⟩ :: ⟨fb, fsz, Tf, cf⟩ :: (M ++ ML)⟩ fun _ S' => PlY sb ssz fb fsz Ts Tf cs K (plainN kecN K σ 54) S' := by
  refine plV (t := 0) h hfz hN' hpc (by decide) rfl rfl hs1 (by decide) (by decide) (by decide) rfl rfl fun J av hs hA => ?_
  exact valS (h.c.W.up hs) (yVal54 hsz hfz (h.c.up hs) (h.e.up hs) h.m (fun x hx => List.mem_append_left _ hx) hA (by rw [argsN_len]; decide))
theorem pl56 (h : YI I fb cs cf K σ M ML) (hsz : 179 ≤ ssz) (hfz : 60 ≤ fsz) (hN : NOk K σ) (hN' : NOk K (plainN kecN K σ 56)) (hpc : σ.pc < 2 ^ 20) (hs1 : 0 ≤ σ.s.length) :
    CallG Hvaf.prog 77 #[ptr sb 0, ptr fb 0, .int .u8 (56 : Nat)] ⟨I, ⟨sb, ssz, Ts, cs⟩ :: ⟨fb, fsz, Tf, cf⟩ :: (M ++ ML)⟩ fun _ S' => PlY sb ssz fb fsz Ts Tf cs K (plainN kecN K σ 56) S' := by
  refine plV (t := 0) h hfz hN' hpc (by decide) rfl rfl hs1 (by decide) (by decide) (by decide) rfl rfl fun J av hs hA => ?_
  exact valS (h.c.W.up hs) (yVal56 hsz hfz (h.c.up hs) (h.e.up hs) h.m (fun x hx => List.mem_append_left _ hx) hA (by rw [argsN_len]; decide))
theorem pl58 (h : YI I fb cs cf K σ M ML) (hsz : 179 ≤ ssz) (hfz : 60 ≤ fsz) (hN : NOk K σ) (hN' : NOk K (plainN kecN K σ 58)) (hpc : σ.pc < 2 ^ 20) (hs1 : 0 ≤ σ.s.length) :
    CallG Hvaf.prog 77 #[ptr sb 0, ptr fb 0, .int .u8 (58 : Nat)] ⟨I, ⟨sb, ssz, Ts, cs⟩ :: ⟨fb, fsz, Tf, cf⟩ :: (M ++ ML)⟩ fun _ S' => PlY sb ssz fb fsz Ts Tf cs K (plainN kecN K σ 58) S' := by
  refine plV (t := 0) h hfz hN' hpc (by decide) rfl rfl hs1 (by decide) (by decide) (by decide) rfl rfl fun J av hs hA => ?_
  exact valS (h.c.W.up hs) (yVal58 hsz hfz (h.c.up hs) (h.e.up hs) h.m (fun x hx => List.mem_append_left _ hx) hA (by rw [argsN_len]; decide))
theorem pl61 (h : YI I fb cs cf K σ M ML) (hsz : 179 ≤ ssz) (hfz : 60 ≤ fsz) (hN : NOk K σ) (hN' : NOk K (plainN kecN K σ 61)) (hpc : σ.pc < 2 ^ 20) (hs1 : 0 ≤ σ.s.length) :
    CallG Hvaf.prog 77 #[ptr sb 0, ptr fb 0, .int .u8 (61 : Nat)] ⟨I, ⟨sb, ssz, Ts, cs⟩ :: ⟨fb, fsz, Tf, cf⟩ :: (M ++ ML)⟩ fun _ S' => PlY sb ssz fb fsz Ts Tf cs K (plainN kecN K σ 61) S' := by
  refine plV (t := 0) h hfz hN' hpc (by decide) rfl rfl hs1 (by decide) (by decide) (by decide) rfl rfl fun J av hs hA => ?_
  exact valS (h.c.W.up hs) (yVal61 hsz hfz (h.c.up hs) (h.e.up hs) h.m (fun x hx => List.mem_append_left _ hx) hA (by rw [argsN_len]; decide))
theorem pl65 (h : YI I fb cs cf K σ M ML) (hsz : 179 ≤ ssz) (hfz : 60 ≤ fsz) (hN : NOk K σ) (hN' : NOk K (plainN kecN K σ 65)) (hpc : σ.pc < 2 ^ 20) (hs1 : 0 ≤ σ.s.length) :
    CallG Hvaf.prog 77 #[ptr sb 0, ptr fb 0, .int .u8 (65 : Nat)] ⟨I, ⟨sb, ssz, Ts, cs⟩ :: ⟨fb, fsz, Tf, cf⟩ :: (M ++ ML)⟩ fun _ S' => PlY sb ssz fb fsz Ts Tf cs K (plainN kecN K σ 65) S' := by
  refine plV (t := 0) h hfz hN' hpc (by decide) rfl rfl hs1 (by decide) (by decide) (by decide) rfl rfl fun J av hs hA => ?_
  exact valS (h.c.W.up hs) (yVal65 hsz hfz (h.c.up hs) (h.e.up hs) h.m (fun x hx => List.mem_append_left _ hx) hA (by rw [argsN_len]; decide))
theorem pl66 (h : YI I fb cs cf K σ M ML) (hsz : 179 ≤ ssz) (hfz : 60 ≤ fsz) (hN : NOk K σ) (hN' : NOk K (plainN kecN K σ 66)) (hpc : σ.pc < 2 ^ 20) (hs1 : 0 ≤ σ.s.length) :
    CallG Hvaf.prog 77 #[ptr sb 0, ptr fb 0, .int .u8 (66 : Nat)] ⟨I, ⟨sb, ssz, Ts, cs⟩ :: ⟨fb, fsz, Tf, cf⟩ :: (M ++ ML)⟩ fun _ S' => PlY sb ssz fb fsz Ts Tf cs K (plainN kecN K σ 66) S' := by
  refine plV (t := 0) h hfz hN' hpc (by decide) rfl rfl hs1 (by decide) (by decide) (by decide) rfl rfl fun J av hs hA => ?_
  exact valS (h.c.W.up hs) (yVal66 hsz hfz (h.c.up hs) (h.e.up hs) h.m (fun x hx => List.mem_append_left _ hx) hA (by rw [argsN_len]; decide))
theorem pl67 (h : YI I fb cs cf K σ M ML) (hsz : 179 ≤ ssz) (hfz : 60 ≤ fsz) (hN : NOk K σ) (hN' : NOk K (plainN kecN K σ 67)) (hpc : σ.pc < 2 ^ 20) (hs1 : 0 ≤ σ.s.length) :
    CallG Hvaf.prog 77 #[ptr sb 0, ptr fb 0, .int .u8 (67 : Nat)] ⟨I, ⟨sb, ssz, Ts, cs⟩ :: ⟨fb, fsz, Tf, cf⟩ :: (M ++ ML)⟩ fun _ S' => PlY sb ssz fb fsz Ts Tf cs K (plainN kecN K σ 67) S' := by
  refine plV (t := 0) h hfz hN' hpc (by decide) rfl rfl hs1 (by decide) (by decide) (by decide) rfl rfl fun J av hs hA => ?_
  exact valS (h.c.W.up hs) (yVal67 hsz hfz (h.c.up hs) (h.e.up hs) h.m (fun x hx => List.mem_append_left _ hx) hA (by rw [argsN_len]; decide))
theorem pl68 (h : YI I fb cs cf K σ M ML) (hsz : 179 ≤ ssz) (hfz : 60 ≤ fsz) (hN : NOk K σ) (hN' : NOk K (plainN kecN K σ 68)) (hpc : σ.pc < 2 ^ 20) (hs1 : 0 ≤ σ.s.length) :
    CallG Hvaf.prog 77 #[ptr sb 0, ptr fb 0, .int .u8 (68 : Nat)] ⟨I, ⟨sb, ssz, Ts, cs⟩ :: ⟨fb, fsz, Tf, cf⟩ :: (M ++ ML)⟩ fun _ S' => PlY sb ssz fb fsz Ts Tf cs K (plainN kecN K σ 68) S' := by
  refine plV (t := 0) h hfz hN' hpc (by decide) rfl rfl hs1 (by decide) (by decide) (by decide) rfl rfl fun J av hs hA => ?_
  exact valS (h.c.W.up hs) (yVal68 hsz hfz (h.c.up hs) (h.e.up hs) h.m (fun x hx => List.mem_append_left _ hx) hA (by rw [argsN_len]; decide))
theorem pl69 (h : YI I fb cs cf K σ M ML) (hsz : 179 ≤ ssz) (hfz : 60 ≤ fsz) (hN : NOk K σ) (hN' : NOk K (plainN kecN K σ 69)) (hpc : σ.pc < 2 ^ 20) (hs1 : 0 ≤ σ.s.length) :
    CallG Hvaf.prog 77 #[ptr sb 0, ptr fb 0, .int .u8 (69 : Nat)] ⟨I, ⟨sb, ssz, Ts, cs⟩ :: ⟨fb, fsz, Tf, cf⟩ :: (M ++ ML)⟩ fun _ S' => PlY sb ssz fb fsz Ts Tf cs K (plainN kecN K σ 69) S' := by
  refine plV (t := 0) h hfz hN' hpc (by decide) rfl rfl hs1 (by decide) (by decide) (by decide) rfl rfl fun J av hs hA => ?_
  exact valS (h.c.W.up hs) (yVal69 hsz hfz (h.c.up hs) (h.e.up hs) h.m (fun x hx => List.mem_append_left _ hx) hA (by rw [argsN_len]; decide))
theorem pl70 (h : YI I fb cs cf K σ M ML) (hsz : 179 ≤ ssz) (hfz : 60 ≤ fsz) (hN : NOk K σ) (hN' : NOk K (plainN kecN K σ 70)) (hpc : σ.pc < 2 ^ 20) (hs1 : 0 ≤ σ.s.length) :
    CallG Hvaf.prog 77 #[ptr sb 0, ptr fb 0, .int .u8 (70 : Nat)] ⟨I, ⟨sb, ssz, Ts, cs⟩ :: ⟨fb, fsz, Tf, cf⟩ :: (M ++ ML)⟩ fun _ S' => PlY sb ssz fb fsz Ts Tf cs K (plainN kecN K σ 70) S' := by
  refine plV (t := 0) h hfz hN' hpc (by decide) rfl rfl hs1 (by decide) (by decide) (by decide) rfl rfl fun J av hs hA => ?_
  exact valS (h.c.W.up hs) (yVal70 hsz hfz (h.c.up hs) (h.e.up hs) h.m (fun x hx => List.mem_append_left _ hx) hA (by rw [argsN_len]; decide))
theorem pl71 (h : YI I fb cs cf K σ M ML) (hsz : 179 ≤ ssz) (hfz : 60 ≤ fsz) (hN : NOk K σ) (hN' : NOk K (plainN kecN K σ 71)) (hpc : σ.pc < 2 ^ 20) (hs1 : 0 ≤ σ.s.length) :
    CallG Hvaf.prog 77 #[ptr sb 0, ptr fb 0, .int .u8 (71 : Nat)] ⟨I, ⟨sb, ssz, Ts, cs⟩ :: ⟨fb, fsz, Tf, cf⟩ :: (M ++ ML)⟩ fun _ S' => PlY sb ssz fb fsz Ts Tf cs K (plainN kecN K σ 71) S' := by
  refine plV (t := 0) h hfz hN' hpc (by decide) rfl rfl hs1 (by decide) (by decide) (by decide) rfl rfl fun J av hs hA => ?_
  exact valS (h.c.W.up hs) (yVal71 hsz hfz (h.c.up hs) (h.e.up hs) h.m (fun x hx => List.mem_append_left _ hx) hA (by rw [argsN_len]; decide))
theorem pl72 (h : YI I fb cs cf K σ M ML) (hsz : 179 ≤ ssz) (hfz : 60 ≤ fsz) (hN : NOk K σ) (hN' : NOk K (plainN kecN K σ 72)) (hpc : σ.pc < 2 ^ 20) (hs1 : 0 ≤ σ.s.length) :
    CallG Hvaf.prog 77 #[ptr sb 0, ptr fb 0, .int .u8 (72 : Nat)] ⟨I, ⟨sb, ssz, Ts, cs⟩ :: ⟨fb, fsz, Tf, cf⟩ :: (M ++ ML)⟩ fun _ S' => PlY sb ssz fb fsz Ts Tf cs K (plainN kecN K σ 72) S' := by
  refine plV (t := 0) h hfz hN' hpc (by decide) rfl rfl hs1 (by decide) (by decide) (by decide) rfl rfl fun J av hs hA => ?_
  exact valS (h.c.W.up hs) (yVal72 hsz hfz (h.c.up hs) (h.e.up hs) h.m (fun x hx => List.mem_append_left _ hx) hA (by rw [argsN_len]; decide))
theorem pl81 (h : YI I fb cs cf K σ M ML) (hsz : 179 ≤ ssz) (hfz : 60 ≤ fsz) (hN : NOk K σ) (hN' : NOk K (plainN kecN K σ 81)) (hpc : σ.pc < 2 ^ 20) (hs1 : 1 ≤ σ.s.length) :
    CallG Hvaf.prog 77 #[ptr sb 0, ptr fb 0, .int .u8 (81 : Nat)] ⟨I, ⟨sb, ssz, Ts, cs⟩ :: ⟨fb, fsz, Tf, cf⟩ :: (M ++ ML)⟩ fun _ S' => PlY sb ssz fb fsz Ts Tf cs K (plainN kecN K σ 81) S' := by
  refine plV (t := 1) h hfz hN' hpc (by decide) rfl rfl hs1 (by decide) (by decide) (by decide) rfl rfl fun J av hs hA => ?_
  have e : valN kecN K σ.pc σ.gas σ.mem σ.w σ.s 81 = bev (cutL σ.mem (argN σ.s 0) 32) := by unfold valN; rw [if_neg (by decide), if_neg (by decide), if_neg (by decide), if_neg (by decide), if_neg (by decide), if_neg (by decide), if_neg (by decide), if_neg (by decide), if_neg (by decide), if_pos rfl]
  have ea : (argsN σ.s 1).getD 0 0 = argN σ.s 0 := argsN_get _ (by decide)
  have hy := yVal81 (sb := sb) (ssz := ssz) (fb := fb) (fsz := fsz) (Ts := Ts) (Tf := Tf) (G := M ++ ML) hsz hfz (h.c.up hs) (h.e.up hs) h.m (fun x hx => List.mem_append_left _ hx) hA (by rw [argsN_len]; decide)
  rw [ea] at hy
  rw [e]
  exact valS (h.c.W.up hs) hy
theorem pl88 (h : YI I fb cs cf K σ M ML) (hsz : 179 ≤ ssz) (hfz : 60 ≤ fsz) (hN : NOk K σ) (hN' : NOk K (plainN kecN K σ 88)) (hpc : σ.pc < 2 ^ 20) (hs1 : 0 ≤ σ.s.length) :
    CallG Hvaf.prog 77 #[ptr sb 0, ptr fb 0, .int .u8 (88 : Nat)] ⟨I, ⟨sb, ssz, Ts, cs⟩ :: ⟨fb, fsz, Tf, cf⟩ :: (M ++ ML)⟩ fun _ S' => PlY sb ssz fb fsz Ts Tf cs K (plainN kecN K σ 88) S' := by
  refine plV (t := 0) h hfz hN' hpc (by decide) rfl rfl hs1 (by decide) (by decide) (by decide) rfl rfl fun J av hs hA => ?_
  exact valS (h.c.W.up hs) (yVal88 hsz hfz (h.c.up hs) (h.e.up hs) h.m (fun x hx => List.mem_append_left _ hx) hA (by rw [argsN_len]; decide))
theorem pl89 (h : YI I fb cs cf K σ M ML) (hsz : 179 ≤ ssz) (hfz : 60 ≤ fsz) (hN : NOk K σ) (hN' : NOk K (plainN kecN K σ 89)) (hpc : σ.pc < 2 ^ 20) (hs1 : 0 ≤ σ.s.length) :
    CallG Hvaf.prog 77 #[ptr sb 0, ptr fb 0, .int .u8 (89 : Nat)] ⟨I, ⟨sb, ssz, Ts, cs⟩ :: ⟨fb, fsz, Tf, cf⟩ :: (M ++ ML)⟩ fun _ S' => PlY sb ssz fb fsz Ts Tf cs K (plainN kecN K σ 89) S' := by
  refine plV (t := 0) h hfz hN' hpc (by decide) rfl rfl hs1 (by decide) (by decide) (by decide) rfl rfl fun J av hs hA => ?_
  exact valS (h.c.W.up hs) (yVal89 hsz hfz (h.c.up hs) (h.e.up hs) h.m (fun x hx => List.mem_append_left _ hx) hA (by rw [argsN_len]; decide))
theorem pl90 (h : YI I fb cs cf K σ M ML) (hsz : 179 ≤ ssz) (hfz : 60 ≤ fsz) (hN : NOk K σ) (hN' : NOk K (plainN kecN K σ 90)) (hpc : σ.pc < 2 ^ 20) (hs1 : 0 ≤ σ.s.length) :
    CallG Hvaf.prog 77 #[ptr sb 0, ptr fb 0, .int .u8 (90 : Nat)] ⟨I, ⟨sb, ssz, Ts, cs⟩ :: ⟨fb, fsz, Tf, cf⟩ :: (M ++ ML)⟩ fun _ S' => PlY sb ssz fb fsz Ts Tf cs K (plainN kecN K σ 90) S' := by
  refine plV (t := 0) h hfz hN' hpc (by decide) rfl rfl hs1 (by decide) (by decide) (by decide) rfl rfl fun J av hs hA => ?_
  exact valS (h.c.W.up hs) (yVal90 hsz hfz (h.c.up hs) (h.e.up hs) h.m (fun x hx => List.mem_append_left _ hx) hA (by rw [argsN_len]; decide))
theorem pl92 (h : YI I fb cs cf K σ M ML) (hsz : 179 ≤ ssz) (hfz : 60 ≤ fsz) (hN : NOk K σ) (hN' : NOk K (plainN kecN K σ 92)) (hpc : σ.pc < 2 ^ 20) (hs1 : 1 ≤ σ.s.length) :
    CallG Hvaf.prog 77 #[ptr sb 0, ptr fb 0, .int .u8 (92 : Nat)] ⟨I, ⟨sb, ssz, Ts, cs⟩ :: ⟨fb, fsz, Tf, cf⟩ :: (M ++ ML)⟩ fun _ S' => PlY sb ssz fb fsz Ts Tf cs K (plainN kecN K σ 92) S' := by
  refine plV (t := 1) h hfz hN' hpc (by decide) rfl rfl hs1 (by decide) (by decide) (by decide) rfl rfl fun J av hs hA => ?_
  exact valS (h.c.W.up hs) (yVal92 hsz hfz (h.c.up hs) (h.e.up hs) h.m (fun x hx => List.mem_append_left _ hx) hA (by rw [argsN_len]; decide))
theorem pl64 (h : YI I fb cs cf K σ M ML) (hsz : 179 ≤ ssz) (hfz : 60 ≤ fsz) (hN : NOk K σ) (hN' : NOk K (plainN kecN K σ 64)) (hpc : σ.pc < 2 ^ 20) (hs1 : 1 ≤ σ.s.length) :
    CallG Hvaf.prog 77 #[ptr sb 0, ptr fb 0, .int .u8 (64 : Nat)] ⟨I, ⟨sb, ssz, Ts, cs⟩ :: ⟨fb, fsz, Tf, cf⟩ :: (M ++ ML)⟩ fun _ S' => PlY sb ssz fb fsz Ts Tf cs K (plainN kecN K σ 64) S' := by
  refine plV (t := 1) h hfz hN' hpc (by decide) rfl rfl hs1 (by decide) (by decide) (by decide) rfl rfl fun J av hs hA => ?_
  exact valS (h.c.W.up hs) (yVal64 hsz hfz (h.c.up hs) (h.e.up hs) h.m (fun x hx => List.mem_append_left _ hx) hA (by rw [argsN_len]; decide) (NB_p (Nat.lt_of_le_of_lt (Nat.succ_le_of_lt (args_lt 1 0 hN.sb)) (by decide +kernel))))
theorem pl32 (h : YI I fb cs cf K σ M ML) (hsz : 179 ≤ ssz) (hfz : 60 ≤ fsz) (hN : NOk K σ) (hN' : NOk K (plainN kecN K σ 32)) (hpc : σ.pc < 2 ^ 20) (hs1 : 2 ≤ σ.s.length) (hn : argN σ.s 1 < 2 ^ 29) :
    CallG Hvaf.prog 77 #[ptr sb 0, ptr fb 0, .int .u8 (32 : Nat)] ⟨I, ⟨sb, ssz, Ts, cs⟩ :: ⟨fb, fsz, Tf, cf⟩ :: (M ++ ML)⟩ fun _ S' => PlY sb ssz fb fsz Ts Tf cs K (plainN kecN K σ 32) S' := by
  refine plV (t := 2) h hfz hN' hpc (by decide) rfl rfl hs1 (by decide) (by decide) (by decide) rfl rfl fun J av hs hA => ?_
  exact valS (h.c.W.up hs) (yVal32 hsz hfz (h.c.up hs) (h.e.up hs) h.m (fun x hx => List.mem_append_left _ hx) hA (by rw [argsN_len]; decide) kecOk hn)
theorem pl49 (h : YI I fb cs cf K σ M ML) (hsz : 179 ≤ ssz) (hfz : 60 ≤ fsz) (hN : NOk K σ) (hN' : NOk K (plainN kecN K σ 49)) (hpc : σ.pc < 2 ^ 20) (hs1 : 1 ≤ σ.s.length) :
    CallG Hvaf.prog 77 #[ptr sb 0, ptr fb 0, .int .u8 (49 : Nat)] ⟨I, ⟨sb, ssz, Ts, cs⟩ :: ⟨fb, fsz, Tf, cf⟩ :: (M ++ ML)⟩ fun _ S' => PlY sb ssz fb fsz Ts Tf cs K (plainN kecN K σ 49) S' := by
  refine plV (t := 1) h hfz hN' hpc (by decide) rfl rfl hs1 (by decide) (by decide) (by decide) rfl rfl fun J av hs hA => ?_
  exact valW (h.c.W.up hs) (adN_ok _) (yVal49 hsz hfz (h.c.up hs) (h.e.up hs) h.m (fun x hx => List.mem_append_left _ hx) hA (by rw [argsN_len]; decide))
theorem pl59 (h : YI I fb cs cf K σ M ML) (hsz : 179 ≤ ssz) (hfz : 60 ≤ fsz) (hN : NOk K σ) (hN' : NOk K (plainN kecN K σ 59)) (hpc : σ.pc < 2 ^ 20) (hs1 : 1 ≤ σ.s.length) :
    CallG Hvaf.prog 77 #[ptr sb 0, ptr fb 0, .int .u8 (59 : Nat)] ⟨I, ⟨sb, ssz, Ts, cs⟩ :: ⟨fb, fsz, Tf, cf⟩ :: (M ++ ML)⟩ fun _ S' => PlY sb ssz fb fsz Ts Tf cs K (plainN kecN K σ 59) S' := by
  refine plV (t := 1) h hfz hN' hpc (by decide) rfl rfl hs1 (by decide) (by decide) (by decide) rfl rfl fun J av hs hA => ?_
  exact valW (h.c.W.up hs) (adN_ok _) (yVal59 hsz hfz (h.c.up hs) (h.e.up hs) h.m (fun x hx => List.mem_append_left _ hx) hA (by rw [argsN_len]; decide) (Nat.lt_trans (hN.wk.cl _) (by decide)))
theorem pl63 (h : YI I fb cs cf K σ M ML) (hsz : 179 ≤ ssz) (hfz : 60 ≤ fsz) (hN : NOk K σ) (hN' : NOk K (plainN kecN K σ 63)) (hpc : σ.pc < 2 ^ 20) (hs1 : 1 ≤ σ.s.length) :
    CallG Hvaf.prog 77 #[ptr sb 0, ptr fb 0, .int .u8 (63 : Nat)] ⟨I, ⟨sb, ssz, Ts, cs⟩ :: ⟨fb, fsz, Tf, cf⟩ :: (M ++ ML)⟩ fun _ S' => PlY sb ssz fb fsz Ts Tf cs K (plainN kecN K σ 63) S' := by
  refine plV (t := 1) h hfz hN' hpc (by decide) rfl rfl hs1 (by decide) (by decide) (by decide) rfl rfl fun J av hs hA => ?_
  have e : valN kecN K σ.pc σ.gas σ.mem σ.w σ.s 63 = if emptyA (getA σ.w.al (adN (argN σ.s 0))) = true then 0 else bev (kecN (getA σ.w.al (adN (argN σ.s 0))).code) := rfl
  by_cases hem : emptyA (getA σ.w.al (adN (argN σ.s 0))) = true
  · rw [if_pos hem] at e
    rw [e]
    exact valW (h.c.W.up hs) (adN_ok _) (yVal63e hsz hfz (h.c.up hs) (h.e.up hs) h.m (fun x hx => List.mem_append_left _ hx) hA (by rw [argsN_len]; decide) kecOk (Nat.lt_trans (hN.wk.cl _) (by decide)) hem)
  · rw [if_neg hem] at e
    rw [e]
    exact valW (h.c.W.up hs) (adN_ok _) (yVal63n hsz hfz (h.c.up hs) (h.e.up hs) h.m (fun x hx => List.mem_append_left _ hx) hA (by rw [argsN_len]; decide) kecOk (Nat.lt_trans (hN.wk.cl _) (by decide)) (Bool.eq_false_iff.2 hem))
theorem pl84 (h : YI I fb cs cf K σ M ML) (hsz : 179 ≤ ssz) (hfz : 60 ≤ fsz) (hN : NOk K σ) (hN' : NOk K (plainN kecN K σ 84)) (hpc : σ.pc < 2 ^ 20) (hs1 : 1 ≤ σ.s.length) :
    CallG Hvaf.prog 77 #[ptr sb 0, ptr fb 0, .int .u8 (84 : Nat)] ⟨I, ⟨sb, ssz, Ts, cs⟩ :: ⟨fb, fsz, Tf, cf⟩ :: (M ++ ML)⟩ fun _ S' => PlY sb ssz fb fsz Ts Tf cs K (plainN kecN K σ 84) S' := by
  refine plV (t := 1) h hfz hN' hpc (by decide) rfl rfl hs1 (by decide) (by decide) (by decide) rfl rfl fun J av hs hA => ?_
  refine (yVal84 hsz hfz (h.c.up hs) (h.e.up hs) h.m (fun x hx => List.mem_append_left _ hx) hA (by rw [argsN_len]; decide)).mono ?_
  rintro r _ hs2 ⟨J2, w1, rfl, hm, hn⟩
  have hW2 := (h.c.W.up hs).up (show Sub J J2 from hs2)
  exact ⟨J2, _, rfl, hn, ⟨⟨hW2.acc, hW2.wrm, hW2.wok, hm, hW2.rfd, hW2.tmp, hW2.mde, hW2.mok, hW2.gne⟩, fun k hk => upd_ne (by omega)⟩, rfl⟩
theorem plPush (h : YI I fb cs cf K σ M ML) (hsz : 179 ≤ ssz) (hfz : 60 ≤ fsz) (hN : NOk K σ) (hN' : NOk K (plainN kecN K σ o)) (hpc : σ.pc < 2 ^ 20) (hs1 : 0 ≤ σ.s.length) (h1 : 95 ≤ o) (h2 : o ≤ 127) :
    CallG Hvaf.prog 77 #[ptr sb 0, ptr fb 0, .int .u8 (o : Nat)] ⟨I, ⟨sb, ssz, Ts, cs⟩ :: ⟨fb, fsz, Tf, cf⟩ :: (M ++ ML)⟩ fun _ S' => PlY sb ssz fb fsz Ts Tf cs K (plainN kecN K σ o) S' := by
  have har : arN o = (0, 1, true) := (by decide +kernel : ∀ o, o < 256 → o < 95 ∨ 127 < o ∨ arN o = (0, 1, true)) o (by omega) |>.resolve_left (by omega) |>.resolve_left (by omega)
  refine plV (t := 0) h hfz hN' hpc (by omega) (by rw [har]) (by rw [har]) hs1 (by omega) (by omega) (by omega) (memN_oth h1) (by rw [wrlN_oth h1 (by omega)]) fun J av hs hA => ?_
  rw [valN_push h1 h2, wrlN_oth h1 (by omega)]
  exact valS (h.c.W.up hs) (yValPush hsz hfz (h.c.up hs) (h.e.up hs) h.m (fun x hx => List.mem_append_left _ hx) hA (by rw [argsN_len]; decide) h1 h2 (Nat.lt_trans hpc (by decide)))
end
end Go.Proofs.YgvafwGreat
