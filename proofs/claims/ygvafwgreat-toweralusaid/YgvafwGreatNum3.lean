import Derived.Test.YgvafwGreatNum2
set_option maxRecDepth 100000
set_option maxHeartbeats 4000000
set_option linter.unusedVariables false
set_option linter.unusedSimpArgs false
-- v2
namespace Go.Proofs.YgvafwGreat
open Go.HL Go.Proofs

theorem _root_.Go.HL.ValS.toN {k : IntKind} {x : Int} {q : Value → Prop} (n : Nat) (h : x = (n : Int)) (hq : q (.int k (n : Nat))) : ValS (.int k x) q := by subst h; exact ⟨hq⟩

/-- One digit of the quotient. -/
structure Dig (v h l q r : Nat) : Prop where
  sum : q * (v / 4294967296) + r = h
  ge : (h * 4294967296 + l) / v ≤ q
  le : q ≤ 4294967297
  lt : r < 4294967296
theorem Dig.first {v h l : Nat} (hv : 9223372036854775808 ≤ v) (hv2 : v < 18446744073709551616) (hh : h < v) (hl : l < 4294967296) : Dig v h l (h / (v / 4294967296)) (h - h / (v / 4294967296) * (v / 4294967296)) := by
  have hd : 0 < v / 4294967296 := by omega
  have h1 := Nat.div_mul_le_self h (v / 4294967296)
  have h2 := Nat.div_add_mod h (v / 4294967296)
  have h3 := Nat.mod_lt h hd
  rw [Nat.mul_comm] at h2
  generalize hq : h / (v / 4294967296) = q at *
  refine ⟨by omega, ?_, ?_, by omega⟩
  · rw [← Nat.lt_succ_iff, Nat.div_lt_iff_lt_mul (by omega)]
    have e1 : (q + 1) * (v / 4294967296) ≥ h + 1 := by rw [Nat.add_mul]; omega
    have e2 : (q + 1) * (4294967296 * (v / 4294967296)) ≤ (q + 1) * v := Nat.mul_le_mul_left _ (by omega)
    have e3 : (q + 1) * (4294967296 * (v / 4294967296)) = 4294967296 * ((q + 1) * (v / 4294967296)) := by rw [Nat.mul_left_comm]
    simp only [Nat.succ_eq_add_one]
    omega
  · rcases Nat.lt_or_ge 4294967297 q with hc | hc
    · exfalso
      have : 4294967298 * (v / 4294967296) ≤ q * (v / 4294967296) := Nat.mul_le_mul_right _ hc
      omega
    · exact hc
theorem Dig.down {v h l q r : Nat} (hv : 9223372036854775808 ≤ v) (hh : h < v) (hl : l < 4294967296) (d : Dig v h l q r) (hc : 4294967296 ≤ q ∨ 4294967296 * r + l < q * (v % 4294967296)) : 1 ≤ q ∧ (h * 4294967296 + l) / v ≤ q - 1 ∧ (q - 1) * (v / 4294967296) + (r + v / 4294967296) = h := by
  have hp : (h * 4294967296 + l) / v < q := by
    rw [Nat.div_lt_iff_lt_mul (by omega)]
    have e0 : q * v = q * (4294967296 * (v / 4294967296) + v % 4294967296) := by rw [Nat.div_add_mod]
    rw [Nat.mul_add, Nat.mul_left_comm] at e0
    have s := d.sum
    rcases hc with hc | hc
    · have : 4294967296 * v ≤ q * v := Nat.mul_le_mul_right _ hc
      omega
    · omega
  have hq1 : 1 ≤ q := Nat.lt_of_le_of_lt (Nat.zero_le _) hp
  refine ⟨hq1, Nat.le_sub_one_of_lt hp, ?_⟩
  have s := d.sum
  obtain ⟨q', rfl⟩ : ∃ q', q = q' + 1 := ⟨q - 1, by omega⟩
  rw [Nat.add_mul] at s
  simp only [Nat.add_sub_cancel]
  omega
theorem Dig.done {v h l q r : Nat} (hv : 9223372036854775808 ≤ v) (hv2 : v < 18446744073709551616) (hs : q * (v / 4294967296) + r = h) (hge : (h * 4294967296 + l) / v ≤ q) (hc : q * (v % 4294967296) ≤ 4294967296 * r + l) : q = (h * 4294967296 + l) / v := by
  refine Nat.le_antisymm ?_ hge
  rw [Nat.le_div_iff_mul_le (by omega)]
  have e0 : q * v = q * (4294967296 * (v / 4294967296) + v % 4294967296) := by rw [Nat.div_add_mod]
  rw [Nat.mul_add, Nat.mul_left_comm] at e0
  omega
theorem Dig.brk {v q r l : Nat} (hq : q ≤ 4294967296) (hr : 4294967296 ≤ r) : q * (v % 4294967296) ≤ 4294967296 * r + l := by
  have h1 : q * (v % 4294967296) ≤ 4294967296 * (v % 4294967296) := Nat.mul_le_mul_right _ hq
  omega

theorem div64_aux (x w L z : Nat) (h2 : 18446744073709551616 * w + L = z) : x * 18446744073709551616 + w * 18446744073709551616 + L = x * 18446744073709551616 + z := by omega
theorem div64_sum {hi lo s U L : Nat} (hs : s ≤ 63) (hU : U = hi * 2 ^ s + lo / 2 ^ (64 - s)) (hL : L = lo * 2 ^ s % 18446744073709551616) : U * 18446744073709551616 + L = (hi * 18446744073709551616 + lo) * 2 ^ s := by
  have e : (18446744073709551616 : Nat) = 2 ^ (64 - s) * 2 ^ s := by rw [← Nat.pow_add, show 64 - s + s = 64 by omega]
  have h1 : lo * 2 ^ s / 18446744073709551616 = lo / 2 ^ (64 - s) := by rw [e, Nat.mul_div_mul_right _ _ (Nat.two_pow_pos s)]
  have h2 := Nat.div_add_mod (lo * 2 ^ s) 18446744073709551616
  rw [h1, ← hL] at h2
  rw [hU, Nat.add_mul, Nat.add_mul, Nat.mul_right_comm hi _ (2 ^ s)]
  exact div64_aux _ _ _ _ h2
theorem div64_fin0 {N y s V U L : Nat} (hV : V = y * 2 ^ s) (e : U * 18446744073709551616 + L = N * 2 ^ s) (Q R Q0 R0 : Nat)
    (h1 : Q * V + R = U * 4294967296 + L / 4294967296) (h2 : Q0 * V + R0 = R * 4294967296 + L % 4294967296) (h3 : R0 < V) :
    Q * 4294967296 + Q0 = N / y ∧ R0 / 2 ^ s = N % y := by
  have hp := Nat.two_pow_pos s
  have e2 : N * 2 ^ s = (Q * 4294967296 + Q0) * V + R0 := by
    rw [← e, Nat.add_mul, Nat.mul_right_comm]; omega
  have hV0 : 0 < V := by omega
  have e3 : N * 2 ^ s / V = Q * 4294967296 + Q0 := by
    rw [e2, Nat.mul_comm, Nat.mul_add_div hV0, Nat.div_eq_of_lt h3, Nat.add_zero]
  have e4 : N * 2 ^ s % V = R0 := by
    rw [e2, Nat.mul_comm, Nat.mul_add_mod, Nat.mod_eq_of_lt h3]
  rw [hV, Nat.mul_div_mul_right _ _ hp] at e3
  rw [hV, Nat.mul_mod_mul_right] at e4
  exact ⟨e3.symm, by rw [← e4, Nat.mul_div_cancel _ hp]⟩
theorem div64_fin {hi lo y s V U L : Nat} (hs : s ≤ 63) (hV : V = y * 2 ^ s) (hU : U = hi * 2 ^ s + lo / 2 ^ (64 - s)) (hL : L = lo * 2 ^ s % 18446744073709551616) (Q R Q0 R0 : Nat)
    (h1 : Q * V + R = U * 4294967296 + L / 4294967296) (h2 : Q0 * V + R0 = R * 4294967296 + L % 4294967296) (h3 : R0 < V) :
    Q * 4294967296 + Q0 = (hi * 18446744073709551616 + lo) / y ∧ R0 / 2 ^ s = (hi * 18446744073709551616 + lo) % y :=
  div64_fin0 hV (div64_sum hs hU hL) Q R Q0 R0 h1 h2 h3

/-- LeadingZeros64 as a normalizing shift. -/
theorem LZ64_norm {S : St} {y : Nat} (hy : y < 18446744073709551616) (h0 : y ≠ 0) :
    CallG Hvaf.prog 427 #[.int .u64 (y : Nat)] S fun r S' => S = S' ∧ ∃ s : Nat, r = .int .i64 (s : Nat) ∧ s ≤ 63 ∧ y * 2 ^ s < 18446744073709551616 ∧ 9223372036854775808 ≤ y * 2 ^ s := by
  refine (LZ64_bits hy).mono ?_
  rintro r _ _ ⟨rfl, rfl⟩
  refine ⟨rfl, _, rfl, ?_⟩
  have h1 := blen_lt y
  have h2 := blen_ge h0
  have h3 := blen_le (n := 64) hy
  have h4 : blen y ≠ 0 := by unfold blen; rw [if_neg h0]; omega
  have e1 : 2 ^ blen y * 2 ^ (64 - blen y) = 2 ^ 64 := by rw [← Nat.pow_add]; congr 1; omega
  have e2 : 2 ^ (blen y - 1) * 2 ^ (64 - blen y) = 2 ^ 63 := by rw [← Nat.pow_add]; congr 1; omega
  have p := Nat.two_pow_pos (64 - blen y)
  have f1 : y * 2 ^ (64 - blen y) < 2 ^ blen y * 2 ^ (64 - blen y) := Nat.mul_lt_mul_of_pos_right h1 p
  have f2 : 2 ^ (blen y - 1) * 2 ^ (64 - blen y) ≤ y * 2 ^ (64 - blen y) := Nat.mul_le_mul_right _ h2
  omega

/-- math/bits.Div64 -/
theorem Div64_bits {S : St} {hi lo y : Nat} (hh : hi < y) (hl : lo < 18446744073709551616) (hy : y < 18446744073709551616) :
    CallG Hvaf.prog 417 #[.int .u64 (hi : Nat), .int .u64 (lo : Nat), .int .u64 (y : Nat)] S fun r S' => S = S' ∧ r = .tuple #[.int .u64 ((hi * 18446744073709551616 + lo) / y : Nat), .int .u64 ((hi * 18446744073709551616 + lo) % y : Nat)] := by
  refine CallG.start (C := mkC Hvaf.prog) cok (args := [.int .u64 (hi : Nat), .int .u64 (lo : Nat), .int .u64 (y : Nat)]) Hvaf.func417 rfl Hvaf.ntmps417 (by simp) (by kernel_rfl) ?_
  repeat (first | refine SeqS.go cok ?_ | (refine CondS.keep ?_; first | refine CondS.d0 rfl (by omega) ?_))
  (first | refine CondS.dec rfl (fun hz => ?_) (fun hz => ?_))
  · repeat (first | refine SeqS.go cok ?_ | refine And.intro (by omega) ?_ | (refine ValS.keep ?_; first | (with_reducible refine ValS.kU64 ?_; first | (with_reducible refine ValS.quoU64 ?_ ?_ ; omega) | with_reducible refine ValS.remN ?_)) | refine W.drawI 6 cok [0, 0, 3, 0, 0, 24, 7, 127] [0, 1, 2, 3, 4, 5, 6, 7] [] (by kernel_rfl) (by kernel_rfl) ?_)
    refine Fin.same ⟨rfl, ?_⟩
    have : hi = 0 := by omega
    subst this
    rw [Nat.zero_mul, Nat.zero_add]; rfl
  repeat (first | refine SeqS.go cok ?_)
  refine (LZ64_norm hy (by omega)).mono ?_
  rintro r _ _ ⟨rfl, s, rfl, hs, hv, hv2⟩
  have hp := Nat.two_pow_pos s
  have hu1 : hi * 2 ^ s + 2 ^ s ≤ y * 2 ^ s := by rw [← Nat.succ_mul]; exact Nat.mul_le_mul_right _ hh
  have hu2 : lo / 2 ^ (64 - s) < 2 ^ s := by
    rw [Nat.div_lt_iff_lt_mul (Nat.two_pow_pos _), ← Nat.pow_add, show s + (64 - s) = 64 by omega]; exact hl
  obtain ⟨V, hV⟩ : ∃ V, V = y * 2 ^ s := ⟨_, rfl⟩
  obtain ⟨U, hU⟩ : ∃ U, U = hi * 2 ^ s + lo / 2 ^ (64 - s) := ⟨_, rfl⟩
  obtain ⟨L, hL⟩ : ∃ L, L = lo * 2 ^ s % 18446744073709551616 := ⟨_, rfl⟩
  have hUV : U < V := by rw [hU, hV]; omega
  rw [← hV] at hv hv2
  have hLb : L < 18446744073709551616 := by omega
  have hUq := Nat.div_mul_le_self U (V / 2 ^ 32)
  repeat (first | refine SeqS.go cok ?_ | refine And.intro (by omega) ?_ | (refine ValS.keep ?_; first | (with_reducible refine ValS.kU64 ?_; first | (with_reducible refine ValS.convU64 ?_ ?_ ; omega))))
  refine ValS.toN V (by rw [ishl_nat (k := .u64) y s (by show s ≤ 64; omega), wrapU64, ← hV]; omega) ?_
  repeat (first | refine SeqS.go cok ?_ | refine And.intro (by omega) ?_ | (refine ValS.keep ?_; first | (with_reducible refine ValS.kU64 ?_; first | (with_reducible refine ValS.andMU64 ?_ ?_; omega) | (with_reducible refine ValS.shrU64_L ?_ ?_ ; omega))))
  refine ValS.shlU64 (by omega) (by omega) ?_
  repeat (first | refine And.intro (by omega) ?_ | (refine ValS.keep ?_; first | (with_reducible refine ValS.kU64 ?_; first | (with_reducible refine ValS.subU64_M ?_ ?_ ?_ ; omega; omega) | (with_reducible refine ValS.shrU64 ?_ ?_ ; omega))))
  refine ValS.toN U (by rw [ior_nat (k := .u64) _ _ (by show _ < 2 ^ 64; omega) (by show _ < 2 ^ 64; omega) rfl, shift_or _ hu2, hU]) ?_
  repeat (first | refine SeqS.go cok ?_ | refine And.intro (by omega) ?_)
  refine ValS.toN L (by rw [ishl_nat (k := .u64) lo s (by show s ≤ 64; omega), wrapU64, hL]; omega) ?_
  repeat (first | refine SeqS.go cok ?_ | refine And.intro (by omega) ?_ | (refine ValS.keep ?_; first | (with_reducible refine ValS.kU64 ?_; first | (with_reducible refine ValS.andMU64 ?_ ?_; omega) | (with_reducible refine ValS.subU64 ?_ ?_ ?_ ; omega; omega) | (with_reducible refine ValS.shrU64_L ?_ ?_ ; omega) | (with_reducible refine ValS.mulU64 ?_ ?_ ; omega) | (with_reducible refine ValS.quoU64 ?_ ?_ ; omega))))
  have hd1 := Dig.first (l := L / 4294967296) hv2 hv hUV (by omega)
  have hfin := div64_fin hs hV hU hL
  clear hp hu1 hu2 hUq hU hV hL hz hh hl hy
  refine W.loopE cok (by kernel_rfl) 0 (fun (p : Nat × Nat) e' S' => S = S' ∧ Dig V U (L / 4294967296) p.1 p.2 ∧ slots [(2, .int .u64 (V : Nat)), (8, .int .u64 (s : Nat)), (9, .int .u64 (V / 4294967296 : Nat)), (10, .int .u64 (V % 4294967296 : Nat)), (11, .int .u64 (U : Nat)), (13, .int .u64 (L / 4294967296 : Nat)), (14, .int .u64 (L % 4294967296 : Nat)), (15, .int .u64 (p.1 : Nat)), (16, .int .u64 (p.2 : Nat))] e') (fun p => p.1) (_, _) ⟨rfl, hd1, rfl, rfl, rfl, rfl, rfl, rfl, rfl, rfl, rfl, trivial⟩
    (fun e' S' => S = S' ∧ slots [(2, .int .u64 (V : Nat)), (8, .int .u64 (s : Nat)), (9, .int .u64 (V / 4294967296 : Nat)), (10, .int .u64 (V % 4294967296 : Nat)), (11, .int .u64 (U : Nat)), (13, .int .u64 (L / 4294967296 : Nat)), (14, .int .u64 (L % 4294967296 : Nat)), (15, .int .u64 ((U * 4294967296 + L / 4294967296) / V : Nat))] e') ?_ ?_
  · rintro e' _ _ ⟨rfl, hsl⟩
    refine SeqS.slots cok _ hsl fun e => ?_
    obtain ⟨Q, hQ⟩ : ∃ Q, Q = (U * 4294967296 + L / 4294967296) / V := ⟨_, rfl⟩
    rw [← hQ]
    obtain ⟨R, hR⟩ : ∃ R, R = (U * 4294967296 + L / 4294967296) % V := ⟨_, rfl⟩
    have hQR : Q * V + R = U * 4294967296 + L / 4294967296 := by rw [hQ, hR, Nat.mul_comm]; exact Nat.div_add_mod _ _
    have hRV : R < V := by rw [hR]; exact Nat.mod_lt _ (by omega)
    clear hQ hR hd1
    repeat (first | (refine ValS.keep ?_; first | (with_reducible refine ValS.kU64 ?_; first | (with_reducible refine ValS.addU64 ?_ ?_ ; omega) | (with_reducible refine ValS.mulWU64_L ?_ ) | (with_reducible refine ValS.mulWU64 ?_ ))))
    refine ValS.toN R (by rw [wrapU64]; omega) ?_
    have hRq := Nat.div_mul_le_self R (V / 4294967296)
    repeat (first | refine SeqS.go cok ?_ | refine And.intro (by omega) ?_ | (refine ValS.keep ?_; first | (with_reducible refine ValS.kU64 ?_; first | (with_reducible refine ValS.subU64 ?_ ?_ ?_ ; omega; omega) | (with_reducible refine ValS.mulU64 ?_ ?_ ; omega) | (with_reducible refine ValS.quoU64 ?_ ?_ ; omega))))
    have hd1 := Dig.first (l := L % 4294967296) hv2 hv hRV (by omega)
    refine W.loopE cok (by kernel_rfl) 2 (fun (p : Nat × Nat) e' S' => S = S' ∧ Dig V R (L % 4294967296) p.1 p.2 ∧ slots [(2, .int .u64 (V : Nat)), (8, .int .u64 (s : Nat)), (9, .int .u64 (V / 4294967296 : Nat)), (10, .int .u64 (V % 4294967296 : Nat)), (14, .int .u64 (L % 4294967296 : Nat)), (15, .int .u64 (Q : Nat)), (17, .int .u64 (R : Nat)), (18, .int .u64 (p.1 : Nat)), (16, .int .u64 (p.2 : Nat))] e') (fun p => p.1) (_, _) ⟨rfl, hd1, rfl, rfl, rfl, rfl, rfl, rfl, rfl, rfl, rfl, trivial⟩
      (fun e' S' => S = S' ∧ slots [(2, .int .u64 (V : Nat)), (8, .int .u64 (s : Nat)), (14, .int .u64 (L % 4294967296 : Nat)), (15, .int .u64 (Q : Nat)), (17, .int .u64 (R : Nat)), (18, .int .u64 ((R * 4294967296 + L % 4294967296) / V : Nat))] e') ?_ ?_
    · rintro e' _ _ ⟨rfl, hsl⟩
      refine SeqS.slots cok _ hsl fun e => ?_
      obtain ⟨Q0, hQ⟩ : ∃ Q, Q = (R * 4294967296 + L % 4294967296) / V := ⟨_, rfl⟩
      rw [← hQ]
      obtain ⟨R0, hR⟩ : ∃ R0, R0 = (R * 4294967296 + L % 4294967296) % V := ⟨_, rfl⟩
      have hQR0 : Q0 * V + R0 = R * 4294967296 + L % 4294967296 := by rw [hQ, hR, Nat.mul_comm]; exact Nat.div_add_mod _ _
      have hRV0 : R0 < V := by rw [hR]; exact Nat.mod_lt _ (by omega)
      obtain ⟨f1, f2⟩ := hfin Q R Q0 R0 hQR hQR0 hRV0
      have hQb : Q < 4294967296 := Nat.lt_of_mul_lt_mul_right (a := V) (by omega)
      have hQb0 : Q0 < 4294967296 := Nat.lt_of_mul_lt_mul_right (a := V) (by omega)
      clear hQ hR hd1 hfin hQR hRq
      repeat (first | (refine ValS.keep ?_; first | (with_reducible refine ValS.kU64 ?_; first | (with_reducible refine ValS.addU64 ?_ ?_ ; omega) | (with_reducible refine ValS.mulU64_L ?_ ?_ ; omega) | (with_reducible refine ValS.mulWU64_L ?_ ) | (with_reducible refine ValS.mulWU64 ?_ ))))
      refine ValS.toN R0 (by rw [wrapU64]; omega) ?_
      repeat (first | refine SeqS.go cok ?_ | refine And.intro (by omega) ?_ | (refine ValS.keep ?_; first | (with_reducible refine ValS.kU64 ?_; first | (with_reducible refine ValS.shrU64 ?_ ?_ ; omega))))
      exact Fin.same ⟨rfl, by rw [← f1, ← f2]; rfl⟩
    · rintro ⟨q, r⟩ e' _ _ ⟨rfl, d, hsl⟩
      dsimp only at hsl d
      refine W.slots _ hsl fun e => ?_
      have d1 := d.lt
      have d2 := d.le
      have d3 := d.sum
      have dm : q < 4294967296 → q * (V % 4294967296) ≤ 4294967295 * 4294967295 := fun h => Nat.mul_le_mul (by omega) (by omega)
      rcases Nat.lt_or_ge q 4294967296 with hq | hq
      · have dm := dm hq
        repeat (first | refine SeqS.go cok ?_ | refine GuardS.yes rfl ?_ | (refine ValS.keep ?_; first | (with_reducible refine ValS.kU64 ?_; first | (with_reducible refine ValS.addU64 ?_ ?_ ; omega) | (with_reducible refine ValS.mulU64 ?_ ?_ ; omega) | (with_reducible refine ValS.mulU64_M ?_ ?_ ; omega))) | (refine GuardS.keep ?_; first | refine GuardS.F0 rfl (by omega) ?_))
        (first | refine CondS.dec rfl (fun hc => ?_) (fun hc => ?_))
        · obtain ⟨g1, g2, g3⟩ := d.down hv2 hRV (by omega) (.inr (by omega))
          repeat (first | refine SeqS.go cok ?_ | (refine ValS.keep ?_; first | (with_reducible refine ValS.kU64 ?_; first | (with_reducible refine ValS.addU64 ?_ ?_ ; omega) | (with_reducible refine ValS.subU64_L ?_ ?_ ?_ ; omega; omega))))
          (first | refine CondS.dec rfl (fun hb => ?_) (fun hb => ?_))
          · skip
            refine ⟨rfl, rfl, rfl, rfl, rfl, rfl, ?_, trivial⟩
            have hf : q - 1 = (R * 4294967296 + L % 4294967296) / V := Dig.done (q := q - 1) (r := r + V / 4294967296) hv2 hv g3 g2 (Dig.brk (by omega) (by omega))
            rw [← hf]; rfl
          · skip
            exact ⟨(q - 1, r + V / 4294967296), ⟨rfl, ⟨g3, g2, by dsimp only; omega, by dsimp only; omega⟩, rfl, rfl, rfl, rfl, rfl, rfl, rfl, rfl, rfl, trivial⟩, by show q - 1 < q; omega⟩
        · skip
          refine ⟨rfl, rfl, rfl, rfl, rfl, rfl, ?_, trivial⟩
          have hf : q = (R * 4294967296 + L % 4294967296) / V := Dig.done (q := q) (r := r) hv2 hv d.sum d.ge (by omega)
          rw [← hf]; rfl
      · repeat (first | refine SeqS.go cok ?_ | refine GuardS.no rfl ?_ | refine CondS.t rfl ?_ | (refine ValS.keep ?_; first | (with_reducible refine ValS.kU64 ?_; first | (with_reducible refine ValS.addU64 ?_ ?_ ; omega) | (with_reducible refine ValS.subU64_L ?_ ?_ ?_ ; omega; omega))) | (refine GuardS.keep ?_; first | refine GuardS.F1 rfl (by omega) ?_))
        obtain ⟨g1, g2, g3⟩ := d.down hv2 hRV (by omega) (.inl hq)
        skip
        skip
        (first | refine CondS.dec rfl (fun hb => ?_) (fun hb => ?_))
        · skip
          refine ⟨rfl, rfl, rfl, rfl, rfl, rfl, ?_, trivial⟩
          have hf : q - 1 = (R * 4294967296 + L % 4294967296) / V := Dig.done (q := q - 1) (r := r + V / 4294967296) hv2 hv g3 g2 (Dig.brk (by omega) (by omega))
          rw [← hf]; rfl
        · skip
          exact ⟨(q - 1, r + V / 4294967296), ⟨rfl, ⟨g3, g2, by dsimp only; omega, by dsimp only; omega⟩, rfl, rfl, rfl, rfl, rfl, rfl, rfl, rfl, rfl, trivial⟩, by show q - 1 < q; omega⟩
  · rintro ⟨q, r⟩ e' _ _ ⟨rfl, d, hsl⟩
    dsimp only at hsl d
    refine W.slots _ hsl fun e => ?_
    have d1 := d.lt
    have d2 := d.le
    have d3 := d.sum
    have dm : q < 4294967296 → q * (V % 4294967296) ≤ 4294967295 * 4294967295 := fun h => Nat.mul_le_mul (by omega) (by omega)
    rcases Nat.lt_or_ge q 4294967296 with hq | hq
    · have dm := dm hq
      repeat (first | refine SeqS.go cok ?_ | refine GuardS.yes rfl ?_ | (refine ValS.keep ?_; first | (with_reducible refine ValS.kU64 ?_; first | (with_reducible refine ValS.addU64 ?_ ?_ ; omega) | (with_reducible refine ValS.mulU64 ?_ ?_ ; omega) | (with_reducible refine ValS.mulU64_M ?_ ?_ ; omega))) | (refine GuardS.keep ?_; first | refine GuardS.F0 rfl (by omega) ?_))
      (first | refine CondS.dec rfl (fun hc => ?_) (fun hc => ?_))
      · obtain ⟨g1, g2, g3⟩ := d.down hv2 hUV (by omega) (.inr (by omega))
        repeat (first | refine SeqS.go cok ?_ | (refine ValS.keep ?_; first | (with_reducible refine ValS.kU64 ?_; first | (with_reducible refine ValS.addU64 ?_ ?_ ; omega) | (with_reducible refine ValS.subU64_L ?_ ?_ ?_ ; omega; omega))))
        (first | refine CondS.dec rfl (fun hb => ?_) (fun hb => ?_))
        · skip
          refine ⟨rfl, rfl, rfl, rfl, rfl, rfl, rfl, rfl, ?_, trivial⟩
          have hf : q - 1 = (U * 4294967296 + L / 4294967296) / V := Dig.done (q := q - 1) (r := r + V / 4294967296) hv2 hv g3 g2 (Dig.brk (by omega) (by omega))
          rw [← hf]; rfl
        · skip
          exact ⟨(q - 1, r + V / 4294967296), ⟨rfl, ⟨g3, g2, by dsimp only; omega, by dsimp only; omega⟩, rfl, rfl, rfl, rfl, rfl, rfl, rfl, rfl, rfl, trivial⟩, by show q - 1 < q; omega⟩
      · skip
        refine ⟨rfl, rfl, rfl, rfl, rfl, rfl, rfl, rfl, ?_, trivial⟩
        have hf : q = (U * 4294967296 + L / 4294967296) / V := Dig.done (q := q) (r := r) hv2 hv d.sum d.ge (by omega)
        rw [← hf]; rfl
    · repeat (first | refine SeqS.go cok ?_ | refine GuardS.no rfl ?_ | refine CondS.t rfl ?_ | (refine ValS.keep ?_; first | (with_reducible refine ValS.kU64 ?_; first | (with_reducible refine ValS.addU64 ?_ ?_ ; omega) | (with_reducible refine ValS.subU64_L ?_ ?_ ?_ ; omega; omega))) | (refine GuardS.keep ?_; first | refine GuardS.F1 rfl (by omega) ?_))
      obtain ⟨g1, g2, g3⟩ := d.down hv2 hUV (by omega) (.inl hq)
      skip
      skip
      (first | refine CondS.dec rfl (fun hb => ?_) (fun hb => ?_))
      · skip
        refine ⟨rfl, rfl, rfl, rfl, rfl, rfl, rfl, rfl, ?_, trivial⟩
        have hf : q - 1 = (U * 4294967296 + L / 4294967296) / V := Dig.done (q := q - 1) (r := r + V / 4294967296) hv2 hv g3 g2 (Dig.brk (by omega) (by omega))
        rw [← hf]; rfl
      · skip
        exact ⟨(q - 1, r + V / 4294967296), ⟨rfl, ⟨g3, g2, by dsimp only; omega, by dsimp only; omega⟩, rfl, rfl, rfl, rfl, rfl, rfl, rfl, rfl, rfl, trivial⟩, by show q - 1 < q; omega⟩

/-- num.Div64 -/
theorem NDiv64_spec {S : St} {hi lo y : Nat} (hh : hi < 18446744073709551616) (hl : lo < 18446744073709551616) (hy : y < 18446744073709551616) :
    CallG Hvaf.prog 380 #[.int .u64 (hi : Nat), .int .u64 (lo : Nat), .int .u64 (y : Nat)] S fun r S' => S = S' ∧ r = if hi < y then .tuple #[.int .u64 ((hi * 18446744073709551616 + lo) / y : Nat), .int .u64 ((hi * 18446744073709551616 + lo) % y : Nat), .bool true] else .tuple #[.int .u64 0, .int .u64 0, .bool false] := by
  refine CallG.start (C := mkC Hvaf.prog) cok (args := [.int .u64 (hi : Nat), .int .u64 (lo : Nat), .int .u64 (y : Nat)]) Hvaf.func380 rfl Hvaf.ntmps380 (by simp) (by kernel_rfl) ?_
  by_cases hc : hi < y
  · rw [if_pos hc]
    repeat (first | refine SeqS.go cok ?_ | refine GuardS.yes rfl ?_ | (refine GuardS.keep ?_; first | refine GuardS.F0 rfl (by omega) ?_) | (refine CondS.keep ?_; first | refine CondS.d0 rfl (by omega) ?_))
    refine (Div64_bits hc hl hy).mono ?_
    rintro r _ _ ⟨rfl, rfl⟩
    repeat (first | refine SeqS.go cok ?_)
    exact Fin.same ⟨rfl, rfl⟩
  · rw [if_neg hc]
    repeat (first | refine SeqS.go cok ?_)
    (first | refine GuardS.F rfl (fun h1 => ?_) (fun h1 => ?_))
    · repeat (first | refine SeqS.go cok ?_ | refine GuardS.no rfl ?_ | refine CondS.t rfl ?_)
      exact Fin.same ⟨rfl, rfl⟩
    · repeat (first | refine SeqS.go cok ?_ | refine GuardS.yes rfl ?_ | (refine CondS.keep ?_; first | refine CondS.d1 rfl (by omega) ?_))
      exact Fin.same ⟨rfl, rfl⟩
end Go.Proofs.YgvafwGreat
