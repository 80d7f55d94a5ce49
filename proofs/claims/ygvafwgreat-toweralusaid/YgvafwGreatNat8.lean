import Derived.Test.YgvafwGreatNat7
set_option maxRecDepth 100000
set_option linter.unusedVariables false
set_option linter.unusedSimpArgs false
namespace Go.Proofs.YgvafwGreat
open Go.HL Go.Proofs

theorem val_testBit (ds : List Nat) (hd : ∀ d ∈ ds, d < 256) (i : Nat) : (val ds).testBit i = (ds.getD (i / 8) 0).testBit (i % 8) := by
  induction ds generalizing i with
  | nil => simp [val]
  | cons d ds ih =>
    have h0 : d < 2 ^ 8 := by have := hd d (by simp); omega
    have e : val (d :: ds) = 2 ^ 8 * val ds + d := by simp only [val]; omega
    rw [e, Nat.testBit_two_pow_mul_add _ h0]
    split
    · rename_i h
      have h1 : i / 8 = 0 := by omega
      have h2 : i % 8 = i := by omega
      rw [h1, h2]; rfl
    · rename_i h
      rw [ih (fun x hx => hd x (by simp [hx]))]
      have h1 : i / 8 = (i - 8) / 8 + 1 := by omega
      have h2 : i % 8 = (i - 8) % 8 := by omega
      rw [h1, h2]; rfl
theorem bit_eq (d k : Nat) : ((((d / 2 ^ k) &&& 1 : Nat) : Int) == 1) = d.testBit k := by
  rw [Nat.testBit_eq_decide_div_mod_eq]
  have : (d / 2 ^ k) &&& 1 = d / 2 ^ k % 2 := Nat.and_one_is_mod _
  rw [this]
  have h2 : d / 2 ^ k % 2 = 0 ∨ d / 2 ^ k % 2 = 1 := by omega
  rcases h2 with h | h <;> rw [h] <;> rfl

/-- nat.Bit -/
theorem Bit_byt {S : St} {v : Value} {ds : List Nat} {i : Nat} (h : Byt S v ds) (hi : i < 65536) :
    CallG Hvaf.prog 340 #[v, .int .u16 (i : Nat)] S fun r S' => S = S' ∧ r = .bool ((val ds).testBit i) := by
  obtain ⟨a, cap, rfl, hlc, hc, hb⟩ := h.form
  have hl := hb.2.1
  rw [val_testBit ds hb.1]
  refine CallG.start (C := mkC Hvaf.prog) cok (args := [.slice a ds.length cap, .int .u16 (i : Nat)]) Hvaf.func340 rfl Hvaf.ntmps340 (by simp) (by kernel_rfl) ?_
  repeat (first | refine SeqS.go cok ?_ | refine And.intro (by omega) ?_ | (refine ValS.keep ?_; first | (with_reducible refine ValS.kI64 ?_; first | (with_reducible refine ValS.convI64 ?_ ?_ ; omega)) | (with_reducible refine ValS.kU16 ?_; first | (with_reducible refine ValS.quoU16_L ?_ ?_ ; omega))))
  refine GuardS.split rfl (fun hc => ?_) (fun hc => ?_)
  · have hc : i / 8 < ds.length := by
      have := of_decide_eq_true hc; omega
    obtain ⟨x, o, rfl, hx, hbs⟩ := hb.some (by omega)
    have hd1 := getD_lt hb.1 (i / 8)
    have hd2 : ds.getD (i / 8) 0 / 2 ^ (i % 8) < 256 := Nat.lt_of_le_of_lt (Nat.div_le_self _ _) hd1
    repeat (first | refine SeqS.go cok ?_ | refine GuardS.yes rfl ?_ | refine And.intro (by omega) ?_ | (refine NatS.keep ?_; first | with_reducible refine NatS.nat ?_) | (refine ValS.keep ?_; first | (with_reducible refine ValS.kU8 ?_; first | (with_reducible refine ValS.andU8_L ?_ ?_ ?_ ; omega; omega) | (with_reducible refine ValS.shrU8 ?_ ?_ ; omega)) | (with_reducible refine ValS.kU16 ?_; first | with_reducible refine ValS.remN_L ?_)) | (refine QuG.keep ?_; first | refine QuG.bs cok (by assumption) (by assumption) rfl rfl rfl rfl (by omega) ?_))
    refine Fin.same ⟨rfl, ?_⟩
    rw [← bit_eq]; rfl
  · have hc : ds.length ≤ i / 8 := by
      have := of_decide_eq_false hc; omega
    repeat (first | refine SeqS.go cok ?_ | refine GuardS.no rfl ?_)
    refine Fin.same ⟨rfl, ?_⟩
    rw [getD_ge hc, Nat.zero_testBit]; rfl
end Go.Proofs.YgvafwGreat
