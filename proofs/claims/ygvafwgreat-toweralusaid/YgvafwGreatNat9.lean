import Derived.Test.YgvafwGreatNat8
set_option maxRecDepth 100000
set_option linter.unusedVariables false
set_option linter.unusedSimpArgs false
namespace Go.Proofs.YgvafwGreat
open Go.HL Go.Proofs

/-- nat.clip of bytes that lie anywhere in a block from its beginning. -/
theorem clip_own {S : St} {x : Ent} {n : Nat} {ds : List Nat} (hx : Rd S x) (how : Ow x.c ds) (hd : ∀ d ∈ ds, d < 256) (hl : ds.length = n) (hs : n ≤ x.sz) (hn : n ≤ 400) (hv : val ds < NB) :
    CallG Hvaf.prog 99 #[sl x.b 0 n n] S fun r S' => S = S' ∧ ∀ J : Ent → Prop, J x → NatI J r (val ds) := by
  subst hl
  have hb : Byt S (sl x.b 0 ds.length ds.length) ds := Byt.own hx how hd (by omega) hs (Nat.le_refl _) (by omega)
  refine (clip_spec hb).mono ?_
  rintro r _ _ ⟨rfl, k, hk, rfl⟩
  refine ⟨rfl, fun J hJ => ?_⟩
  split
  · rename_i h0; subst h0
    have := hk.val
    simp [val] at this
    rw [← this]; exact NatI.zero _
  · have hle := hk.le
    refine ⟨ds.take k, ?_, hk.norm, hk.val, hk.norm.len (by rw [hk.val]; exact hv)⟩
    have hb2 : Byt ⟨J, []⟩ (sl x.b 0 ds.length ds.length) ds := Byt.own (.inl hJ) how hd (by omega) hs (Nat.le_refl _) (by omega)
    exact hb2.cut hle

/-- nat.Pow2 -/
theorem Pow2_spec {S : St} {k : Nat} (hk : k ≤ 600) :
    CallG Hvaf.prog 406 #[.int .u16 (k : Nat)] S fun r S' => S'.G = S.G ∧ NatI S'.I r (2 ^ k) := by
  have hp : (2 : Nat) ^ (k % 8) < 256 := Nat.lt_of_lt_of_le (Nat.pow_lt_pow_right (by omega) (show k % 8 < 8 by omega)) (by decide)
  have hp2 : 1 * (2 : Nat) ^ (k % 8) < 256 := by omega
  refine CallG.start (C := mkC Hvaf.prog) cok (args := [.int .u16 (k : Nat)]) Hvaf.func406 rfl Hvaf.ntmps406 (by simp) (by kernel_rfl) ?_
  repeat (first | refine SeqS.go cok ?_ | refine And.intro (by omega) ?_ | refine And.intro (by dsimp only; omega) ?_ | (refine NatS.keep ?_; first | with_reducible refine NatS.nat ?_) | (refine ValS.keep ?_; first | (with_reducible refine ValS.kI64 ?_; first | (with_reducible refine ValS.convI64 ?_ ?_ ; omega) | (with_reducible refine ValS.addI64_L ?_ ?_ ; omega)) | (with_reducible refine ValS.kU16 ?_; first | (with_reducible refine ValS.quoU16_L ?_ ?_ ; omega))))
  intro b
  repeat (first | refine SeqS.go cok ?_ | refine And.intro (by omega) ?_ | (refine NatS.keep ?_; first | with_reducible refine NatS.nat ?_) | (refine ValS.keep ?_; first | (with_reducible refine ValS.kU8 ?_; first | (with_reducible refine ValS.shlU8_M ?_ ?_ ?_ ; omega; omega)) | (with_reducible refine ValS.kU16 ?_; first | (with_reducible refine ValS.quoU16_L ?_ ?_ ; omega) | with_reducible refine ValS.remN_L ?_)))
  refine OpG.ow cok 0 rfl (ds := List.replicate (k / 8 + 1) 0) (Ow.zero _ fun i _ => rfl) rfl rfl rfl rfl rfl rfl rfl (by simp) (by show _ ≤ k / 8 + 1; simp) fun c how => ?_
  repeat (first | refine SeqS.go cok ?_)
  have hlen : ((List.replicate (k / 8 + 1) 0).set (k / 8) (1 * 2 ^ (k % 8))).length = k / 8 + 1 := by simp
  have hod : ∀ d ∈ (List.replicate (k / 8 + 1) 0).set (k / 8) (1 * 2 ^ (k % 8)), d < 256 := mem_set_lt (by simp) hp2
  have hval : val ((List.replicate (k / 8 + 1) 0).set (k / 8) (1 * 2 ^ (k % 8))) = 2 ^ k := by
    have := val_set_succ (List.replicate (k / 8 + 1) 0) (k / 8) (1 * 2 ^ (k % 8)) (by simp)
    rw [List.take_of_length_le (by simp)] at this
    rw [this, val_zeros _ (fun d hd => List.eq_of_mem_replicate (List.mem_of_mem_take hd)), show (256 : Nat) = 2 ^ 8 from rfl, ← Nat.pow_mul, Nat.one_mul, ← Nat.pow_add, Nat.zero_add]
    congr 1; omega
  have hnorm : Norm ((List.replicate (k / 8 + 1) 0).set (k / 8) (1 * 2 ^ (k % 8))) := by
    right
    rw [hlen, getD_set _ _ _ _ (by simp), if_pos (by omega)]
    have := Nat.two_pow_pos (k % 8); omega
  generalize (List.replicate (k / 8 + 1) 0).set (k / 8) (1 * 2 ^ (k % 8)) = ds at *
  refine Fin.frz [_] _ ⟨rfl, ds, ?_, hnorm, hval, by omega⟩
  have := Byt.own (S := ⟨fun x => S.I x ∨ x ∈ [(⟨b, k / 8 + 1, 5, c⟩ : Ent)], []⟩) (x := ⟨b, k / 8 + 1, 5, c⟩) (cap := k / 8 + 1) (.inl (.inr List.mem_cons_self)) how hod (by omega) (by rw [hlen]; exact Nat.le_refl _) (by omega) (by omega)
  rw [hlen] at this
  exact this
end Go.Proofs.YgvafwGreat
