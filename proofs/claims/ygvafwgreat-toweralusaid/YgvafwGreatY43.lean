import Derived.Test.YgvafwGreatY42
set_option exponentiation.threshold 1000
set_option maxRecDepth 100000
set_option maxHeartbeats 4000000
set_option linter.unusedVariables false
set_option linter.unusedSimpArgs false
-- v2
-- v4
-- v5
-- v6
-- v7
namespace Go.Proofs.YgvafwGreat
open Go.HL Go.Proofs

/-- The state's other cells amid a transaction. -/
structure EnvI (I : Ent → Prop) (cs : Nat → Value) (K : YK) : Prop where
  ret : cs 10 = .slice none 0 0
  ph : cs 11 = .int .u8 1
  price : NatI I (cs 17) 0
  orig : Row cs 19 (bvs K.caller)
  coin : Row cs 59 (bvs (adNo 192))
  num : cs 79 = .int .u64 0
  time : cs 80 = .int .u64 0
  glim : cs 81 = .int .u64 1048576
  rand : Row cs 82 (bvs (List.replicate 32 0))
  chain : Row cs 114 (bvs (List.replicate 32 0))
  base : Row cs 146 (bvs (List.replicate 32 0))
  hashes : cs 178 = .slice none 0 0
theorem EnvI.up {I J : Ent → Prop} {cs : Nat → Value} {K : YK} (h : EnvI I cs K) (hs : Sub I J) : EnvI J cs K := ⟨h.ret, h.ph, h.price.up hs, h.orig, h.coin, h.num, h.time, h.glim, h.rand, h.chain, h.base, h.hashes⟩
theorem row_byt {S : St} {x : Ent} {o n : Nat} {ds : List Nat} (hrow : Row x.c o (bvs ds)) (hx : Rd S x) (h8 : ∀ d ∈ ds, d < 256) (hn : ds.length = n) (hl : n < 2 ^ 40) (ho : o + n ≤ x.sz) : Byt S (.slice (some ⟨x.b, o, none⟩) n n) ds := by
  subst hn
  exact ⟨h8, by omega, _, _, rfl, Nat.le_refl _, by omega, .inr ⟨x, o, rfl, hx, Row.bs hrow ho⟩⟩
theorem bev_256 {ds : List Nat} (h8 : ∀ d ∈ ds, d < 256) (hl : ds.length ≤ 32) : bev ds < 2 ^ 256 := by
  have h := val_lt ds.reverse (by simpa using h8)
  rw [List.length_reverse] at h
  exact Nat.lt_of_lt_of_le h (Nat.le_trans (Nat.pow_le_pow_right (by decide) hl) (by decide +kernel))
theorem bev_NB {ds : List Nat} (h8 : ∀ d ∈ ds, d < 256) (hl : ds.length ≤ 32) : val ds.reverse < NB := NB_p (Nat.lt_trans (bev_256 h8 hl) (Nat.pow_lt_pow_right (by decide) (by decide)))
end Go.Proofs.YgvafwGreat
