import Derived.Test.YgvafwGreatNat11
import Derived.Test.YgvafwGreatHLu
set_option maxRecDepth 100000
set_option linter.unusedVariables false
set_option linter.unusedSimpArgs false
namespace Go.Proofs.YgvafwGreat
open Go.HL Go.Proofs

def dig : Nat → Nat → List Nat
  | 0, _ => []
  | k + 1, n => n % 256 :: dig k (n / 256)
theorem dig_len (k n : Nat) : (dig k n).length = k := by
  induction k generalizing n with
  | zero => rfl
  | succ k ih => simp [dig, ih]
theorem dig_val (ds : List Nat) (h : ∀ d ∈ ds, d < 256) : dig ds.length (val ds) = ds := by
  induction ds with
  | nil => rfl
  | cons d ds ih =>
    have h0 := h d (by simp)
    simp only [List.length_cons, dig, val]
    rw [show (d + 256 * val ds) % 256 = d by omega, show (d + 256 * val ds) / 256 = val ds by omega, ih (fun x hx => h x (by simp [hx]))]
/-- 32 bytes, the most significant first. -/
def be32 (n : Nat) : List Nat := (dig 32 n).reverse

/-- nat.BE32 -/
theorem BE32_byt {S : St} {v : Value} {da : List Nat} (h : Byt S v da) :
    CallG Hvaf.prog 91 #[v] S fun r S' => S = S' ∧ r = .tuple #[bytesV (if val da < 2 ^ 256 then be32 (val da) else List.replicate 32 0), .bool (decide (val da < 2 ^ 256))] := by
  obtain ⟨a, cap, rfl, hlc, hc, hb⟩ := h.form
  have hl := hb.2.1
  refine CallG.start (C := mkC Hvaf.prog) cok (args := [.slice a da.length cap]) Hvaf.func91 rfl Hvaf.ntmps91 (by simp) (by kernel_rfl) ?_
  intro rb
  repeat (first | refine SeqS.go cok ?_)
  intro ob
  repeat (first | refine SeqS.go cok ?_)
  refine (trim_spec (Byt.tail (Byt.tail hb))).mono ?_
  rintro r _ _ ⟨rfl, k, hk, rfl⟩
  have c1 := hb.cut hk.le
  have f1 := hk.le
  have n1 := hk.norm
  rw [← hk.val]
  have g1 : k = (da.take k).length := by simp; omega
  generalize da.take k = p at *
  subst g1
  clear hb h hk
  repeat (first | refine SeqS.go cok ?_)
  refine CondS.dec rfl (fun h1 => ?_) (fun h1 => ?_)
  · repeat (first | (refine QuG.keep ?_; first | refine QuG.ldwN cok 0 rfl rfl rfl rfl rfl (by first | omega | (dsimp only; omega)) ?_))
    refine OpG.row cok 1 (bvs (List.replicate 32 0)) rfl rfl rfl rfl rfl rfl (Nat.le_refl _) (bvs_one _) ?_
    repeat (first | refine SeqS.go cok ?_)
    refine LdG.row cok (x := ⟨rb, 32, _, _⟩) (Row.updN _ 0 (bvs (List.replicate 32 0))) (.inr (.tail _ (.head _))) rfl rfl rfl rfl rfl (Nat.le_refl _) ?_
    refine Fin.drop S.G [_, _] ⟨rfl, ?_⟩
    have h2 := norm_ge n1 (by omega)
    have h3 : 256 ^ 32 ≤ 256 ^ (p.length - 1) := Nat.pow_le_pow_right (by omega) (by omega)
    have h4 : ¬ val p < 2 ^ 256 := by omega
    rw [if_neg h4, show decide (val p < 2 ^ 256) = false by simp; omega]; rfl
  have hlt := val_lt p c1.1
  have h3 : 256 ^ p.length ≤ 256 ^ 32 := Nat.pow_le_pow_right (by omega) (by omega)
  have h4 : val p < 2 ^ 256 := by omega
  rw [if_pos h4, show decide (val p < 2 ^ 256) = true by simp; omega]
  repeat (first | refine SeqS.go cok ?_)
  refine W.loopE cok (by kernel_rfl) 0 (fun (i : Nat) e' S' => ∃ c out, S' = ⟨S.I, ⟨ob, 32, 22, c⟩ :: ⟨rb, 32, 22, z_int__u8_0⟩ :: S.G⟩ ∧ Ow c out ∧ out.length = 32 ∧ (∀ d ∈ out, d < 256) ∧ i ≤ p.length ∧ (∀ j, j < 32 → out.getD (31 - j) 0 = if j < i then p.getD j 0 else 0) ∧
      slots [(0, .slice a p.length p.length), (2, ptr rb 0), (4, ptr ob 0), (13, .slice a p.length p.length), (14, .int .i64 (p.length : Nat)), (15, .int .i64 (i : Nat))] e') (fun i => p.length - i) 0 ?_
    (fun e' S' => ∃ c out, S' = ⟨S.I, ⟨ob, 32, 22, c⟩ :: ⟨rb, 32, 22, z_int__u8_0⟩ :: S.G⟩ ∧ Ow c out ∧ out = be32 (val p) ∧ slots [(2, ptr rb 0), (4, ptr ob 0)] e') ?_ ?_
  · exact ⟨_, List.replicate 32 0, rfl, Ow.zero _ fun i _ => rfl, by simp, by simp, by omega, fun j _ => by rw [getD_rep]; simp, rfl, rfl, rfl, rfl, rfl, rfl, trivial⟩
  · rintro e' _ _ ⟨c, out, rfl, how, hout, hs⟩
    refine SeqS.slots cok _ hs fun e => ?_
    have hlen : out.length = 32 := by rw [hout]; simp [be32, dig_len]
    refine QuG.row cok (x := ⟨ob, 32, 22, c⟩) how.row (.inr (.head _)) rfl rfl rfl rfl (by rw [bvs_length, hlen]) (Nat.le_refl _) ?_
    refine OpG.row cok 1 (bvs out) rfl rfl rfl rfl rfl (by rw [bvs_length, hlen]) (Nat.le_refl _) (bvs_one _) ?_
    repeat (first | refine SeqS.go cok ?_)
    refine LdG.row cok (x := ⟨rb, 32, _, _⟩) (Row.updN _ 0 (bvs out)) (.inr (.tail _ (.head _))) rfl rfl rfl rfl (by rw [bvs_length, hlen]) (Nat.le_refl _) ?_
    refine Fin.drop S.G [_, _] ⟨rfl, ?_⟩
    rw [← hout]; rfl
  · rintro i e' _ _ ⟨c, out, rfl, how, hol, hod, hi, hj, hs⟩
    refine W.slots _ hs fun e => ?_
    repeat (first | refine SeqS.go cok ?_)
    refine CondS.dec rfl (fun hc => ?_) (fun hc => ?_)
    · obtain ⟨x, o, rfl, hx, hbs⟩ := c1.some (by omega)
      have hx := Rd.tail (y := ⟨ob, 32, 22, c⟩) (Rd.tail (y := ⟨rb, 32, 22, z_int__u8_0⟩) hx)
      have hd1 := getD_lt c1.1 i
      repeat (first | refine SeqS.go cok ?_ | refine And.intro (by omega) ?_ | refine And.intro (by dsimp only; omega) ?_ | (refine NatS.keep ?_; first | with_reducible refine NatS.nat ?_) | (refine ValS.keep ?_; first | (with_reducible refine ValS.kI64 ?_; first | (with_reducible refine ValS.subI64_M ?_ ?_ ?_ ; omega; omega))) | (refine QuG.keep ?_; first | refine QuG.bs cok (by assumption) (by assumption) rfl rfl rfl rfl (by omega) ?_))
      refine OpG.ow cok 0 rfl how rfl rfl rfl rfl rfl rfl rfl (by omega) (by show _ ≤ 32; omega) fun c2 hown => ?_
      repeat (first | refine SeqS.go cok ?_ | (refine ValS.keep ?_; first | (with_reducible refine ValS.kI64 ?_; first | (with_reducible refine ValS.addI64_L ?_ ?_ ; omega))))
      refine ⟨i + 1, ⟨c2, _, rfl, hown, by simp [hol], mem_set_lt hod hd1, by omega, fun j hj2 => ?_, rfl, rfl, rfl, rfl, rfl, rfl, trivial⟩, by show p.length - (i + 1) < p.length - i; omega⟩
      rw [getD_set _ _ _ _ (by omega)]
      by_cases hji : j = i
      · subst hji; rw [if_pos rfl, if_pos (by omega)]
      · rw [if_neg (by omega), hj j hj2]
        by_cases hlt : j < i
        · rw [if_pos hlt, if_pos (by omega)]
        · rw [if_neg hlt, if_neg (by omega)]
    · have : i = p.length := by omega
      subst this
      skip
      refine ⟨c, out, rfl, how, ?_, rfl, rfl, trivial⟩
      have hr : out.reverse = p ++ List.replicate (32 - p.length) 0 := by
        refine ext_getD _ _ (by simp; omega) fun j hj2 => ?_
        simp at hj2
        rw [getD_reverse _ _ (by omega), hol, show 32 - 1 - j = 31 - j by omega, hj j (by omega)]
        simp only [List.getD_eq_getElem?_getD, List.getElem?_append, List.getElem?_replicate]
        split
        · rfl
        · split <;> rfl
      have hv : val out.reverse = val p := by rw [hr, val_append, val_zeros _ (fun d hd => List.eq_of_mem_replicate hd)]; rfl
      have := dig_val out.reverse (fun d hd => hod d (List.mem_reverse.1 hd))
      rw [hv, List.length_reverse, hol] at this
      rw [be32, this, List.reverse_reverse]
end Go.Proofs.YgvafwGreat
