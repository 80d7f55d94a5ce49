import Derived.Test.YgvafwGreatNum1
import Derived.Test.YgvafwGreatHLz
set_option maxRecDepth 100000
set_option maxHeartbeats 4000000
set_option linter.unusedVariables false
set_option linter.unusedSimpArgs false
-- v2
namespace Go.Proofs.YgvafwGreat
open Go.HL Go.Proofs

/-- Bytes, the most significant first. -/
def bev (ds : List Nat) : Nat := val ds.reverse
theorem list8 {l : List Nat} (h : l.length = 8) : ∃ a b c d e f g i, l = [a, b, c, d, e, f, g, i] := by
  match l, h with
  | [a, b, c, d, e, f, g, i], _ => exact ⟨a, b, c, d, e, f, g, i, rfl⟩
theorem bev8 (a b c d e f g i : Nat) : bev [a, b, c, d, e, f, g, i] = i + 256 * (g + 256 * (f + 256 * (e + 256 * (d + 256 * (c + 256 * (b + 256 * a)))))) := by
  simp [bev, val]
theorem Bs.row {x : Ent} {o : Nat} {ds : List Nat} (h : Bs x o ds) (k n : Nat) (hk : k + n ≤ ds.length) : Row x.c (o + k) (bvs ((ds.drop k).take n)) := by
  refine ⟨fun i hi => ?_⟩
  have hi : i < n := by simp at hi; omega
  rw [bvs_getD _ _ (by simp; omega), Nat.add_assoc, h.2 (k + i) (by omega)]
  simp [List.getD_eq_getElem?_getD, List.getElem?_take, hi]

/-- num.BE64 -/
theorem BE64_spec {S : St} {v : Value} {ds : List Nat} {off : Nat} (h : Byt S v ds) (ho : off + 8 ≤ ds.length) :
    CallG Hvaf.prog 166 #[v, .int .i64 (off : Nat)] S fun r S' => S = S' ∧ r = .tuple #[.int .u64 (bev ((ds.drop off).take 8) : Nat), .bool true] := by
  obtain ⟨a, cap, rfl, hlc, hc, hb⟩ := h.form
  obtain ⟨x, o, rfl, hx, hbs⟩ := hb.some (by omega)
  have hl := hb.2.1
  have hcap : cap < 9223372036854775808 := by omega
  refine CallG.start (C := mkC Hvaf.prog) cok (args := [.slice (some ⟨x.b, o, none⟩) ds.length cap, .int .i64 (off : Nat)]) Hvaf.func166 rfl Hvaf.ntmps166 (by simp) (by kernel_rfl) ?_
  repeat (first | refine SeqS.go cok ?_)
  refine (inside_spec (by omega) (by omega)).mono ?_
  rintro r _ _ ⟨rfl, rfl⟩
  repeat (first | refine SeqS.go cok ?_ | refine And.intro (Eq.refl true) ?_ | refine And.intro (by omega) ?_ | refine And.intro (by dsimp only; omega) ?_ | (refine NatS.keep ?_; first | with_reducible refine NatS.nat ?_) | (refine ValS.keep ?_; first | (with_reducible refine ValS.kI64 ?_; first | (with_reducible refine ValS.addI64_L ?_ ?_ ; omega)) | (with_reducible refine ValS.slN ?_ ?_; omega)) | (refine CondS.keep ?_; first | refine CondS.nd0 rfl (by omega) ?_))
  refine QuG.rowE cok (Bs.row hbs off 8 ho) hx rfl rfl rfl rfl (addS_eq _ _) (by show _ = 8; simp; omega) (by show _ + 8 ≤ _; have := hbs.1; omega) ?_
  have hd := hb.1
  have h8 : ((ds.drop off).take 8).length = 8 := by simp; omega
  have hd8 : ∀ d ∈ (ds.drop off).take 8, d < 256 := fun d h => hd d (List.mem_of_mem_drop (List.mem_of_mem_take h))
  generalize (ds.drop off).take 8 = p at *
  obtain ⟨d0, d1, d2, d3, d4, d5, d6, d7, rfl⟩ := list8 h8
  simp only [List.mem_cons, List.not_mem_nil, or_false, forall_eq_or_imp, forall_eq] at hd8
  obtain ⟨g0, g1, g2, g3, g4, g5, g6, g7⟩ := hd8
  intro nb
  repeat (first | refine SeqS.go cok ?_ | refine And.intro (by omega) ?_ | refine And.intro (by dsimp only; omega) ?_ | (refine NatS.keep ?_; first | with_reducible refine NatS.lit ?_) | (refine ValS.keep ?_; first | (with_reducible refine ValS.kU64 ?_; first | (with_reducible refine ValS.orShU64 ?_ ?_ ?_; omega; omega) | (with_reducible refine ValS.convU64 ?_ ?_ ; omega) | (with_reducible refine ValS.shlU64_L ?_ ?_ ?_ ; omega; omega))) | (refine QuG.keep ?_; first | refine QuG.l1 cok 0 rfl rfl rfl rfl rfl (by first | exact Nat.le_of_ble_eq_true rfl | omega | (dsimp only; omega) | (simp only [addS_eq, mulS_eq]; omega)) ?_) | (refine OpG.keep ?_; first | refine OpG.sL cok 0 rfl rfl rfl rfl rfl rfl rfl (by first | exact Nat.le_of_ble_eq_true rfl | omega | (dsimp only; omega) | (simp only [addS_eq, mulS_eq]; omega)) ?_))
  exact Fin.drop S.G [_] ⟨rfl, by rw [bev8]; exact congrArg (fun n : Nat => Value.tuple #[.int .u64 (n : Int), .bool true]) (by omega)⟩

/-- The bytes of a limb, the most significant first. -/
def be8 (x : Nat) : List Nat := [x / 2 ^ 56, x / 2 ^ 48 % 256, x / 2 ^ 40 % 256, x / 2 ^ 32 % 256, x / 2 ^ 24 % 256, x / 2 ^ 16 % 256, x / 2 ^ 8 % 256, x % 256]
theorem be8_dig (x : Nat) (hx : x < 18446744073709551616) : be8 x = (dig 8 x).reverse := by
  simp only [dig, be8, List.reverse_cons, List.reverse_nil, List.nil_append, List.cons_append, Nat.div_div_eq_div_mul]
  refine List.cons_eq_cons.2 ⟨?_, rfl⟩
  omega

theorem put8 (c : Nat → Value) (off o0 o1 o2 o3 o4 o5 o6 o7 : Nat) (v0 v1 v2 v3 v4 v5 v6 v7 : Value) (h0 : o0 = off) (h1 : o1 = off + 1) (h2 : o2 = off + 2) (h3 : o3 = off + 3) (h4 : o4 = off + 4) (h5 : o5 = off + 5) (h6 : o6 = off + 6) (h7 : o7 = off + 7) :
    upd (upd (upd (upd (upd (upd (upd (upd c o0 v0) o1 v1) o2 v2) o3 v3) o4 v4) o5 v5) o6 v6) o7 v7 = updN c off [v0, v1, v2, v3, v4, v5, v6, v7] := by
  subst h0 h1 h2 h3 h4 h5 h6 h7
  funext i
  simp only [upd, updN, List.length_cons, List.length_nil]
  by_cases h : o0 ≤ i ∧ i < o0 + 8
  · rw [if_pos h]
    obtain ⟨k, rfl⟩ : ∃ k, i = o0 + k := ⟨i - o0, by omega⟩
    have hk : k < 8 := by omega
    rw [Nat.add_sub_cancel_left]
    match k, hk with
    | 0, _ => simp
    | 1, _ => simp
    | 2, _ => simp
    | 3, _ => simp
    | 4, _ => simp
    | 5, _ => simp
    | 6, _ => simp
    | 7, _ => simp
  · rw [if_neg h]
    repeat rw [if_neg (by omega)]

/-- num.PutBE64 into a row of one's own. -/
theorem PutBE64_spec {I : Ent → Prop} {G : List Ent} {x : Ent} {len cap off n : Nat} (ho : off + 8 ≤ len) (hl : len ≤ x.sz) (hc : len ≤ cap) (hm : cap < 2 ^ 47) (hn : n < 18446744073709551616) :
    CallG Hvaf.prog 168 #[sl x.b 0 len cap, .int .i64 (off : Nat), .int .u64 (n : Nat)] ⟨I, x :: G⟩ fun r S' => S' = ⟨I, ⟨x.b, x.sz, x.T, updN x.c off (bvs (be8 n))⟩ :: G⟩ ∧ r = .bool true := by
  have a0 := addS_eq off 0
  have a1 := addS_eq off 1
  have a2 := addS_eq off 2
  have a3 := addS_eq off 3
  have a4 := addS_eq off 4
  have a5 := addS_eq off 5
  have a6 := addS_eq off 6
  have a7 := addS_eq off 7
  refine CallG.start (C := mkC Hvaf.prog) cok (args := [sl x.b 0 len cap, .int .i64 (off : Nat), .int .u64 (n : Nat)]) Hvaf.func168 rfl Hvaf.ntmps168 (by simp) (by kernel_rfl) ?_
  repeat (first | refine SeqS.go cok ?_)
  refine (inside_spec (by omega) (by omega)).mono ?_
  rintro r _ _ ⟨rfl, rfl⟩
  repeat (first | refine SeqS.go cok ?_ | refine And.intro (Eq.refl true) ?_ | refine And.intro (by omega) ?_ | refine And.intro (by dsimp only; omega) ?_ | (refine NatS.keep ?_; first | with_reducible refine NatS.lit ?_ | with_reducible refine NatS.nat ?_) | (refine ValS.keep ?_; first | (with_reducible refine ValS.kI64 ?_; first | (with_reducible refine ValS.addI64_L ?_ ?_ ; omega)) | (with_reducible refine ValS.kU64 ?_; first | (with_reducible refine ValS.shrU64_L ?_ ?_ ; omega)) | (with_reducible refine ValS.kU8 ?_; first | (with_reducible refine ValS.convU8 ?_ ?_ ; omega) | (with_reducible refine ValS.convWU8 ?_ )) | (with_reducible refine ValS.slN ?_ ?_; omega)) | (refine OpG.keep ?_; first | refine OpG.s1 cok 0 rfl rfl rfl rfl rfl (by first | exact Nat.le_of_ble_eq_true rfl | omega | (dsimp only; omega) | (simp only [addS_eq, mulS_eq]; omega)) rfl rfl ?_) | (refine CondS.keep ?_; first | refine CondS.nd0 rfl (by omega) ?_))
  exact Fin.same ⟨congrArg (fun c => St.mk I (⟨x.b, x.sz, x.T, c⟩ :: G)) (put8 x.c off _ _ _ _ _ _ _ _ _ _ _ _ _ _ _ _ a0 a1 a2 a3 a4 a5 a6 a7), rfl⟩
end Go.Proofs.YgvafwGreat
