import Derived.Test.YgvafwGreatE67
import Derived.Test.YgvafwGreatE74
import Derived.Test.YgvafwGreatR4
set_option exponentiation.threshold 1000
set_option maxRecDepth 100000
set_option maxHeartbeats 4000000
set_option linter.unusedVariables false
set_option linter.unusedSimpArgs false
-- v2
namespace Go.Proofs.YgvafwGreat
open Go.HL Go.Proofs

/-- engine.Open on a new chain -/
theorem eOpenP {I : Ent → Prop} {G : List Ent} {cb sz gas dc : Nat} {T : TypeId} {c : Nat → Value} {V : Vl} {da : Option Addr} {ds code : List Nat} (hsz : 27019 ≤ sz) (hM : MN cb c) (hV : VI I c V G) (hF : FP code 2 V) (hNd : Byt ⟨I, []⟩ (.slice da ds.length dc) ds) (hg : gas ≤ 1048576) (hd : ds.length ≤ 1024) (hi : intN ds ≤ gas) (hcl : code.length ≤ 256) :
    CallG Hvaf.prog 45 #[ptr cb 0, txV (.slice da ds.length dc) gas] ⟨I, ⟨cb, sz, T, c⟩ :: G⟩ (OpenP cb sz T c code ds gas) :=
  eOpen hsz hM.idl hV hF.vq hNd hg hd hi hcl
theorem kc0 {code ds : List Nat} {wa : List (List Nat)} (hcl : code.length ≤ 256) : KC (K0 code ds wa) := ⟨by show code.length ≤ 512; omega, rfl, rfl⟩
end Go.Proofs.YgvafwGreat
