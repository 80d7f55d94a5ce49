import Derived.Test.YgvafwGreatE68
import Derived.Test.YgvafwGreatE76
-- v2
namespace Go.Proofs.YgvafwGreat
open Go.HL Go.Proofs

/-- engine.pay does what it must. -/
theorem paySpec : PaySpec := by
  intro I M G cb sz gas g st rn rc T c K V w ra out h1 h2 h3 h4 h5 h6 h7 h8 h9 h10 h11 h12 h13 h14 h15
  rcases Nat.eq_zero_or_pos st with hz | hz
  · exact ePayA h1 h2 h3 h4 h5 h6 h7 h8 h9 h10 hz h11 h12 h13 h14 h15
  · exact ePayB h1 h2 h3 h4 h5 h6 h7 h8 h9 h10 hz h11 h12 h13 h14 h15
end Go.Proofs.YgvafwGreat
