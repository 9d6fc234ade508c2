/-
 What l03_FactorKeeps computes. Conditions: none.
-/
import Derived.Test.YtnfgibomhkbcpaaFvJ7
set_option linter.unusedSimpArgs false
set_option linter.unusedVariables false
set_option maxRecDepth 100000
set_option maxHeartbeats 4000000
namespace Go.Dc
open Go Go.Mx Go.Lx Go.Proofs
end Go.Dc
