/-
 Arrays of structs: an element at a place that is not known. Conditions: none.
-/
import Derived.Test.YtnfgibomhkbcpaaFvDc4
set_option linter.unusedSimpArgs false
set_option linter.unusedVariables false
namespace Go.Dc
open Go Go.Mx Go.Lx
variable {α:Type}
end Go.Dc
