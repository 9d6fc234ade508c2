/-
 Lists that are nil while they are empty; elements of lists of one's own that are opened. Conditions: none.
-/
import Derived.Test.YtnfgibomhkbcpaaFvDc3
set_option linter.unusedSimpArgs false
set_option linter.unusedVariables false
namespace Go.Dc
open Go Go.Mx Go.Lx
variable {α β γ:Type}
section
variable {k0:Nat} {c:Cx} {L:List LB} {H:zao}
end
section
variable {L:List LB} {F kp:Nat→Bool}
end
end Go.Dc
