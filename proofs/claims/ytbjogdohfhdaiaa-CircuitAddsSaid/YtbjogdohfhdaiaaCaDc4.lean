/-
 Lists that are nil while they are empty; elements of lists of one's own that are opened. Conditions: none.
-/
import Derived.Test.YtbjogdohfhdaiaaCaDc3
set_option linter.unusedSimpArgs false
set_option linter.unusedVariables false
namespace Go.Dc
open Go Go.Mx Go.Lx
variable {α β γ:Type}
section
variable {k0:Nat} {c:Cx} {L:List LB} {H:zaf}
end
section
variable {L:List LB} {F kp:Nat->Bool}
variable{a b:List (List D)}
theorem Mt.set{c d:List D}(h:Mt L F kp a b)(hc:Mos L F kp c d):∀ i:Nat,Mt L F kp (a.set i c) (b.set i d):=by
 induction h with
 | nil=>intro i; exact .nil
 | cons h1 h2 ih=>
  intro i;cases i with
  | zero=>exact .cons hc h2
  | succ i=>exact .cons h1 (ih i)
theorem Pw.set{P:D->D->Prop}{c d:List D}(h:Pw P a b)(h1:c.length=d.length)(h2:∀(j:Nat) x x',c[j]? = some x->d[j]? = some x'->P x x'):∀ i:Nat,Pw P (a.set i c) (b.set i d):=by
 induction h with
 | nil=>intro i; exact .nil
 | cons g1 g2 g3 ih=>
  intro i;cases i with
  | zero=>exact .cons h1 h2 g3
  | succ i=>exact .cons g1 g2 (ih i)
end
end Go.Dc
