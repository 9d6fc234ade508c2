/-
 Types of values, and how they lie in cells. Conditions: none.
-/
import Derived.Test.YtbjogdohfhdaiaaKfDm
set_option linter.unusedSimpArgs false
set_option linter.unusedVariables false
set_option maxRecDepth 100000
set_option maxHeartbeats 4000000
namespace Go.Dc
open Go Go.Mx Go.Lx Go.Proofs
structure S_api_Factor where
 vars:(List Int)
 cards:(List Int)
 w:(List Int)
 deriving Inhabited,DecidableEq
def zah:En S_api_Factor:=eM (fun x=>(x.vars,x.cards,x.w)) (eP (eL (eI .i64)) (eP (eL (eI .i64)) (eL (eI .i64))))
theorem zae(t:Bool)(x:S_api_Factor):zah.c t x=[(fzE t (eI .i64) x.vars),(fzE t (eI .i64) x.cards),(fzE t (eI .i64) x.w)]:=rfl
structure S_factor_table where
 factor:S_api_Factor
 steps:(List Int)
 deriving Inhabited,DecidableEq
def zgS:En S_factor_table:=eM (fun x=>(x.factor,x.steps)) (eP zah (eL (eI .i64)))
theorem zdK(t:Bool)(x:S_factor_table):zgS.c t x=[(fzE t (eI .i64) x.factor.vars),(fzE t (eI .i64) x.factor.cards),(fzE t (eI .i64) x.factor.w),(fzE t (eI .i64) x.steps)]:=rfl
end Go.Dc
