/-
 Types of values, and how they lie in cells. Conditions: none.
-/
import Derived.Test.YtnfgibomhkbcpaaFvDm
set_option linter.unusedSimpArgs false
set_option linter.unusedVariables false
set_option maxRecDepth 100000
set_option maxHeartbeats 4000000
namespace Go.Dc
open Go Go.Mx Go.Lx Go.Proofs
structure S_api_Factor where
 vars:(List Int)
 zad:(List Int)
 w:(List Int)
 deriving Inhabited,DecidableEq
def zal:En S_api_Factor:=eM (fun x=>(x.vars,x.zad,x.w)) (eP (eL (eI .i64)) (eP (eL (eI .i64)) (eL (eI .i64))))
theorem zae(t:Bool)(x:S_api_Factor):zal.c t x=[(fzE t (eI .i64) x.vars),(fzE t (eI .i64) x.zad),(fzE t (eI .i64) x.w)]:=rfl
structure S_haruspexref03_Draft where
 which:Int
 n:(List Int)
 large:Bool
 deriving Inhabited,DecidableEq
def zcL:En S_haruspexref03_Draft:=eM (fun x=>(x.which,x.n,x.large)) (eP (eI .u8) (eP (eL (eI .u8)) eB))
structure S_factor_table where
 factor:S_api_Factor
 steps:(List Int)
 deriving Inhabited,DecidableEq
def zhq:En S_factor_table:=eM (fun x=>(x.factor,x.steps)) (eP zal (eL (eI .i64)))
theorem zdT(t:Bool)(x:S_factor_table):zhq.c t x=[(fzE t (eI .i64) x.factor.vars),(fzE t (eI .i64) x.factor.zad),(fzE t (eI .i64) x.factor.w),(fzE t (eI .i64) x.steps)]:=rfl
end Go.Dc
