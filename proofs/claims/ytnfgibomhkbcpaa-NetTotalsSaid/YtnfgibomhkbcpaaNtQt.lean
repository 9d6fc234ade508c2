/-
 Types of values, and how they lie in cells. Conditions: none.
-/
import Derived.Test.YtnfgibomhkbcpaaNtDm
set_option linter.unusedSimpArgs false
set_option linter.unusedVariables false
set_option maxRecDepth 100000
set_option maxHeartbeats 4000000
namespace Go.Dc
open Go Go.Mx Go.Lx Go.Proofs
structure S_api_Node where
 zaE:Int
 parents:(List Int)
 rows:(List (List Int))
 deriving Inhabited,DecidableEq
def zab:En S_api_Node:=eM (fun x=>(x.zaE,x.parents,x.rows)) (eP (eI .i64) (eP (eL (eI .i64)) (eL (eL (eI .i64)))))
theorem zar(t:Bool)(x:S_api_Node):zab.c t x=[(dI x.zaE),(fzE t (eI .i64) x.parents),(fzE t (eL (eI .i64)) x.rows)]:=rfl
structure S_api_Net where
 grain:Int
 nodes:(List S_api_Node)
 deriving Inhabited,DecidableEq
def zqj:En S_api_Net:=eM (fun x=>(x.grain,x.nodes)) (eP (eI .i64) (eL zab))
theorem zbP(t:Bool)(x:S_api_Net):zqj.c t x=[(dI x.grain),(fzE t zab x.nodes)]:=rfl
structure S_api_Factor where
 vars:(List Int)
 zad:(List Int)
 w:(List Int)
 deriving Inhabited,DecidableEq
def zav:En S_api_Factor:=eM (fun x=>(x.vars,x.zad,x.w)) (eP (eL (eI .i64)) (eP (eL (eI .i64)) (eL (eI .i64))))
theorem zdS(t:Bool)(x:S_api_Factor):zav.c t x=[(fzE t (eI .i64) x.vars),(fzE t (eI .i64) x.zad),(fzE t (eI .i64) x.w)]:=rfl
structure S_net_network where
 net:S_api_Net
 zad:(List Int)
 sets:(List Int)
 order:(List Int)
 deriving Inhabited,DecidableEq
structure S_haruspexref05_Piece where
 zaE:Int
 parents:Int
 w:(List Int)
 deriving Inhabited,DecidableEq
def zaj:En S_haruspexref05_Piece:=eM (fun x=>(x.zaE,x.parents,x.w)) (eP (eI .u8) (eP (eI .u8) (eL (eI .u8))))
theorem zcL(t:Bool)(x:S_haruspexref05_Piece):zaj.c t x=[(dU8 x.zaE),(dU8 x.parents),(fzE t (eI .u8) x.w)]:=rfl
structure S_haruspexref05_Draft where
 grain:Int
 nodes:(List S_haruspexref05_Piece)
 order:(List Int)
 deriving Inhabited,DecidableEq
def zde:En S_haruspexref05_Draft:=eM (fun x=>(x.grain,x.nodes,x.order)) (eP (eI .u8) (eP (eL zaj) (eL (eI .u8))))
def zaf:En S_api_Node:=eM (fun x=>(x.zaE,x.parents,x.rows)) (eP (eI .i64) (eP (eN (eI .i64)) (eN (eL (eI .i64)))))
theorem zeb(t:Bool)(x:S_api_Node):zaf.c t x=[(dI x.zaE),(nE t (eI .i64) x.parents),(nE t (eL (eI .i64)) x.rows)]:=rfl
theorem zc6{L:List LB}{t u:Bool}(h:u=true→t=true)(x:S_api_Node):Snps L u (zaf.c t x) (zab.c u x):=(.cons (.lit _) (.cons (znK _ _ h) (.cons (znK _ _ h) .nil)))
theorem ziH{L:List LB}{t u:Bool}(h:u=true→t=true)(xs:List S_api_Node):Pw (Snp L u) (xs.map (zaf.c t)) (xs.map (zab.c u)):=Pw.map (fun x=>⟨(zc6 (L:=L) h x).len,(zc6 (L:=L) h x).get⟩) xs
structure S_haruspexref02_Draft where
 c:(List Int)
 which:Int
 order:(List Int)
 deriving Inhabited,DecidableEq
structure S_haruspexref03_Draft where
 which:Int
 n:(List Int)
 large:Bool
 deriving Inhabited,DecidableEq
structure S_factor_table where
 factor:S_api_Factor
 steps:(List Int)
 deriving Inhabited,DecidableEq
def zik:En S_factor_table:=eM (fun x=>(x.factor,x.steps)) (eP zav (eL (eI .i64)))
theorem zei(t:Bool)(x:S_factor_table):zik.c t x=[(fzE t (eI .i64) x.factor.vars),(fzE t (eI .i64) x.factor.zad),(fzE t (eI .i64) x.factor.w),(fzE t (eI .i64) x.steps)]:=rfl
end Go.Dc
