/-
 Types of values, and how they lie in cells. Conditions: none.
-/
import Derived.Test.YtnfgibomhkbcpaaNrDm
set_option linter.unusedSimpArgs false
set_option linter.unusedVariables false
set_option maxRecDepth 100000
set_option maxHeartbeats 4000000
namespace Go.Dc
open Go Go.Mx Go.Lx Go.Proofs
structure S_api_Node where
 card:Int
 parents:(List Int)
 rows:(List (List Int))
 deriving Inhabited,DecidableEq
def zac:En S_api_Node:=eM (fun x=>(x.card,x.parents,x.rows)) (eP (eI .i64) (eP (eL (eI .i64)) (eL (eL (eI .i64)))))
theorem zar(t:Bool)(x:S_api_Node):zac.c t x=[(dI x.card),(fzE t (eI .i64) x.parents),(fzE t (eL (eI .i64)) x.rows)]:=rfl
structure S_api_Net where
 grain:Int
 nodes:(List S_api_Node)
 deriving Inhabited,DecidableEq
def zpc:En S_api_Net:=eM (fun x=>(x.grain,x.nodes)) (eP (eI .i64) (eL zac))
theorem zfj(t:Bool)(x:S_api_Net):zpc.c t x=[(dI x.grain),(fzE t zac x.nodes)]:=rfl
structure S_api_Factor where
 vars:(List Int)
 cards:(List Int)
 w:(List Int)
 deriving Inhabited,DecidableEq
def zao:En S_api_Factor:=eM (fun x=>(x.vars,x.cards,x.w)) (eP (eL (eI .i64)) (eP (eL (eI .i64)) (eL (eI .i64))))
theorem zcQ(t:Bool)(x:S_api_Factor):zao.c t x=[(fzE t (eI .i64) x.vars),(fzE t (eI .i64) x.cards),(fzE t (eI .i64) x.w)]:=rfl
structure S_net_network where
 net:S_api_Net
 cards:(List Int)
 sets:(List Int)
 order:(List Int)
 deriving Inhabited,DecidableEq
structure S_haruspexref05_Piece where
 card:Int
 parents:Int
 w:(List Int)
 deriving Inhabited,DecidableEq
def zah:En S_haruspexref05_Piece:=eM (fun x=>(x.card,x.parents,x.w)) (eP (eI .u8) (eP (eI .u8) (eL (eI .u8))))
theorem zcJ(t:Bool)(x:S_haruspexref05_Piece):zah.c t x=[(dU8 x.card),(dU8 x.parents),(fzE t (eI .u8) x.w)]:=rfl
structure S_haruspexref05_Draft where
 grain:Int
 nodes:(List S_haruspexref05_Piece)
 order:(List Int)
 deriving Inhabited,DecidableEq
def zc1:En S_haruspexref05_Draft:=eM (fun x=>(x.grain,x.nodes,x.order)) (eP (eI .u8) (eP (eL zah) (eL (eI .u8))))
def zae:En S_api_Node:=eM (fun x=>(x.card,x.parents,x.rows)) (eP (eI .i64) (eP (eN (eI .i64)) (eN (eL (eI .i64)))))
theorem zd3(t:Bool)(x:S_api_Node):zae.c t x=[(dI x.card),(nE t (eI .i64) x.parents),(nE t (eL (eI .i64)) x.rows)]:=rfl
theorem zcW{L:List LB}{t u:Bool}(h:u=true→t=true)(x:S_api_Node):Snps L u (zae.c t x) (zac.c u x):=(.cons (.lit _) (.cons (zmB _ _ h) (.cons (zmB _ _ h) .nil)))
theorem zio{L:List LB}{t u:Bool}(h:u=true→t=true)(xs:List S_api_Node):Pw (Snp L u) (xs.map (zae.c t)) (xs.map (zac.c u)):=Pw.map (fun x=>⟨(zcW (L:=L) h x).len,(zcW (L:=L) h x).get⟩) xs
structure S_haruspexref02_Draft where
 c:(List Int)
 which:Int
 order:(List Int)
 deriving Inhabited,DecidableEq
structure S_haruspexref03_Draft where
 which:Int
 n:(List Int)
 large:Bool
 deriving Inhabited,DecidableEq
structure S_factor_table where
 factor:S_api_Factor
 steps:(List Int)
 deriving Inhabited,DecidableEq
def zh7:En S_factor_table:=eM (fun x=>(x.factor,x.steps)) (eP zao (eL (eI .i64)))
theorem zef(t:Bool)(x:S_factor_table):zh7.c t x=[(fzE t (eI .i64) x.factor.vars),(fzE t (eI .i64) x.factor.cards),(fzE t (eI .i64) x.factor.w),(fzE t (eI .i64) x.steps)]:=rfl
end Go.Dc
