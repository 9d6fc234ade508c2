/-
 Types of values, and how they lie in cells. Conditions: none.
-/
import Derived.Test.YtbjogdohfhdaiaaCfDm
set_option linter.unusedSimpArgs false
set_option linter.unusedVariables false
set_option maxRecDepth 100000
set_option maxHeartbeats 4000000
namespace Go.Dc
open Go Go.Mx Go.Lx Go.Proofs
structure S_haruspexref05_Piece where
 card:Int
 parents:Int
 w:(List Int)
 deriving Inhabited,DecidableEq
def zan:En S_haruspexref05_Piece:=eM (λx=>(x.card,x.parents,x.w)) (eP (eI .u8) (eP (eI .u8) (eL (eI .u8))))
theorem zcL(t:Bool)(x:S_haruspexref05_Piece):zan.c t x=[(dU8 x.card),(dU8 x.parents),(fzE t (eI .u8) x.w)]:=rfl
structure S_haruspexref05_Draft where
 grain:Int
 nodes:(List S_haruspexref05_Piece)
 order:(List Int)
 deriving Inhabited,DecidableEq
def zcZ:En S_haruspexref05_Draft:=eM (λx=>(x.grain,x.nodes,x.order)) (eP (eI .u8) (eP (eL zan) (eL (eI .u8))))
structure A8_Intu8 where
 a0:Int
 a1:Int
 a2:Int
 a3:Int
 a4:Int
 a5:Int
 a6:Int
 a7:Int
 deriving Inhabited,DecidableEq
def znk:En A8_Intu8:=eM (λx=>(x.a0,x.a1,x.a2,x.a3,x.a4,x.a5,x.a6,x.a7)) (eP (eI .u8) (eP (eI .u8) (eP (eI .u8) (eP (eI .u8) (eP (eI .u8) (eP (eI .u8) (eP (eI .u8) (eI .u8))))))))
structure S_haruspexref05_Known where
 which:Int
 v:A8_Intu8
 deriving Inhabited,DecidableEq
def zcX:En S_haruspexref05_Known:=eM (λx=>(x.which,x.v)) (eP (eI .u8) znk)
structure S_api_Node where
 card:Int
 parents:(List Int)
 rows:(List (List Int))
 deriving Inhabited,DecidableEq
def zad:En S_api_Node:=eM (λx=>(x.card,x.parents,x.rows)) (eP (eI .i64) (eP (eL (eI .i64)) (eL (eL (eI .i64)))))
theorem zal(t:Bool)(x:S_api_Node):zad.c t x=[(dI x.card),(fzE t (eI .i64) x.parents),(fzE t (eL (eI .i64)) x.rows)]:=rfl
structure S_api_Net where
 grain:Int
 nodes:(List S_api_Node)
 deriving Inhabited,DecidableEq
def zqJ:En S_api_Net:=eM (λx=>(x.grain,x.nodes)) (eP (eI .i64) (eL zad))
theorem zaP(t:Bool)(x:S_api_Net):zqJ.c t x=[(dI x.grain),(fzE t zad x.nodes)]:=rfl
def zai:En S_api_Node:=eM (λx=>(x.card,x.parents,x.rows)) (eP (eI .i64) (eP (eN (eI .i64)) (eN (eL (eI .i64)))))
theorem zed(t:Bool)(x:S_api_Node):zai.c t x=[(dI x.card),(nE t (eI .i64) x.parents),(nE t (eL (eI .i64)) x.rows)]:=rfl
theorem zcP{L:List LB}{t u:Bool}(h:u=true->t=true)(x:S_api_Node):Snps L u (zai.c t x) (zad.c u x):=(.cons (.lit _) (.cons (zoC _ _ h) (.cons (zoC _ _ h) .nil)))
theorem zid{L:List LB}{t u:Bool}(h:u=true->t=true)(xs:List S_api_Node):Pw (Snp L u) (xs.map (zai.c t)) (xs.map (zad.c u)):=Pw.map (λx=>⟨(zcP (L:=L) h x).len,(zcP (L:=L) h x).get⟩) xs
structure S_haruspexref02_Draft where
 c:(List Int)
 which:Int
 order:(List Int)
 deriving Inhabited,DecidableEq
structure S_api_Gate where
 kind:Int
 var:Int
 val:Int
 n:Int
 args:(List Int)
 deriving Inhabited,DecidableEq
def zaa:En S_api_Gate:=eM (λx=>(x.kind,x.var,x.val,x.n,x.args)) (eP (eI .i64) (eP (eI .i64) (eP (eI .i64) (eP (eI .i64) (eL (eI .i64))))))
theorem zaD(t:Bool)(x:S_api_Gate):zaa.c t x=[(dI x.kind),(dI x.var),(dI x.val),(dI x.n),(fzE t (eI .i64) x.args)]:=rfl
structure S_api_Circuit where
 cards:(List Int)
 gates:(List S_api_Gate)
 deriving Inhabited,DecidableEq
structure S_net_network where
 net:S_api_Net
 cards:(List Int)
 sets:(List Int)
 order:(List Int)
 deriving Inhabited,DecidableEq
end Go.Dc
