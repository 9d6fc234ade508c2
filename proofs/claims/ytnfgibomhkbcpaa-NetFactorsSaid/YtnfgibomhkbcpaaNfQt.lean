/-
 Types of values, and how they lie in cells. Conditions: none.
-/
import Derived.Test.YtnfgibomhkbcpaaNfDm
set_option linter.unusedSimpArgs false
set_option linter.unusedVariables false
set_option maxRecDepth 100000
set_option maxHeartbeats 4000000
namespace Go.Dc
open Go Go.Mx Go.Lx Go.Proofs
structure S_api_Node where
 card:Int
 parents:(List Int)
 rows:(List (List Int))
 deriving Inhabited,DecidableEq
def zaa:En S_api_Node:=eM (fun x=>(x.card,x.parents,x.rows)) (eP (eI .i64) (eP (eL (eI .i64)) (eL (eL (eI .i64)))))
theorem zad(t:Bool)(x:S_api_Node):zaa.c t x=[(dI x.card),(fzE t (eI .i64) x.parents),(fzE t (eL (eI .i64)) x.rows)]:=rfl
structure S_api_Net where
 grain:Int
 nodes:(List S_api_Node)
 deriving Inhabited,DecidableEq
def zcU:En S_api_Net:=eM (fun x=>(x.grain,x.nodes)) (eP (eI .i64) (eL zaa))
theorem za5(t:Bool)(x:S_api_Net):zcU.c t x=[(dI x.grain),(fzE t zaa x.nodes)]:=rfl
structure S_api_Factor where
 vars:(List Int)
 cards:(List Int)
 w:(List Int)
 deriving Inhabited,DecidableEq
def zae:En S_api_Factor:=eM (fun x=>(x.vars,x.cards,x.w)) (eP (eL (eI .i64)) (eP (eL (eI .i64)) (eL (eI .i64))))
theorem zfk(t:Bool)(x:S_api_Factor):zae.c t x=[(fzE t (eI .i64) x.vars),(fzE t (eI .i64) x.cards),(fzE t (eI .i64) x.w)]:=rfl
structure S_net_network where
 net:S_api_Net
 cards:(List Int)
 sets:(List Int)
 order:(List Int)
 deriving Inhabited,DecidableEq
structure S_haruspexref05_Piece where
 card:Int
 parents:Int
 w:(List Int)
 deriving Inhabited,DecidableEq
def zaj:En S_haruspexref05_Piece:=eM (fun x=>(x.card,x.parents,x.w)) (eP (eI .u8) (eP (eI .u8) (eL (eI .u8))))
theorem zaE(t:Bool)(x:S_haruspexref05_Piece):zaj.c t x=[(dU8 x.card),(dU8 x.parents),(fzE t (eI .u8) x.w)]:=rfl
structure S_haruspexref05_Draft where
 grain:Int
 nodes:(List S_haruspexref05_Piece)
 order:(List Int)
 deriving Inhabited,DecidableEq
def zcb:En S_haruspexref05_Draft:=eM (fun x=>(x.grain,x.nodes,x.order)) (eP (eI .u8) (eP (eL zaj) (eL (eI .u8))))
theorem zaX(t:Bool)(x:S_haruspexref05_Draft):zcb.c t x=[(dU8 x.grain),(fzE t zaj x.nodes),(fzE t (eI .u8) x.order)]:=rfl
structure S_haruspexref05_Bend where
 what:Int
 at_:Int
 row:Int
 n:Int
 deriving Inhabited,DecidableEq
def zcn:En S_haruspexref05_Bend:=eM (fun x=>(x.what,x.at_,x.row,x.n)) (eP (eI .u8) (eP (eI .u8) (eP (eI .u8) (eI .i64))))
theorem za3(t:Bool)(x:S_haruspexref05_Bend):zcn.c t x=[(dU8 x.what),(dU8 x.at_),(dU8 x.row),(dI x.n)]:=rfl
structure A3_S_api_Net where
 a0:S_api_Net
 a1:S_api_Net
 a2:S_api_Net
 deriving Inhabited,DecidableEq
def zjI:En A3_S_api_Net:=eM (fun x=>(x.a0,x.a1,x.a2)) (eP zcU (eP zcU zcU))
theorem zcj(t:Bool)(x:A3_S_api_Net):zjI.c t x=[(dI x.a0.grain),(fzE t zaa x.a0.nodes),(dI x.a1.grain),(fzE t zaa x.a1.nodes),(dI x.a2.grain),(fzE t zaa x.a2.nodes)]:=rfl
def zag:En S_api_Node:=eM (fun x=>(x.card,x.parents,x.rows)) (eP (eI .i64) (eP (eN (eI .i64)) (eN (eL (eI .i64)))))
theorem zee(t:Bool)(x:S_api_Node):zag.c t x=[(dI x.card),(nE t (eI .i64) x.parents),(nE t (eL (eI .i64)) x.rows)]:=rfl
theorem zc2{L:List LB}{t u:Bool}(h:u=true→t=true)(x:S_api_Node):Snps L u (zag.c t x) (zaa.c u x):=(.cons (.lit _) (.cons (zne _ _ h) (.cons (zne _ _ h) .nil)))
theorem zhu{L:List LB}{t u:Bool}(h:u=true→t=true)(xs:List S_api_Node):Pw (Snp L u) (xs.map (zag.c t)) (xs.map (zaa.c u)):=Pw.map (fun x=>⟨(zc2 (L:=L) h x).len,(zc2 (L:=L) h x).get⟩) xs
structure S_haruspexref02_Draft where
 c:(List Int)
 which:Int
 order:(List Int)
 deriving Inhabited,DecidableEq
structure S_haruspexref03_Draft where
 which:Int
 n:(List Int)
 large:Bool
 deriving Inhabited,DecidableEq
structure S_factor_table where
 factor:S_api_Factor
 steps:(List Int)
 deriving Inhabited,DecidableEq
end Go.Dc
