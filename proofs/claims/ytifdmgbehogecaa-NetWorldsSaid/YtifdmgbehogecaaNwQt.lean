/-
 Types of values, and how they lie in cells. Conditions: none.
-/
import Derived.Test.YtifdmgbehogecaaNwDm
set_option linter.unusedSimpArgs false
set_option linter.unusedVariables false
set_option maxRecDepth 100000
set_option maxHeartbeats 4000000
namespace Go.Dc
open Go Go.Mx Go.Lx Go.Proofs
structure S_haruspexref05_Piece where
 card:Int
 parents:Int
 w:(List Int)
 deriving Inhabited,DecidableEq
def zae:En S_haruspexref05_Piece:=eM (fun x=>(x.card,x.parents,x.w)) (eP (eI .u8) (eP (eI .u8) (eL (eI .u8))))
theorem zaA(t:Bool)(x:S_haruspexref05_Piece):zae.c t x=[(dU8 x.card),(dU8 x.parents),(fzE t (eI .u8) x.w)]:=rfl
structure S_haruspexref05_Draft where
 grain:Int
 nodes:(List S_haruspexref05_Piece)
 order:(List Int)
 deriving Inhabited,DecidableEq
def zbY:En S_haruspexref05_Draft:=eM (fun x=>(x.grain,x.nodes,x.order)) (eP (eI .u8) (eP (eL zae) (eL (eI .u8))))
theorem zaS(t:Bool)(x:S_haruspexref05_Draft):zbY.c t x=[(dU8 x.grain),(fzE t zae x.nodes),(fzE t (eI .u8) x.order)]:=rfl
structure S_api_Node where
 card:Int
 parents:(List Int)
 rows:(List (List Int))
 deriving Inhabited,DecidableEq
def zaa:En S_api_Node:=eM (fun x=>(x.card,x.parents,x.rows)) (eP (eI .i64) (eP (eL (eI .i64)) (eL (eL (eI .i64)))))
theorem zac(t:Bool)(x:S_api_Node):zaa.c t x=[(dI x.card),(fzE t (eI .i64) x.parents),(fzE t (eL (eI .i64)) x.rows)]:=rfl
structure S_api_Net where
 grain:Int
 nodes:(List S_api_Node)
 deriving Inhabited,DecidableEq
def zcI:En S_api_Net:=eM (fun x=>(x.grain,x.nodes)) (eP (eI .i64) (eL zaa))
theorem zar(t:Bool)(x:S_api_Net):zcI.c t x=[(dI x.grain),(fzE t zaa x.nodes)]:=rfl
def zag:En S_api_Node:=eM (fun x=>(x.card,x.parents,x.rows)) (eP (eI .i64) (eP (eN (eI .i64)) (eN (eL (eI .i64)))))
theorem zea(t:Bool)(x:S_api_Node):zag.c t x=[(dI x.card),(nE t (eI .i64) x.parents),(nE t (eL (eI .i64)) x.rows)]:=rfl
theorem zcR{L:List LB}{t u:Bool}(h:u=true→t=true)(x:S_api_Node):Snps L u (zag.c t x) (zaa.c u x):=(.cons (.lit _) (.cons (zmj _ _ h) (.cons (zmj _ _ h) .nil)))
theorem zhB{L:List LB}{t u:Bool}(h:u=true→t=true)(xs:List S_api_Node):Pw (Snp L u) (xs.map (zag.c t)) (xs.map (zaa.c u)):=Pw.map (fun x=>⟨(zcR (L:=L) h x).len,(zcR (L:=L) h x).get⟩) xs
structure S_haruspexref02_Draft where
 c:(List Int)
 which:Int
 order:(List Int)
 deriving Inhabited,DecidableEq
structure S_net_network where
 net:S_api_Net
 cards:(List Int)
 sets:(List Int)
 order:(List Int)
 deriving Inhabited,DecidableEq
structure A8_Intu8 where
 a0:Int
 a1:Int
 a2:Int
 a3:Int
 a4:Int
 a5:Int
 a6:Int
 a7:Int
 deriving Inhabited,DecidableEq
def zli:En A8_Intu8:=eM (fun x=>(x.a0,x.a1,x.a2,x.a3,x.a4,x.a5,x.a6,x.a7)) (eP (eI .u8) (eP (eI .u8) (eP (eI .u8) (eP (eI .u8) (eP (eI .u8) (eP (eI .u8) (eP (eI .u8) (eI .u8))))))))
structure S_haruspexref05_Known where
 which:Int
 v:A8_Intu8
 deriving Inhabited,DecidableEq
def zcW:En S_haruspexref05_Known:=eM (fun x=>(x.which,x.v)) (eP (eI .u8) zli)
structure S_haruspexref05_Bend where
 what:Int
 at_:Int
 row:Int
 n:Int
 deriving Inhabited,DecidableEq
def zca:En S_haruspexref05_Bend:=eM (fun x=>(x.what,x.at_,x.row,x.n)) (eP (eI .u8) (eP (eI .u8) (eP (eI .u8) (eI .i64))))
theorem zaY(t:Bool)(x:S_haruspexref05_Bend):zca.c t x=[(dU8 x.what),(dU8 x.at_),(dU8 x.row),(dI x.n)]:=rfl
structure A3_S_api_Net where
 a0:S_api_Net
 a1:S_api_Net
 a2:S_api_Net
 deriving Inhabited,DecidableEq
def zjC:En A3_S_api_Net:=eM (fun x=>(x.a0,x.a1,x.a2)) (eP zcI (eP zcI zcI))
theorem zb5(t:Bool)(x:A3_S_api_Net):zjC.c t x=[(dI x.a0.grain),(fzE t zaa x.a0.nodes),(dI x.a1.grain),(fzE t zaa x.a1.nodes),(dI x.a2.grain),(fzE t zaa x.a2.nodes)]:=rfl
end Go.Dc
