/-
 Types of values, and how they lie in cells. Conditions: none.
-/
import Derived.Test.YtbjogdohfhdaiaaEkDm
set_option linter.unusedSimpArgs false
set_option linter.unusedVariables false
set_option maxRecDepth 100000
set_option maxHeartbeats 4000000
namespace Go.Dc
open Go Go.Mx Go.Lx Go.Proofs
structure S_api_Factor where
 vars:(List Int)
 cards:(List Int)
 w:(List Int)
 deriving Inhabited,DecidableEq
def zab:En S_api_Factor:=eM (fun x=>(x.vars,x.cards,x.w)) (eP (eL (eI .i64)) (eP (eL (eI .i64)) (eL (eI .i64))))
theorem zar(t:Bool)(x:S_api_Factor):zab.c t x=[(fzE t (eI .i64) x.vars),(fzE t (eI .i64) x.cards),(fzE t (eI .i64) x.w)]:=rfl
structure S_factor_table where
 factor:S_api_Factor
 steps:(List Int)
 deriving Inhabited,DecidableEq
def zir:En S_factor_table:=eM (fun x=>(x.factor,x.steps)) (eP zab (eL (eI .i64)))
theorem zeR(t:Bool)(x:S_factor_table):zir.c t x=[(fzE t (eI .i64) x.factor.vars),(fzE t (eI .i64) x.factor.cards),(fzE t (eI .i64) x.factor.w),(fzE t (eI .i64) x.steps)]:=rfl
structure S_api_Q where
 n:Int
 d:Int
 deriving Inhabited,DecidableEq
def zaq:En S_api_Q:=eM (fun x=>(x.n,x.d)) (eP (eI .i64) (eI .i64))
theorem zaH(t:Bool)(x:S_api_Q):zaq.c t x=[(dI x.n),(dI x.d)]:=rfl
structure A2_Intu64 where
 a0:Int
 a1:Int
 deriving Inhabited,DecidableEq
def zn5:En A2_Intu64:=eM (fun x=>(x.a0,x.a1)) (eP (eI .u64) (eI .u64))
theorem zhv(t:Bool)(x:A2_Intu64):zn5.c t x=[(dU x.a0),(dU x.a1)]:=rfl
structure S_api_Node where
 card:Int
 parents:(List Int)
 rows:(List (List Int))
 deriving Inhabited,DecidableEq
def zac:En S_api_Node:=eM (fun x=>(x.card,x.parents,x.rows)) (eP (eI .i64) (eP (eL (eI .i64)) (eL (eL (eI .i64)))))
theorem zat(t:Bool)(x:S_api_Node):zac.c t x=[(dI x.card),(fzE t (eI .i64) x.parents),(fzE t (eL (eI .i64)) x.rows)]:=rfl
structure S_api_Net where
 grain:Int
 nodes:(List S_api_Node)
 deriving Inhabited,DecidableEq
def zjD:En S_api_Net:=eM (fun x=>(x.grain,x.nodes)) (eP (eI .i64) (eL zac))
theorem zc3(t:Bool)(x:S_api_Net):zjD.c t x=[(dI x.grain),(fzE t zac x.nodes)]:=rfl
structure S_eliminate_query where
 net:S_api_Net
 known:(List Int)
 node:Int
 deriving Inhabited,DecidableEq
def zao:En S_eliminate_query:=eM (fun x=>(x.net,x.known,x.node)) (eP zjD (eP (eL (eI .i64)) (eI .i64)))
theorem zaw(t:Bool)(x:S_eliminate_query):zao.c t x=[(dI x.net.grain),(fzE t zac x.net.nodes),(fzE t (eI .i64) x.known),(dI x.node)]:=rfl
structure S_net_network where
 net:S_api_Net
 cards:(List Int)
 sets:(List Int)
 order:(List Int)
 deriving Inhabited,DecidableEq
end Go.Dc
