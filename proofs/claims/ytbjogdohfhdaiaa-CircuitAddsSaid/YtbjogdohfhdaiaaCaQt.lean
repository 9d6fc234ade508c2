/-
 Types of values, and how they lie in cells. Conditions: none.
-/
import Derived.Test.YtbjogdohfhdaiaaCaDm
set_option linter.unusedSimpArgs false
set_option linter.unusedVariables false
set_option maxRecDepth 100000
set_option maxHeartbeats 4000000
namespace Go.Dc
open Go Go.Mx Go.Lx Go.Proofs
structure A4_Intu8 where
 a0:Int
 a1:Int
 a2:Int
 a3:Int
 deriving Inhabited,DecidableEq
def zaD:En A4_Intu8:=eM (λx=>(x.a0,x.a1,x.a2,x.a3)) (eP (eI .u8) (eP (eI .u8) (eP (eI .u8) (eI .u8))))
theorem zld(t:Bool)(x:A4_Intu8):zaD.c t x=[(dU8 x.a0),(dU8 x.a1),(dU8 x.a2),(dU8 x.a3)]:=rfl
structure S_haruspexref15_Draft where
 cards:(List Int)
 gates:(List A4_Intu8)
 big:Bool
 deriving Inhabited,DecidableEq
def zcf:En S_haruspexref15_Draft:=eM (λx=>(x.cards,x.gates,x.big)) (eP (eL (eI .u8)) (eP (eL zaD) eB))
structure A8_Intu8 where
 a0:Int
 a1:Int
 a2:Int
 a3:Int
 a4:Int
 a5:Int
 a6:Int
 a7:Int
 deriving Inhabited,DecidableEq
def zkA:En A8_Intu8:=eM (λx=>(x.a0,x.a1,x.a2,x.a3,x.a4,x.a5,x.a6,x.a7)) (eP (eI .u8) (eP (eI .u8) (eP (eI .u8) (eP (eI .u8) (eP (eI .u8) (eP (eI .u8) (eP (eI .u8) (eI .u8))))))))
structure S_api_Gate where
 kind:Int
 var:Int
 val:Int
 n:Int
 args:(List Int)
 deriving Inhabited,DecidableEq
def zab:En S_api_Gate:=eM (λx=>(x.kind,x.var,x.val,x.n,x.args)) (eP (eI .i64) (eP (eI .i64) (eP (eI .i64) (eP (eI .i64) (eL (eI .i64))))))
theorem zaE(t:Bool)(x:S_api_Gate):zab.c t x=[(dI x.kind),(dI x.var),(dI x.val),(dI x.n),(fzE t (eI .i64) x.args)]:=rfl
structure S_api_Circuit where
 cards:(List Int)
 gates:(List S_api_Gate)
 deriving Inhabited,DecidableEq
end Go.Dc
