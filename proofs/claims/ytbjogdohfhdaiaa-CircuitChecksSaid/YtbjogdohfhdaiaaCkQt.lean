/-
 Types of values, and how they lie in cells. Conditions: none.
-/
import Derived.Test.YtbjogdohfhdaiaaCkDm
set_option linter.unusedSimpArgs false
set_option linter.unusedVariables false
set_option maxRecDepth 100000
set_option maxHeartbeats 4000000
namespace Go.Dc
open Go Go.Mx Go.Lx Go.Proofs
structure A4_Intu8 where
 a0:Int
 a1:Int
 a2:Int
 a3:Int
 deriving Inhabited,DecidableEq
def zaF:En A4_Intu8:=eM (λx=>(x.a0,x.a1,x.a2,x.a3)) (eP (eI .u8) (eP (eI .u8) (eP (eI .u8) (eI .u8))))
theorem zeZ(t:Bool)(x:A4_Intu8):zaF.c t x=[(dU8 x.a0),(dU8 x.a1),(dU8 x.a2),(dU8 x.a3)]:=rfl
structure S_haruspexref15_Draft where
 cards:(List Int)
 gates:(List A4_Intu8)
 big:Bool
 deriving Inhabited,DecidableEq
def zbP:En S_haruspexref15_Draft:=eM (λx=>(x.cards,x.gates,x.big)) (eP (eL (eI .u8)) (eP (eL zaF) eB))
theorem zci(t:Bool)(x:S_haruspexref15_Draft):zbP.c t x=[(fzE t (eI .u8) x.cards),(fzE t zaF x.gates),(dB x.big)]:=rfl
structure S_haruspexref15_Bend where
 what:Int
 at_:Int
 n:Int
 deriving Inhabited,DecidableEq
def zbY:En S_haruspexref15_Bend:=eM (λx=>(x.what,x.at_,x.n)) (eP (eI .u8) (eP (eI .u8) (eI .i64)))
structure A2_S_haruspexref15_Bend where
 a0:S_haruspexref15_Bend
 a1:S_haruspexref15_Bend
 deriving Inhabited,DecidableEq
def zbw:En A2_S_haruspexref15_Bend:=eM (λx=>(x.a0,x.a1)) (eP zbY zbY)
theorem zb7(t:Bool)(x:A2_S_haruspexref15_Bend):zbw.c t x=[(dU8 x.a0.what),(dU8 x.a0.at_),(dI x.a0.n),(dU8 x.a1.what),(dU8 x.a1.at_),(dI x.a1.n)]:=rfl
structure S_api_Gate where
 kind:Int
 var:Int
 val:Int
 n:Int
 args:(List Int)
 deriving Inhabited,DecidableEq
def zaa:En S_api_Gate:=eM (λx=>(x.kind,x.var,x.val,x.n,x.args)) (eP (eI .i64) (eP (eI .i64) (eP (eI .i64) (eP (eI .i64) (eL (eI .i64))))))
theorem zal(t:Bool)(x:S_api_Gate):zaa.c t x=[(dI x.kind),(dI x.var),(dI x.val),(dI x.n),(fzE t (eI .i64) x.args)]:=rfl
structure S_api_Circuit where
 cards:(List Int)
 gates:(List S_api_Gate)
 deriving Inhabited,DecidableEq
def za1:En S_api_Circuit:=eM (λx=>(x.cards,x.gates)) (eP (eL (eI .i64)) (eL zaa))
theorem zdV(t:Bool)(x:S_api_Circuit):za1.c t x=[(fzE t (eI .i64) x.cards),(fzE t zaa x.gates)]:=rfl
structure A4_S_api_Circuit where
 a0:S_api_Circuit
 a1:S_api_Circuit
 a2:S_api_Circuit
 a3:S_api_Circuit
 deriving Inhabited,DecidableEq
def zf7:En A4_S_api_Circuit:=eM (λx=>(x.a0,x.a1,x.a2,x.a3)) (eP za1 (eP za1 (eP za1 za1)))
theorem zcZ(t:Bool)(x:A4_S_api_Circuit):zf7.c t x=[(fzE t (eI .i64) x.a0.cards),(fzE t zaa x.a0.gates),(fzE t (eI .i64) x.a1.cards),(fzE t zaa x.a1.gates),(fzE t (eI .i64) x.a2.cards),(fzE t zaa x.a2.gates),(fzE t (eI .i64) x.a3.cards),(fzE t zaa x.a3.gates)]:=rfl
end Go.Dc
