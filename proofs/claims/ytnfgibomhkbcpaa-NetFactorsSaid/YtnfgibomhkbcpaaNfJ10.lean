/-
 What r02_Right computes. Conditions: none.
-/
import Derived.Test.YtnfgibomhkbcpaaNfJ7
set_option linter.unusedSimpArgs false
set_option linter.unusedVariables false
set_option maxRecDepth 100000
set_option maxHeartbeats 4000000
namespace Go.Dc
open Go Go.Mx Go.Lx Go.Proofs
def za9(p0:S_haruspexref03_Draft):Nat→Int→(List Int)→(List Int)→Option ((List Int)×(List Int))
 | 0,_,_,_=>none
 | n+1,v5,l4,l5=>(
bif (decide (v5<5))then(
(zla .u8 p0.which (IntKind.u64.wrap v5)).bind fun q2=>
((bif ((zo1 .u8 q2 1)== 1)then(
(zcW 8 l4 [v5]).bind fun y5=>
(zaP [2,3,1,2,2] v5).bind fun x7=>
(zcW 8 l5 [x7]).bind fun y9=>
some (y5,y9))
else(
some (l4,l5)):Option (((List Int)×(List Int))))).bind fun o=>match o with
|(l4',l5')=>(
za9 p0 n (w64 (v5+1)) l4' l5'))
else(
some (l4,l5)))
def zbb(l5:(List Int))(p0:S_haruspexref03_Draft)(v6:Int):Nat→Int→(List Int)→Option (List Int)
 | 0,_,_=>none
 | n+1,v7,l6=>(
(zcq l5).bind fun r12=>
bif (decide (v7<r12))then(
((bif (decide (0<(p0.n.length:Int)))then(
(zoO v7 (p0.n.length:Int)).bind fun q16=>
(zaP p0.n q16).bind fun x18=>
some (w64 (x18.tmod 10)))
else(
some 1):Option Int)).bind fun v8=>
(zcW 8 l6 [(w64 (v8 * v6))]).bind fun y20=>
zbb l5 p0 v6 n (w64 (v7+1)) y20)
else(
some l6))
def zc3(N:Nat)(p0:S_haruspexref03_Draft):Option S_api_Factor:=
((za9 p0 (5 - 0+2:Int).toNat 0 [] []:Option (((List Int)×(List Int))))).bind fun o=>match o with
|(l4,l5)=>(
((bif p0.large then(
some (1000000000000000,true))
else(
some (1,false)):Option ((Int×Bool)))).bind fun o=>match o with
|(v6,b0_2)=>(
((zbb l5 p0 v6 N 0 []:Option (List Int))).bind fun l6=>
some (S_api_Factor.mk l4 l5 l6)))
end Go.Dc
