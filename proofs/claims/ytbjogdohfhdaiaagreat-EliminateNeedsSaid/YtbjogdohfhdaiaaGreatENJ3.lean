/-
 What index_count computes. Conditions: none.
-/
import Derived.Test.YtbjogdohfhdaiaaGreatENJ1
import Derived.Test.YtbjogdohfhdaiaaGreatENDm
import Derived.Test.YtbjogdohfhdaiaaGreatENLy17
import Derived.Test.YtbjogdohfhdaiaaGreatENDt
set_option linter.unusedSimpArgs false
set_option linter.unusedVariables false
set_option maxRecDepth 100000
set_option maxHeartbeats 4000000
namespace Go.Dc
open Go Go.Mx Go.Lx Go.Proofs
def zdI(p0:(List Int)):Nat->Int->Int->Option (Int×Bool)
 | 0,_,_=>none
 | n+1,v2,v11=>(
bif (decide (v11<(p0.length:Int)))then(
(zaz p0 v11).bind λx3=>
((bif (decide (x3<1))then(
some true)
else(
bif (decide (8<x3))then(
some true)
else(
some (decide (4096<(w64 (v2 * x3)))))):Option Bool)).bind λv15=>
bif v15 then(
some (0,false))
else(
zdI p0 n (w64 (v2 * x3)) (w64 (v11+1))))
else(
some (v2,true)))
def zg4(p0:(List Int)):Option (Int×Bool):=
bif (decide (12<(p0.length:Int)))then(
some (0,false))
else(
((zdI p0 ((p0.length:Int) - 0+2:Int).toNat 1 0:Option ((Int×Bool)))).bind λo=>match o with
|(v2,v3)=>(
some (v2,v3)))
def zfN(p0:(List Int)):Option (Int×Int):=
(zg4 p0).bind λr1=>
bif r1.2 then(
some (r1.1,0))
else(
some (0,20))
def zdL(p0:S_api_Factor):Nat->Int->Int->Option (Out Unit (S_factor_table×Int))
 | 0,_,_=>none
 | n+1,v6,v42=>(
bif (decide (v42<(p0.vars.length:Int)))then(
(zaz p0.vars v42).bind λx7=>
((bif (decide (x7<=v6))then(
some true)
else(
some (decide (63<x7))):Option Bool)).bind λv52=>
bif v52 then(
some (.ret ((S_factor_table.mk (S_api_Factor.mk [] [] []) []),30)))
else(
zdL p0 n x7 (w64 (v42+1))))
else(
some (.go ())))
def zdE(p0:S_api_Factor):Nat->Int->Option (Out Unit (S_factor_table×Int))
 | 0,_=>none
 | n+1,v59=>(
bif (decide (v59<(p0.w.length:Int)))then(
(zaz p0.w v59).bind λx12=>
((bif (decide (x12<0))then(
some true)
else(
some (decide (4611686018427387903<x12))):Option Bool)).bind λv68=>
bif v68 then(
some (.ret ((S_factor_table.mk (S_api_Factor.mk [] [] []) []),30)))
else(
zdE p0 n (w64 (v59+1))))
else(
some (.go ())))
def zcT(p0:S_api_Factor):Nat->Int->Int->(List Int)->Option (List Int)
 | 0,_,_,_=>none
 | n+1,v12,v13,l2=>(
bif (decide (0<=v13))then(
(zaz l2 v13).bind λx19=>
(zeU l2 v13 v12).bind λy21=>
(zaz p0.zaK v13).bind λx23=>
zcT p0 n (w64 (v12 * x23)) (w64 (v13 - 1)) y21)
else(
some l2))
def zdj(p0:S_api_Factor):Option (S_factor_table×Int):=
(zfN p0.zaK).bind λr1=>
((bif (r1.2 == 0)then(
bif ((p0.vars.length:Int)==(p0.zaK.length:Int))then(
some (!((p0.w.length:Int)== r1.1)))
else(
some true))
else(
some true):Option Bool)).bind λv37=>
bif v37 then(
some ((S_factor_table.mk (S_api_Factor.mk [] [] []) []),30))
else(
((zdL p0 ((p0.vars.length:Int) - 0+2:Int).toNat (-1) 0:Option (Out Unit (S_factor_table×Int)))).bind λo=>match o with
| .go _=>(
((zdE p0 ((p0.w.length:Int) - 0+2:Int).toNat 0:Option (Out Unit (S_factor_table×Int)))).bind λo=>match o with
| .go _=>(
(zem 8 (p0.zaK.length:Int) 0).bind λy16=>
((zcT p0 ((w64 ((((Int.toNat (p0.zaK.length:Int)):Nat):Int) - 1)) - 0+2:Int).toNat 1 (w64 ((((Int.toNat (p0.zaK.length:Int)):Nat):Int) - 1)) y16:Option (List Int))).bind λl2=>
some ((S_factor_table.mk p0 l2),0))
| .ret r=>some r)
| .ret r=>some r)
def zbq(p0:(List Int))(p1:Int):Nat->Int->Option (Out Unit Int)
 | 0,_=>none
 | n+1,v8=>(
bif (decide (v8<(p0.length:Int)))then(
(zaz p0 v8).bind λx2=>
bif (p1 == x2)then(
some (.ret v8))
else(
zbq p0 p1 n (w64 (v8+1))))
else(
some (.go ())))
def zcl(p0:(List Int))(p1:Int):Option Int:=
((zbq p0 p1 ((p0.length:Int) - 0+2:Int).toNat 0:Option (Out Unit Int))).bind λo=>match o with
| .go _=>(
some (-1))
| .ret r=>some r
def zaZ(p0:S_factor_table)(p1:Int):Option Int:=
(zcl p0.factor.vars p1).bind λr1=>
some r1
def zqX(zaK steps:List Int):Nat->List Int->Int->Option (List Int×Int×Int)
 | 0,vals,a=>some (vals,a,-1)
 | k+1,vals,a=>(zaz vals (k:Int)).bind λv=>(zaz zaK (k:Int)).bind λc=>bif v == w64 (c - 1)then(zaz steps (k:Int)).bind λst=>(zeU vals (k:Int) 0).bind λvals'=>zqX zaK steps k vals' (w64 (a - w64 (v * st)))else some (vals,a,(k:Int))
def zCW(zaK steps:List Int):Nat->List Int->Int->Int->Option (List (Int×Int×List Int))
 | 0,_,_,_=>none
 | n+1,vals,i,a=>(zqX zaK steps zaK.length vals a).bind λr=>bif decide (r.2.2<0)then some [(i,a,vals)]else
   (zaz r.1 r.2.2).bind λv=>(zeU r.1 r.2.2 (w64 (v+1))).bind λvals'=>(zaz steps r.2.2).bind λst=>(zCW zaK steps n vals' (w64 (i+1)) (w64 (r.2.1+st))).map λl=>(i,a,vals):: l
def zCH(zaK steps:List Int):Option (List (Int×Int×List Int)):=(zgm zaK).bind λ_=>(zem 8 (zaK.length:Int) 0).bind λz=>zCW zaK steps ((zaK.foldl (· * ·) 1).toNat) z 0 0
def zbK(p1:(List Int))(p0:S_factor_table):Nat->Int->(List Int)->Option (List Int)
 | 0,_,_=>none
 | n+1,v14,l1=>(
bif (decide (v14<(p1.length:Int)))then(
(zaz p1 v14).bind λx4=>
(zaZ p0 x4).bind λr6=>
((bif (decide (0<=r6))then(
(zaz p0.steps r6).bind λx9=>
(zaz l1 v14).bind λx11=>
(zeU l1 v14 x9).bind λy13=>
some y13)
else(
some l1):Option (List Int))).bind λl1'=>
zbK p1 p0 n (w64 (v14+1)) l1')
else(
some l1))
def zcQ(p0:S_factor_table)(p1:(List Int)):Option (List Int):=
(zem 8 (p1.length:Int) 0).bind λy1=>
((zbK p1 p0 ((p1.length:Int) - 0+2:Int).toNat 0 y1:Option (List Int))).bind λl1=>
some l1
def zfD(p0:Int)(p1:Int):Option (Int×Bool):=
some ((w64 (p0+p1)),(decide ((w64 (p0+p1))<=4611686018427387903)))
def za3(p1:(List Int))(p0:S_factor_table):Nat->Int->Int->(List Int)->Option (Int×(List Int))
 | 0,_,_,_=>none
 | n+1,v9,v24,l3=>(
bif (decide (v24<(p1.length:Int)))then(
(zaz p1 v24).bind λx4=>
(zaZ p0 x4).bind λr6=>
(zaz p0.factor.zaK r6).bind λx8=>
(zaz l3 v24).bind λx10=>
(zeU l3 v24 x8).bind λy12=>
za3 p1 p0 n (w64 (v9 * x8)) (w64 (v24+1)) y12)
else(
some (v9,l3)))
def zaQ(p1:(List Int))(p0:S_factor_table)(l3:(List Int)):Nat->Int->Int->(List Int)->Option (List Int)
 | 0,_,_,_=>none
 | n+1,v14,v15,l6=>(
bif (decide (0<=v15))then(
(zaz p1 v15).bind λx19=>
(zaZ p0 x19).bind λr21=>
(zaz l6 r21).bind λx23=>
(zeU l6 r21 v14).bind λy25=>
(zaz l3 v15).bind λx27=>
zaQ p1 p0 l3 n (w64 (v14 * x27)) (w64 (v15 - 1)) y25)
else(
some l6))
def za2(p0:S_factor_table)(v9:Int):List (Int×Int×(List Int))->(List Int)->Option (Out3 (List Int) (List Int) Empty)
 | [],l4=>some (.go l4)
 | y33 :: ys,l4=>(
(zaz l4 y33.2.1).bind λx34=>
(zaz p0.factor.w y33.1).bind λx36=>
(zfD x34 x36).bind λr38=>
(zeU l4 y33.2.1 r38.1).bind λy40=>
bif r38.2 then(
za2 p0 v9 ys y40)
else(
some (.brk y40)))
def zb2(p0:S_factor_table)(p1:(List Int)):Option (S_api_Factor×Int):=
(zem 8 (p1.length:Int) 0).bind λy1=>
((za3 p1 p0 ((p1.length:Int) - 0+2:Int).toNat 1 0 y1:Option ((Int×(List Int))))).bind λo=>match o with
|(v9,l3)=>(
(zem 8 v9 0).bind λy14=>
(zem 8 (p0.factor.vars.length:Int) 0).bind λy16=>
((zaQ p1 p0 l3 ((w64 ((p1.length:Int) - 1)) - 0+2:Int).toNat 1 (w64 ((p1.length:Int) - 1)) y16:Option (List Int))).bind λl6=>
(zdZ p0.factor.zaK l6).bind λr29=>
(((zCH r29.1 r29.2).bind λu31=>
((za2 p0 v9 u31 y14:Option (Out3 (List Int) (List Int) Empty))).bind λo=>match o with
| .go l4=>(
some (true,l4))
| .brk l4=>(
some (false,l4))
| .ret r=>nomatch r:Option ((Bool×(List Int))))).bind λo=>match o with
|(b7_0,l4)=>(
bif b7_0 then(
some ((S_api_Factor.mk p1 l3 l4),0))
else(
some ((S_api_Factor.mk [] [] []),6))))
def ze2(p0:S_api_Factor)(p1:Int):Option (S_api_Factor×Int):=
(zdj p0).bind λr1=>
bif (r1.2 == 0)then(
(zaZ r1.1 p1).bind λr4=>
bif (decide (r4<0))then(
some ((S_api_Factor.mk [] [] []),4))
else(
(zfW 8 r1.1.factor.vars).bind λy7=>
(zAr y7 r4 (w64 (r4+1))).bind λy9=>
(zb2 r1.1 y9).bind λr11=>
some (r11.1,r11.2)))
else(
some ((S_api_Factor.mk [] [] []),r1.2))
def zdk(p0:S_api_Factor)(p1:Int):Option (S_api_Factor×Int):=
(ze2 p0 p1).bind λr1=>
some (r1.1,r1.2)
end Go.Dc
