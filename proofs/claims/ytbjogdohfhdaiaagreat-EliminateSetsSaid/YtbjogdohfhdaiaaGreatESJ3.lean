/-
 What index_count computes. Conditions: none.
-/
import Derived.Test.YtbjogdohfhdaiaaGreatESJ1
import Derived.Test.YtbjogdohfhdaiaaGreatESDm
import Derived.Test.YtbjogdohfhdaiaaGreatESDcP
import Derived.Test.YtbjogdohfhdaiaaGreatESDc1
import Derived.Test.YtbjogdohfhdaiaaGreatESLy16
set_option linter.unusedSimpArgs false
set_option linter.unusedVariables false
set_option maxRecDepth 100000
set_option maxHeartbeats 4000000
namespace Go.Dc
open Go Go.Mx Go.Lx Go.Proofs
def zc6(p0:(List Int)):Nat→Int→Int→Option (Int×Bool)
 | 0,_,_=>none
 | n+1,v2,v11=>(
bif (decide (v11<(p0.length:Int)))then(
(za3 p0 v11).bind fun x3=>
((bif (decide (x3<1))then(
some true)
else(
bif (decide (8<x3))then(
some true)
else(
some (decide (4096<(w64 (v2 * x3)))))):Option Bool)).bind fun v15=>
bif v15 then(
some (0,false))
else(
zc6 p0 n (w64 (v2 * x3)) (w64 (v11+1))))
else(
some (v2,true)))
def zf2(p0:(List Int)):Option (Int×Bool):=
bif (decide (12<(p0.length:Int)))then(
some (0,false))
else(
((zc6 p0 ((p0.length:Int) - 0+2:Int).toNat 1 0:Option ((Int×Bool)))).bind fun o=>match o with
|(v2,v3)=>(
some (v2,v3)))
def zfd(p0:(List Int)):Option (Int×Int):=
(zf2 p0).bind fun r1=>
bif r1.2 then(
some (r1.1,0))
else(
some (0,20))
def zdc(p0:S_api_Factor):Nat→Int→Int→Option (Out Unit (S_factor_table×Int))
 | 0,_,_=>none
 | n+1,v6,v42=>(
bif (decide (v42<(p0.vars.length:Int)))then(
(za3 p0.vars v42).bind fun x7=>
((bif (decide (x7≤v6))then(
some true)
else(
some (decide (63<x7))):Option Bool)).bind fun v52=>
bif v52 then(
some (.ret ((S_factor_table.mk (S_api_Factor.mk [] [] []) []),30)))
else(
zdc p0 n x7 (w64 (v42+1))))
else(
some (.go ())))
def zda(p0:S_api_Factor):Nat→Int→Option (Out Unit (S_factor_table×Int))
 | 0,_=>none
 | n+1,v59=>(
bif (decide (v59<(p0.w.length:Int)))then(
(za3 p0.w v59).bind fun x12=>
((bif (decide (x12<0))then(
some true)
else(
some (decide (4611686018427387903<x12))):Option Bool)).bind fun v68=>
bif v68 then(
some (.ret ((S_factor_table.mk (S_api_Factor.mk [] [] []) []),30)))
else(
zda p0 n (w64 (v59+1))))
else(
some (.go ())))
def zcg(p0:S_api_Factor):Nat→Int→Int→(List Int)→Option (List Int)
 | 0,_,_,_=>none
 | n+1,v12,v13,l2=>(
bif (decide (0≤v13))then(
(za3 l2 v13).bind fun x19=>
(zfo l2 v13 v12).bind fun y21=>
(za3 p0.zay v13).bind fun x23=>
zcg p0 n (w64 (v12 * x23)) (w64 (v13 - 1)) y21)
else(
some l2))
def zcO(p0:S_api_Factor):Option (S_factor_table×Int):=
(zfd p0.zay).bind fun r1=>
((bif (r1.2 == 0)then(
bif ((p0.vars.length:Int)==(p0.zay.length:Int))then(
some (!((p0.w.length:Int)== r1.1)))
else(
some true))
else(
some true):Option Bool)).bind fun v37=>
bif v37 then(
some ((S_factor_table.mk (S_api_Factor.mk [] [] []) []),30))
else(
((zdc p0 ((p0.vars.length:Int) - 0+2:Int).toNat (-1) 0:Option (Out Unit (S_factor_table×Int)))).bind fun o=>match o with
| .go _=>(
((zda p0 ((p0.w.length:Int) - 0+2:Int).toNat 0:Option (Out Unit (S_factor_table×Int)))).bind fun o=>match o with
| .go _=>(
(zen 8 (p0.zay.length:Int) 0).bind fun y16=>
((zcg p0 ((w64 ((((Int.toNat (p0.zay.length:Int)):Nat):Int) - 1)) - 0+2:Int).toNat 1 (w64 ((((Int.toNat (p0.zay.length:Int)):Nat):Int) - 1)) y16:Option (List Int))).bind fun l2=>
some ((S_factor_table.mk p0 l2),0))
| .ret r=>some r)
| .ret r=>some r)
def zbk(p0:(List Int))(p1:Int):Nat→Int→Option (Out Unit Int)
 | 0,_=>none
 | n+1,v8=>(
bif (decide (v8<(p0.length:Int)))then(
(za3 p0 v8).bind fun x2=>
bif (p1 == x2)then(
some (.ret v8))
else(
zbk p0 p1 n (w64 (v8+1))))
else(
some (.go ())))
def zbT(p0:(List Int))(p1:Int):Option Int:=
((zbk p0 p1 ((p0.length:Int) - 0+2:Int).toNat 0:Option (Out Unit Int))).bind fun o=>match o with
| .go _=>(
some (-1))
| .ret r=>some r
def zaQ(p0:S_factor_table)(p1:Int):Option Int:=
(zbT p0.factor.vars p1).bind fun r1=>
some r1
def zo0(zay steps:List Int):Nat→List Int→Int→Option (List Int×Int×Int)
 | 0,vals,a=>some (vals,a,-1)
 | k+1,vals,a=>(za3 vals (k:Int)).bind fun v=>(za3 zay (k:Int)).bind fun c=>bif v == w64 (c - 1)then(za3 steps (k:Int)).bind fun st=>(zfo vals (k:Int) 0).bind fun vals'=>zo0 zay steps k vals' (w64 (a - w64 (v * st)))else some (vals,a,(k:Int))
def zz7(zay steps:List Int):Nat→List Int→Int→Int→Option (List (Int×Int×List Int))
 | 0,_,_,_=>none
 | n+1,vals,i,a=>(zo0 zay steps zay.length vals a).bind fun r=>bif decide (r.2.2<0)then some [(i,a,vals)]else
   (za3 r.1 r.2.2).bind fun v=>(zfo r.1 r.2.2 (w64 (v+1))).bind fun vals'=>(za3 steps r.2.2).bind fun st=>(zz7 zay steps n vals' (w64 (i+1)) (w64 (r.2.1+st))).map fun l=>(i,a,vals):: l
def zz4(zay steps:List Int):Option (List (Int×Int×List Int)):=(zhf zay).bind fun _=>(zen 8 (zay.length:Int) 0).bind fun z=>zz7 zay steps ((zay.foldl (· * ·) 1).toNat) z 0 0
def zbq(p1:(List Int))(p0:S_factor_table):Nat→Int→(List Int)→Option (List Int)
 | 0,_,_=>none
 | n+1,v14,l1=>(
bif (decide (v14<(p1.length:Int)))then(
(za3 p1 v14).bind fun x4=>
(zaQ p0 x4).bind fun r6=>
((bif (decide (0≤r6))then(
(za3 p0.steps r6).bind fun x9=>
(za3 l1 v14).bind fun x11=>
(zfo l1 v14 x9).bind fun y13=>
some y13)
else(
some l1):Option (List Int))).bind fun l1'=>
zbq p1 p0 n (w64 (v14+1)) l1')
else(
some l1))
def zcb(p0:S_factor_table)(p1:(List Int)):Option (List Int):=
(zen 8 (p1.length:Int) 0).bind fun y1=>
((zbq p1 p0 ((p1.length:Int) - 0+2:Int).toNat 0 y1:Option (List Int))).bind fun l1=>
some l1
end Go.Dc
set_option maxRecDepth 100000
set_option maxHeartbeats 4000000
namespace Go.Dc
open Go Go.Mx Go.Lx Go.Proofs
def zeO(p0:Int)(p1:Int):Option (Int×Bool):=
some ((w64 (p0+p1)),(decide ((w64 (p0+p1))≤4611686018427387903)))
def zaV(p1:(List Int))(p0:S_factor_table):Nat→Int→Int→(List Int)→Option (Int×(List Int))
 | 0,_,_,_=>none
 | n+1,v9,v24,l3=>(
bif (decide (v24<(p1.length:Int)))then(
(za3 p1 v24).bind fun x4=>
(zaQ p0 x4).bind fun r6=>
(za3 p0.factor.zay r6).bind fun x8=>
(za3 l3 v24).bind fun x10=>
(zfo l3 v24 x8).bind fun y12=>
zaV p1 p0 n (w64 (v9 * x8)) (w64 (v24+1)) y12)
else(
some (v9,l3)))
def zaF(p1:(List Int))(p0:S_factor_table)(l3:(List Int)):Nat→Int→Int→(List Int)→Option (List Int)
 | 0,_,_,_=>none
 | n+1,v14,v15,l6=>(
bif (decide (0≤v15))then(
(za3 p1 v15).bind fun x19=>
(zaQ p0 x19).bind fun r21=>
(za3 l6 r21).bind fun x23=>
(zfo l6 r21 v14).bind fun y25=>
(za3 l3 v15).bind fun x27=>
zaF p1 p0 l3 n (w64 (v14 * x27)) (w64 (v15 - 1)) y25)
else(
some l6))
def zaU(p0:S_factor_table)(v9:Int):List (Int×Int×(List Int))→(List Int)→Option (Out3 (List Int) (List Int) Empty)
 | [],l4=>some (.go l4)
 | y33 :: ys,l4=>(
(za3 l4 y33.2.1).bind fun x34=>
(za3 p0.factor.w y33.1).bind fun x36=>
(zeO x34 x36).bind fun r38=>
(zfo l4 y33.2.1 r38.1).bind fun y40=>
bif r38.2 then(
zaU p0 v9 ys y40)
else(
some (.brk y40)))
def zbG(p0:S_factor_table)(p1:(List Int)):Option (S_api_Factor×Int):=
(zen 8 (p1.length:Int) 0).bind fun y1=>
((zaV p1 p0 ((p1.length:Int) - 0+2:Int).toNat 1 0 y1:Option ((Int×(List Int))))).bind fun o=>match o with
|(v9,l3)=>(
(zen 8 v9 0).bind fun y14=>
(zen 8 (p0.factor.vars.length:Int) 0).bind fun y16=>
((zaF p1 p0 l3 ((w64 ((p1.length:Int) - 1)) - 0+2:Int).toNat 1 (w64 ((p1.length:Int) - 1)) y16:Option (List Int))).bind fun l6=>
(zdm p0.factor.zay l6).bind fun r29=>
(((zz4 r29.1 r29.2).bind fun u31=>
((zaU p0 v9 u31 y14:Option (Out3 (List Int) (List Int) Empty))).bind fun o=>match o with
| .go l4=>(
some (true,l4))
| .brk l4=>(
some (false,l4))
| .ret r=>nomatch r:Option ((Bool×(List Int))))).bind fun o=>match o with
|(b7_0,l4)=>(
bif b7_0 then(
some ((S_api_Factor.mk p1 l3 l4),0))
else(
some ((S_api_Factor.mk [] [] []),6))))
def zef(p0:S_api_Factor)(p1:Int):Option (S_api_Factor×Int):=
(zcO p0).bind fun r1=>
bif (r1.2 == 0)then(
(zaQ r1.1 p1).bind fun r4=>
bif (decide (r4<0))then(
some ((S_api_Factor.mk [] [] []),4))
else(
(ze3 8 r1.1.factor.vars).bind fun y7=>
(zx1 y7 r4 (w64 (r4+1))).bind fun y9=>
(zbG r1.1 y9).bind fun r11=>
some (r11.1,r11.2)))
else(
some ((S_api_Factor.mk [] [] []),r1.2))
def zcI(p0:S_api_Factor)(p1:Int):Option (S_api_Factor×Int):=
(zef p0 p1).bind fun r1=>
some (r1.1,r1.2)
end Go.Dc
