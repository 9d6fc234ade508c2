/-
 What index_count computes. Conditions: none.
-/
import Derived.Test.YtbjogdohfhdaiaaGreatETJ1
import Derived.Test.YtbjogdohfhdaiaaGreatETLi
import Derived.Test.YtbjogdohfhdaiaaGreatETLy18
import Derived.Test.YtbjogdohfhdaiaaGreatETDt
set_option linter.unusedSimpArgs false
set_option linter.unusedVariables false
set_option maxRecDepth 100000
set_option maxHeartbeats 4000000
namespace Go.Dc
open Go Go.Mx Go.Lx Go.Proofs
def zcr(p0:(List Int)):Nat->Int->Int->Option (Int×Bool)
 | 0,_,_=>none
 | n+1,v2,v11=>(
bif (decide (v11<(p0.length:Int)))then(
(zaO p0 v11).bind λx3=>
((bif (decide (x3<1))then(
some true)
else(
bif (decide (8<x3))then(
some true)
else(
some (decide (4096<(w64 (v2 * x3)))))):Option Bool)).bind λv15=>
bif v15 then(
some (0,false))
else(
zcr p0 n (w64 (v2 * x3)) (w64 (v11+1))))
else(
some (v2,true)))
def zes(p0:(List Int)):Option (Int×Bool):=
bif (decide (12<(p0.length:Int)))then(
some (0,false))
else(
((zcr p0 ((p0.length:Int) - 0+2:Int).toNat 1 0:Option ((Int×Bool)))).bind λo=>match o with
|(v2,v3)=>(
some (v2,v3)))
theorem zkm{p0:(List Int)}{r:(Int×Bool)}(h:zes p0=some r):Lx.Fn mC 89 [(fzE false (eI .i64) p0)] (.tup [(dI r.1),(dB r.2)]):=by
 refine gnO ?_;unfold zes at h;refine wSM ?_;refine EvL.scope (zag ?_);refine sSM ?_;refine cBM h (λ_ h=>?_) λ_ h=>?_
 .obtain⟨o12,j12,h⟩:=bsM h;obtain⟨T12,hT12⟩:=mkT λa:(Int×Bool)=>⟨30,[(2,(dI a.1)),(3,(dB a.2))],[]⟩
  refine EvL.jn T12 (λa=>a=o12) ?_ ?_
  .refine wSM ?_;obtain⟨T15,hT15⟩:=mkT λa:(Int×Int)=>⟨30,[(2,(dI a.1)),(3,(dB true)),(9,(fzE false (eI .i64) p0)),(10,(dI (p0.length:Int))),(11,(dI a.2))],[]⟩
   refine rdM hT15 (λn a=>zcr p0 n a.1 a.2=some o12) (1,0) j12 ?_;rintro n ⟨v2,v11⟩ j12;simp only[zcr]at j12;refine wTM hT15 ?_;refine cBM j12 (λ_ j12=>?_) λ_ j12=>?_
   .exact zef j12 hT12
   obtain⟨x3,g4,j12⟩:=bsM j12;refine sXM (ixM g4) ?_;obtain⟨o16,j16,j12⟩:=bsM j12;obtain⟨T16,hT16⟩:=zey hT15 λa:Bool=>uDM (T15 (v2,v11)) [] [(5,(dI x3)),(15,(dB a))] [] []
   refine EvL.jn T16 _ (bJM j16 hT16) ?_;rintro v15 rfl;refine wTM hT16 ?_;refine cBM j12 (λ_ j12=>?_) λ_ j12=>?_
   .exact zda hT15 ((w64 (v2 * x3)),(w64 (v11+1))) j12
   exact zef j12 hT12
  rintro⟨v2,v3⟩ rfl;dsimp only at h;refine wTM hT12 ?_;exact rHM h
 exact rHM h
def zce(p0:(List Int)):Option (Int×Int):=
(zes p0).bind λr1=>
bif r1.2 then(
some (r1.1,0))
else(
some (0,20))
theorem zfA{p0:(List Int)}{r:(Int×Int)}(h:zce p0=some r):Lx.Fn mC 60 [(fzE false (eI .i64) p0)] (.tup [(dI r.1),(dI r.2)]):=by
 refine gnO ?_;unfold zce at h;refine zag ?_;obtain⟨r1,g2,h⟩:=bsM h;refine sSM ?_;refine fCM (zkm g2) ?_;refine cBM h (λ_ h=>?_) λ_ h=>?_
 .exact rHM h
 exact rHM h
def zct(p0:S_api_Factor):Nat->Int->Int->Option (Out Unit (S_factor_table×Int))
 | 0,_,_=>none
 | n+1,v6,v42=>(
bif (decide (v42<(p0.vars.length:Int)))then(
(zaO p0.vars v42).bind λx7=>
((bif (decide (x7<=v6))then(
some true)
else(
some (decide (63<x7))):Option Bool)).bind λv52=>
bif v52 then(
some (.ret ((S_factor_table.mk (S_api_Factor.mk [] [] []) []),30)))
else(
zct p0 n x7 (w64 (v42+1))))
else(
some (.go ())))
def zcs(p0:S_api_Factor):Nat->Int->Option (Out Unit (S_factor_table×Int))
 | 0,_=>none
 | n+1,v59=>(
bif (decide (v59<(p0.w.length:Int)))then(
(zaO p0.w v59).bind λx12=>
((bif (decide (x12<0))then(
some true)
else(
some (decide (4611686018427387903<x12))):Option Bool)).bind λv68=>
bif v68 then(
some (.ret ((S_factor_table.mk (S_api_Factor.mk [] [] []) []),30)))
else(
zcs p0 n (w64 (v59+1))))
else(
some (.go ())))
def zbV(p0:S_api_Factor):Nat->Int->Int->(List Int)->Option (List Int)
 | 0,_,_,_=>none
 | n+1,v12,v13,l2=>(
bif (decide (0<=v13))then(
(zaO l2 v13).bind λx19=>
(ze5 l2 v13 v12).bind λy21=>
(zaO p0.zae v13).bind λx23=>
zbV p0 n (w64 (v12 * x23)) (w64 (v13 - 1)) y21)
else(
some l2))
def zbF(p0:S_api_Factor):Option (S_factor_table×Int):=
(zce p0.zae).bind λr1=>
((bif (r1.2 == 0)then(
bif ((p0.vars.length:Int)==(p0.zae.length:Int))then(
some (!((p0.w.length:Int)== r1.1)))
else(
some true))
else(
some true):Option Bool)).bind λv37=>
bif v37 then(
some ((S_factor_table.mk (S_api_Factor.mk [] [] []) []),30))
else(
((zct p0 ((p0.vars.length:Int) - 0+2:Int).toNat (-1) 0:Option (Out Unit (S_factor_table×Int)))).bind λo=>match o with
| .go _=>(
((zcs p0 ((p0.w.length:Int) - 0+2:Int).toNat 0:Option (Out Unit (S_factor_table×Int)))).bind λo=>match o with
| .go _=>(
(zeh 8 (p0.zae.length:Int) 0).bind λy16=>
((zbV p0 ((w64 ((((Int.toNat (p0.zae.length:Int)):Nat):Int) - 1)) - 0+2:Int).toNat 1 (w64 ((((Int.toNat (p0.zae.length:Int)):Nat):Int) - 1)) y16:Option (List Int))).bind λl2=>
some ((S_factor_table.mk p0 l2),0))
| .ret r=>some r)
| .ret r=>some r)
variable{p0:S_api_Factor}
theorem zdZ{r:(S_factor_table×Int)}(h:zbF p0=some r):Lx.FnA mC 93 [(.agg [(fzE false (eI .i64) p0.vars),(fzE false (eI .i64) p0.zae),(fzE false (eI .i64) p0.w)])] (.tup [(.agg [(fzE false (eI .i64) r.1.factor.vars),(fzE false (eI .i64) r.1.factor.zae),(fzE false (eI .i64) r.1.factor.w),(fzE false (eI .i64) r.1.steps)]),(dI r.2)]):=by
 refine zzO ?_;unfold zbF at h;refine zag ?_;obtain⟨r1,g2,h⟩:=bsM h;refine sSM ?_;refine fCM (zfA g2) ?_;obtain⟨o1,j1,h⟩:=bsM h;obtain⟨T1,hT1⟩:=mkT λa:Bool=>⟨96,[(1,(.ptr 0 0)),(2,(.ptr 1 0)),(37,(dB a))],[.cells [(fzE false (eI .i64) p0.vars),(fzE false (eI .i64) p0.zae),(fzE false (eI .i64) p0.w)],.cells [zbU,zbU,zbU,zbU]]⟩
 refine EvL.jn T1 _ (bJM j1 hT1) ?_;rintro v37 rfl;refine wTM hT1 ?_;refine cBM h (λ_ h=>?_) λ_ h=>?_
 .obtain⟨o5,j5,h⟩:=bsM h;obtain⟨T5,hT5⟩:=zey hT1 λa:Unit=>uDM (T1 v37) [37] [] [] []
  refine EvL.jn T5 (λa=>o5=.go a) ?_ ?_
  .refine wSM ?_;obtain⟨T8,hT8⟩:=zey hT1 λa:(Int×Int)=>uDM (T1 v37) [37] [(6,(dI a.1)),(40,(fzE false (eI .i64) p0.vars)),(41,(dI (p0.vars.length:Int))),(42,(dI a.2))] [] []
   refine rdM hT8 (λn a=>zct p0 n a.1 a.2=some o5) ((-1),0) j5 ?_;rintro n ⟨v6,v42⟩ j5;simp only[zct]at j5;refine wTM hT8 ?_;refine cBM j5 (λ_ j5=>?_) λ_ j5=>?_
   .exact zsg j5 hT5
   obtain⟨x7,g8,j5⟩:=bsM j5;refine sXM (ixM g8) ?_;obtain⟨o9,j9,j5⟩:=bsM j5;obtain⟨T9,hT9⟩:=zey hT8 λa:Bool=>uDM (T8 (v6,v42)) [6] [(8,(dI x7)),(52,(dB a))] [] []
   refine EvL.jn T9 _ (bJM j9 hT9) ?_;rintro v52 rfl;refine wTM hT9 ?_;refine cBM j5 (λ_ j5=>?_) λ_ j5=>?_
   .exact zda hT8 (x7,(w64 (v42+1))) j5
   obtain rfl:=qaj j5;exact rHM h
  rintro⟨⟩ rfl;dsimp only at h;refine wTM hT5 ?_;obtain⟨o13,j13,h⟩:=bsM h;obtain⟨T13,hT13⟩:=zey hT5 λa:Unit=>uDM (T5 ()) [] [] [] []
  refine EvL.jn T13 (λa=>o13=.go a) ?_ ?_
  .refine wSM ?_;obtain⟨T16,hT16⟩:=zey hT5 λa:Int=>uDM (T5 ()) [] [(57,(fzE false (eI .i64) p0.w)),(58,(dI (p0.w.length:Int))),(59,(dI a))] [] []
   refine rdM hT16 (λn a=>zcs p0 n a=some o13) 0 j13 ?_;rintro n v59 j13;simp only[zcs]at j13;refine wTM hT16 ?_;refine cBM j13 (λ_ j13=>?_) λ_ j13=>?_
   .exact zsg j13 hT13
   obtain⟨x12,g13,j13⟩:=bsM j13;refine sXM (ixM g13) ?_;obtain⟨o17,j17,j13⟩:=bsM j13;obtain⟨T17,hT17⟩:=zey hT16 λa:Bool=>uDM (T16 v59) [] [(68,(dB a))] [] []
   refine EvL.jn T17 _ (bJM j17 hT17) ?_;rintro v68 rfl;refine wTM hT17 ?_;refine cBM j13 (λ_ j13=>?_) λ_ j13=>?_
   .exact zda hT16 (w64 (v59+1)) j13
   obtain rfl:=qaj j13;exact rHM h
  rintro⟨⟩ rfl;dsimp only at h;refine wTM hT13 ?_;obtain⟨y16,g17,h⟩:=bsM h;refine sXM (anM ((zav g17).1.1) (anM ((zav g17).1.2) (anM @qbU (anM (miM g17) (zbp g17))))) ?_;obtain⟨o18,j18,h⟩:=bsM h;obtain⟨T18,hT18⟩:=zey hT5 λa:(List Int)=>uDM (T5 ()) [] [(11,(.sl 2 0 1 (Int.toNat (p0.zae.length:Int)) (some (Int.toNat (p0.zae.length:Int))) (Int.toNat (p0.zae.length:Int))))] [] [.els 1 (a.map ((eI .i64).c true))]
  refine EvL.jn T18 (λa=>a=o18/\a.length=(Int.toNat (p0.zae.length:Int))) ?_ ?_
  .refine wSM ?_;obtain⟨T19,hT19⟩:=zey hT5 λa:(Int×Int×(List Int))=>uDM (T5 ()) [] [(11,(.sl 2 0 1 (Int.toNat (p0.zae.length:Int)) (some (Int.toNat (p0.zae.length:Int))) (Int.toNat (p0.zae.length:Int)))),(12,(dI a.1)),(13,(dI a.2.1))] [] [.els 1 (a.2.2.map ((eI .i64).c true))]
   refine rdM hT19 (λn a=>zbV p0 n a.1 a.2.1 a.2.2=some o18/\a.2.2.length=(Int.toNat (p0.zae.length:Int))) (1,(w64 ((((Int.toNat (p0.zae.length:Int)):Nat):Int) - 1)),y16) ⟨j18,zbp g17⟩ ?_;rintro n ⟨v12,v13,l2⟩ ⟨j18,el2⟩;simp only[zbV]at j18;refine wTM hT19 ?_;refine cBM j18 (λ_ j18=>?_) λ_ j18=>?_
   .obtain rfl:=qaj j18;exact zda hT18 _ ⟨rfl,el2⟩
   obtain⟨x19,g20,j18⟩:=bsM j18;obtain⟨y21,g22,j18⟩:=bsM j18;obtain⟨x23,g24,j18⟩:=bsM j18;refine sXM (anM el2 (anM (za4 g20) (anM (ltM el2 g20) (anM (giM g20) (anM (siM g22) (ixM g24)))))) ?_;exact zda hT19 ((w64 (v12 * x23)),(w64 (v13 - 1)),y21) ⟨j18,(zaZ g22).trans el2⟩
  rintro l2 ⟨rfl,el2⟩;refine wTM hT18 ?_;exact rHM h
 exact rHM h
def zaY(p0:(List Int))(p1:Int):Nat->Int->Option (Out Unit Int)
 | 0,_=>none
 | n+1,v8=>(
bif (decide (v8<(p0.length:Int)))then(
(zaO p0 v8).bind λx2=>
bif (p1 == x2)then(
some (.ret v8))
else(
zaY p0 p1 n (w64 (v8+1))))
else(
some (.go ())))
def zbq(p0:(List Int))(p1:Int):Option Int:=
((zaY p0 p1 ((p0.length:Int) - 0+2:Int).toNat 0:Option (Out Unit Int))).bind λo=>match o with
| .go _=>(
some (-1))
| .ret r=>some r
theorem zfn{p0:(List Int)}{p1:Int}{r:Int}(h:zbq p0 p1=some r):Lx.Fn mC 124 [(fzE false (eI .i64) p0),(dI p1)] (dI r):=by
 refine gnO ?_;unfold zbq at h;refine wSM ?_;obtain⟨o1,j1,h⟩:=bsM h;obtain⟨T1,hT1⟩:=mkT λa:Unit=>⟨19,[],[]⟩
 refine EvL.jn T1 (λa=>o1=.go a) ?_ ?_
 .refine wSM ?_;obtain⟨T2,hT2⟩:=mkT λa:Int=>⟨19,[(0,(fzE false (eI .i64) p0)),(1,(dI p1)),(7,(dI (p0.length:Int))),(8,(dI a))],[]⟩
  refine rdM hT2 (λn a=>zaY p0 p1 n a=some o1) 0 j1 ?_;rintro n v8 j1;simp only[zaY]at j1;refine wTM hT2 ?_;refine cBM j1 (λ_ j1=>?_) λ_ j1=>?_
  .exact zsg j1 hT1
  obtain⟨x2,g3,j1⟩:=bsM j1;refine sXM (ixM g3) ?_;refine cBM j1 (λ_ j1=>?_) λ_ j1=>?_
  .exact zda hT2 (w64 (v8+1)) j1
  obtain rfl:=qaj j1;exact rHM h
 rintro⟨⟩ rfl;dsimp only at h;refine wTM hT1 ?_;exact rHM h
def zap(p0:S_factor_table)(p1:Int):Option Int:=
(zbq p0.factor.vars p1).bind λr1=>
some r1
theorem zaJ{p0:S_factor_table}{p1:Int}{r:Int}(h:zap p0 p1=some r):Lx.Fn mC 107 [(.agg [(fzE false (eI .i64) p0.factor.vars),(fzE false (eI .i64) p0.factor.zae),(fzE false (eI .i64) p0.factor.w),(fzE false (eI .i64) p0.steps)]),(dI p1)] (dI r):=by
 refine gnO ?_;unfold zap at h;refine zag ?_;obtain⟨r1,g2,h⟩:=bsM h;refine sSM ?_;refine fCM (zfn g2) ?_;exact rHM h
def zb5(p0:S_factor_table)(p1:S_factor_table):Nat->Int->Option (Out Unit Bool)
 | 0,_=>none
 | n+1,v12=>(
bif (decide (v12<(p0.factor.vars.length:Int)))then(
(zaO p0.factor.vars v12).bind λx2=>
(zap p1 x2).bind λr4=>
((bif (decide (0<=r4))then(
(zaO p1.factor.zae r4).bind λx7=>
(zaO p0.factor.zae v12).bind λx9=>
some (!(x7 == x9)))
else(
some false):Option Bool)).bind λv36=>
bif v36 then(
some (.ret false))
else(
zb5 p0 p1 n (w64 (v12+1))))
else(
some (.go ())))
def zc5(p0:S_factor_table)(p1:S_factor_table):Option Bool:=
((zb5 p0 p1 ((p0.factor.vars.length:Int) - 0+2:Int).toNat 0:Option (Out Unit Bool))).bind λo=>match o with
| .go _=>(
some true)
| .ret r=>some r
theorem zjz{p0:S_factor_table}{p1:S_factor_table}{r:Bool}(h:zc5 p0 p1=some r):Lx.Fn mC 126 [(.agg [(fzE false (eI .i64) p0.factor.vars),(fzE false (eI .i64) p0.factor.zae),(fzE false (eI .i64) p0.factor.w),(fzE false (eI .i64) p0.steps)]),(.agg [(fzE false (eI .i64) p1.factor.vars),(fzE false (eI .i64) p1.factor.zae),(fzE false (eI .i64) p1.factor.w),(fzE false (eI .i64) p1.steps)])] (dB r):=by
 refine gnO ?_;unfold zc5 at h;refine wSM ?_;obtain⟨o4,j4,h⟩:=bsM h;obtain⟨T4,hT4⟩:=mkT λa:Unit=>⟨38,[],[]⟩
 refine EvL.jn T4 (λa=>o4=.go a) ?_ ?_
 .refine wSM ?_;obtain⟨T7,hT7⟩:=mkT λa:Int=>⟨38,[(2,(.ptr 0 0)),(3,(.ptr 1 0)),(10,(fzE false (eI .i64) p0.factor.vars)),(11,(dI (p0.factor.vars.length:Int))),(12,(dI a))],[.cells [(fzE false (eI .i64) p0.factor.vars),(fzE false (eI .i64) p0.factor.zae),(fzE false (eI .i64) p0.factor.w),(fzE false (eI .i64) p0.steps)],.cells [(fzE false (eI .i64) p1.factor.vars),(fzE false (eI .i64) p1.factor.zae),(fzE false (eI .i64) p1.factor.w),(fzE false (eI .i64) p1.steps)]]⟩
  refine rdM hT7 (λn a=>zb5 p0 p1 n a=some o4) 0 j4 ?_;rintro n v12 j4;simp only[zb5]at j4;refine wTM hT7 ?_;refine cBM j4 (λ_ j4=>?_) λ_ j4=>?_
  .exact zsg j4 hT4
  obtain⟨x2,g3,j4⟩:=bsM j4;obtain⟨r4,g5,j4⟩:=bsM j4;refine sXM (ixM g3) ?_;refine fCM (zaJ g5) ?_;obtain⟨o8,j8,j4⟩:=bsM j4;obtain⟨T8,hT8⟩:=zey hT7 λa:Bool=>uDM (T7 v12) [] [(36,(dB a))] [] []
  refine EvL.jn T8 (λa=>a=o8) ?_ ?_
  .refine wSM ?_;refine cBM j8 (λ_ j8=>?_) λ_ j8=>?_
   .exact zef j8 hT8
   obtain⟨x7,g8,j8⟩:=bsM j8;obtain⟨x9,g10,j8⟩:=bsM j8;refine sXM (anM (ixM g8) (ixM g10)) ?_;exact zef j8 hT8
  rintro v36 rfl;refine wTM hT8 ?_;refine cBM j4 (λ_ j4=>?_) λ_ j4=>?_
  .exact zda hT7 (w64 (v12+1)) j4
  obtain rfl:=qaj j4;exact rHM h
 rintro⟨⟩ rfl;dsimp only at h;refine wTM hT4 ?_;exact rHM h
def zk1(zae steps:List Int):Nat->List Int->Int->Option (List Int×Int×Int)
 | 0,vals,a=>some (vals,a,-1)
 | k+1,vals,a=>(zaO vals (k:Int)).bind λv=>(zaO zae (k:Int)).bind λc=>bif v == w64 (c - 1)then(zaO steps (k:Int)).bind λst=>(ze5 vals (k:Int) 0).bind λvals'=>zk1 zae steps k vals' (w64 (a - w64 (v * st)))else some (vals,a,(k:Int))
def zBi(zae steps:List Int):Nat->List Int->Int->Int->Option (List (Int×Int×List Int))
 | 0,_,_,_=>none
 | n+1,vals,i,a=>(zk1 zae steps zae.length vals a).bind λr=>bif decide (r.2.2<0)then some [(i,a,vals)]else
   (zaO r.1 r.2.2).bind λv=>(ze5 r.1 r.2.2 (w64 (v+1))).bind λvals'=>(zaO steps r.2.2).bind λst=>(zBi zae steps n vals' (w64 (i+1)) (w64 (r.2.1+st))).map λl=>(i,a,vals):: l
def zyS(zae steps:List Int):Option (List (Int×Int×List Int)):=(zeR zae).bind λ_=>(zeh 8 (zae.length:Int) 0).bind λz=>zBi zae steps ((zae.foldl (· * ·) 1).toNat) z 0 0
theorem znL{α β:Type}{o:Option α}{f:α->β}{b:β}(h:o.map f=some b):∃ a,o=some a/\b=f a:=by
 cases o with
 | none=>cases h
 | some a=>cases h; exact⟨a,rfl,rfl⟩
variable{L:List LB}
theorem zAJ{n:Nat}(h:L.length=n)(x:LB):(L ++ [x])[n]? = some x:=by subst h; simp
theorem zzg{n:Nat}(h:L.length=n)(x y:LB):(L ++ [x]).set n y=L ++ [y]:=by subst h; simp
def zyw:C:=
 (.seq (.seq (.scope (.reg true false [oM 19 7,
 oD 20 .geq 19 0,
 oM 21 20,
 oMg 22 4 21 true,
 oMg 23 7 21 true,
 ⟨some 24,.idxS 1 (.s 22) (.s 23),some (21,true)⟩,
 oLg 25 24 21 true,
 oLg 26 1 21 true,
 oMg 27 7 21 true,
 ⟨some 28,.idxS 1 (.s 26) (.s 27),some (21,true)⟩,
 oLg 29 28 21 true,
 oDg 30 .sub 29 1 21 true,
 ⟨some 31,.bin .eql (.s 25) (.s 30),some (21,true)⟩,
 ⟨some 32,.pick (.s 21) (.s 31) (.c (.bool false)),none⟩]))
 (.cond (.s 32) (.skip)
 (.exit 2)))
 (.block 3 (.seq (.reg true false [oM 33 6,
 oM 34 4,
 oM 35 7,
 oI 36 1 34 35,
 oL 37 36,
 oL 38 2,
 oM 39 7,
 oI 40 1 38 39,
 oL 41 40,
 oB 42 .mul 37 41,
 oB 43 .sub 33 42,
 oM 6 43])
 (.seq (rg [oM 44 4,
 oM 45 7,
 oI 46 1 44 45,
 ⟨none,.store 1 (.s 46) (.c (.int .i64 0)),none⟩])
 (rg [oM 47 7,
 oD 48 .sub 47 1,
 oM 7 48])))))
def zrx:C:=.block 1 (.seq (.seq (.reg false false [⟨some 11,.mov (.s 0),none⟩,
 ⟨some 12,.mov (.s 5),none⟩,
 ⟨some 13,.mov (.s 6),none⟩,
 ⟨some 14,.zdE (.s 11) [(.s 12),(.s 13)],none⟩,
 ⟨some 15,.un .not (.s 14),none⟩])
 (.cond (.s 15) (.ret)
 (.skip)))
 (.seq (.reg false false [⟨some 16,.load none (.s 1),none⟩,
 ⟨some 17,.len (.s 16),none⟩,
 ⟨some 18,.bin .sub (.s 17) (.c (.int .i64 1)),none⟩,
 ⟨some 7,.mov (.s 18),none⟩])
 (.seq (.scope (.block 2 (.loop zyw)))
 (.seq (.seq (.reg false false [⟨some 49,.mov (.s 7),none⟩,
 ⟨some 50,.bin .lss (.s 49) (.c (.int .i64 0)),none⟩])
 (.cond (.s 50) (.ret)
 (.skip)))
 (.seq (.reg false false [⟨some 51,.mov (.s 4),none⟩,
 ⟨some 52,.mov (.s 7),none⟩,
 ⟨some 53,.idxS 1 (.s 51) (.s 52),none⟩,
 ⟨some 54,.load none (.s 53),none⟩,
 ⟨some 55,.bin .add (.s 54) (.c (.int .i64 1)),none⟩,
 ⟨some 56,.idxS 1 (.s 51) (.s 52),none⟩,
 ⟨none,.store 1 (.s 56) (.s 55),none⟩])
 (.seq (.reg false false [⟨some 57,.mov (.s 6),none⟩,
 ⟨some 58,.load none (.s 2),none⟩,
 ⟨some 59,.mov (.s 7),none⟩,
 ⟨some 60,.idxS 1 (.s 58) (.s 59),none⟩,
 ⟨some 61,.load none (.s 60),none⟩,
 ⟨some 62,.bin .add (.s 57) (.s 61),none⟩,
 ⟨some 6,.mov (.s 62),none⟩])
 (.reg false false [⟨some 63,.mov (.s 5),none⟩,
 ⟨some 64,.bin .add (.s 63) (.c (.int .i64 1)),none⟩,
 ⟨some 5,.mov (.s 64),none⟩])))))))
def zCX:C:=.seq (.reg false false [⟨some 8,.load none (.s 1),none⟩,
 ⟨some 9,.len (.s 8),none⟩,
 ⟨some 10,.mk 1 8 [(.int .i64 0)] (.s 9) (.s 9),none⟩,
 ⟨some 4,.mov (.s 10),none⟩,
 ⟨some 5,.mov (.c (.int .i64 0)),none⟩,
 ⟨some 6,.mov (.c (.int .i64 0)),none⟩])
 (.scope (.block 0 (.loop zrx)))
theorem zzn:zsJ mC 125=some (65,zCX,[],false):=zhR (by kernel_rfl)
theorem zcy{zae steps:List Int}{u:List (Int×Int×List Int)}(hu:zyS zae steps=some u):
  Gen mC 125 [] [.fptr false ((eL (eI .i64)).c false zae),.fptr false ((eL (eI .i64)).c false steps)] u (λy n0 args G=>args=[dI y.1,dI y.2.1]/\G=[.els 1 (y.2.2.map ((eI .i64).c true))]):=by
 intro n0 β P Ps hβ hlen hround L hP;refine zdu.ofM zzn (ze9 rfl) (qae rfl) ?_;obtain⟨_,hsm,hu⟩:=bsM hu;obtain⟨z,hz,hv⟩:=bsM hu;have hL:=hlen _ _ hP;have hm:IntKind.i64.wrap ((zae.length:Int) - 1)=(zae.length:Int) - 1:=by
  have:=zhF hsm;exact wrap64 (by omega) (by omega)
 unfold zCX;refine zag ?_;refine sXM (anM ((zav hz).1.1) (anM ((zav hz).1.2) (anM @qbU (anM @qaL (show List.replicate zae.length [(dI 0)]=z.map ((eI .i64).c true)from(zf3 hz ((eI .i64).c true))))))) ?_;refine EvL.scope (zag ?_);refine sSM ?_;rw[hL];refine EvL.loop (α:=Nat×Nat×List Int×Int×Int×List LB) (λa=>⟨65,[(0,.yld β),(1,.fptr false ((eL (eI .i64)).c false zae)),(2,.fptr false ((eL (eI .i64)).c false steps)),(4,.sl n0 0 1 zae.length (some zae.length) zae.length),(5,dI a.2.2.2.1),(6,dI a.2.2.2.2.1)],a.2.2.2.2.2 ++ [.els 1 (a.2.2.1.map ((eI .i64).c true))]⟩)
  (λa=>P a.2.1 a.2.2.2.2.2/\zBi zae steps a.1 a.2.2.1 a.2.2.2.1 a.2.2.2.2.1=some (u.drop a.2.1)/\a.2.2.1.length=zae.length) (λa=>a.1) ((zae.foldl (· * ·) 1).toNat,0,z,0,0,L) (by refine za8.sub ?_; exact⟨rfl,rfl,rfl,rfl,rfl,rfl,qdv⟩) ⟨hP,hv,by rw[zbp hz,qaL]⟩ ?_
 rintro⟨n,j,vals,i,at_,L'⟩ ⟨hPi,hvk,hvl⟩;simp only at hPi hvk hvl;cases n with
 | zero=>cases hvk
 | succ n=>
 unfold zBi at hvk;obtain⟨⟨vals1,at1,kk⟩,hc,hvk⟩:=bsM hvk;simp only at hvk;have hul:∃ r,u.drop j=(i,at_,vals):: r:=by
  cases hk:decide (kk<0)with
  | true=>rw[hk,qdw]at hvk; exact⟨[],(qaj hvk).symm⟩
  | false=>
   rw[hk,qdx]at hvk;obtain⟨v,_,hvk⟩:=bsM hvk;obtain⟨vals2,_,hvk⟩:=bsM hvk;obtain⟨st,_,hvk⟩:=bsM hvk;obtain⟨l,_,hl⟩:=znL hvk;exact⟨l,hl⟩
 obtain⟨r,hul⟩:=hul;have hj:j<u.length:=by
  refine Nat.lt_of_not_le λhn=>?_
  rw[qbb hn]at hul;cases hul
 have huj:u[j]? = some (i,at_,vals):=by
  rw[qaA hj]at hul;rw[qac hj,(qcC hul).1]
 have hur:u.drop (j+1)=r:=by
  rw[qaA hj]at hul;exact(qcC hul).2
 unfold zrx;refine wSM ?_;refine EvL.yield rfl rfl rfl (hround j (i,at_,vals) L' _ [.els 1 (vals.map ((eI .i64).c true))] huj hPi ⟨rfl,rfl⟩) ?_;rintro b L2 ⟨L1,rfl,hl1,hb⟩;cases b with
 | false=>
  refine sSM ?_;exact⟨[],rfl,L1,_,rfl,hl1,.inr hb⟩
 | true=>
 have hga:=zAJ hl1;have hsa:=zzg hl1;refine sXM hm ?_;refine EvL.jn (λa:List Int×Int×Int=>⟨65,[(0,.yld β),(1,.fptr false ((eL (eI .i64)).c false zae)),(2,.fptr false ((eL (eI .i64)).c false steps)),(4,.sl n0 0 1 zae.length (some zae.length) zae.length),(5,dI i),(6,dI a.2.1),(7,dI a.2.2)],L1 ++ [.els 1 (a.1.map ((eI .i64).c true))]⟩) (λa=>a=(vals1,at1,kk)/\a.1.length=zae.length) ?_ ?_
 .refine wSM ?_;refine EvL.loop (α:=Nat×List Int×Int) (λa=>⟨65,[(0,.yld β),(1,.fptr false ((eL (eI .i64)).c false zae)),(2,.fptr false ((eL (eI .i64)).c false steps)),(4,.sl n0 0 1 zae.length (some zae.length) zae.length),(5,dI i),(6,dI a.2.2),(7,dI ((a.1:Int) - 1))],L1 ++ [.els 1 (a.2.1.map ((eI .i64).c true))]⟩)
   (λa=>zk1 zae steps a.1 a.2.1 a.2.2=some (vals1,at1,kk)/\a.2.1.length=zae.length/\a.1<=zae.length) (λa=>a.1) (zae.length,vals,at_) (by refine za8.sub ?_; exact⟨rfl,rfl,rfl,rfl,rfl,rfl,rfl,qdv⟩) ⟨hc,hvl,qao _⟩ ?_
  rintro⟨f,vs,a⟩ ⟨hf,hvs,hfl⟩;simp only at hf hvs hfl;simp only[zyw,zBa];refine wSM ?_;cases f with
  | zero=>
   cases hf;refine EvL.scope (zag ?_);have hk:((0:Nat):Int) - 1 = -1:=rfl;refine sXM hk ?_;exact⟨_,⟨rfl,hvs⟩,za8.sub ⟨rfl,rfl,rfl,rfl,rfl,rfl,rfl,qdv⟩⟩
  | succ f=>
   have hk:((f+1:Nat):Int) - 1=(f:Int):=by omega
   have hk0:(0:Int)<=(f:Int):=by omega
   unfold zk1 at hf;obtain⟨v,q1,hf⟩:=bsM hf;obtain⟨c,q2,hf⟩:=bsM hf;refine EvL.scope (zag ?_);cases hb:(v == w64 (c - 1))with
   | false=>
    rw[hb,qdx]at hf;cases hf;refine sXM (anM hk (anM hk0 (anM hga (anM hvs (anM (show(f:Int)<((zae.length:Nat):Int)from hvs ▸ zfy q1) (anM (zcW q1 ((eI .i64).c true)) (anM (zbo (n:=1) (e:=eI .i64) rfl q2) hb))))))) ?_;exact⟨_,⟨rfl,hvs⟩,za8.sub ⟨rfl,rfl,rfl,rfl,rfl,rfl,rfl,qdv⟩⟩
   | true=>
    rw[hb,qdw]at hf;obtain⟨st,q3,hf⟩:=bsM hf;obtain⟨vs',q4,hf⟩:=bsM hf;have hw:IntKind.i64.wrap ((f:Int) - 1)=(f:Int) - 1:=by
     have:=zhF hsm;exact wrap64 (by omega) (by omega)
    refine sXM (anM hk (anM hk0 (anM hga (anM hsa (anM hvs (anM (show(f:Int)<((zae.length:Nat):Int)from hvs ▸ zfy q1) (anM (zcW q1 ((eI .i64).c true)) (anM (zbo (n:=1) (e:=eI .i64) rfl q2) (anM (zbo (n:=1) (e:=eI .i64) rfl q3) (anM hb (anM (show(vs.map ((eI .i64).c true)).set (f:Int).toNat [dI 0]=vs'.map ((eI .i64).c true)from zeT q4 ((eI .i64).c true)) hw))))))))))) ?_;exact⟨(f,vs',w64 (a - w64 (v * st))),⟨hf,by rw[zaZ q4]; exact hvs,by omega⟩,qbC f,za8.sub ⟨rfl,rfl,rfl,rfl,rfl,rfl,rfl,qdv⟩⟩
 rintro a ⟨rfl,hvs⟩;simp only at hvs;refine zag ?_;cases hk:decide (kk<0)with
 | true=>
  rw[hk,qdw]at hvk;refine sXM hk ?_;have h1:u.length=j+1:=by
   have h2:=qaj hvk;have h3:u.drop (j+1)=[]:=by
    rw[hur];rw[<- h2]at hul;exact(qcC hul).2.symm
   have h4:=List.drop_eq_nil_iff.1 h3;omega
  exact⟨[],rfl,L1,_,rfl,hl1,.inl (by rw[h1]; exact hb)⟩
 | false=>
  rw[hk,qdx]at hvk;obtain⟨v,q1,hvk⟩:=bsM hvk;obtain⟨vals2,q2,hvk⟩:=bsM hvk;obtain⟨st,q3,hvk⟩:=bsM hvk;obtain⟨l,q4,hl⟩:=znL hvk;refine sXM (anM hk (anM hga (anM hsa (anM hvs (anM (za4 q1) (anM (show kk<((zae.length:Nat):Int)from hvs ▸ zfy q1) (anM (zcW q1 ((eI .i64).c true)) (anM (show(vals1.map ((eI .i64).c true)).set kk.toNat [dI (w64 (v+1))]=vals2.map ((eI .i64).c true)from zeT q2 ((eI .i64).c true)) (zbo (n:=1) (e:=eI .i64) rfl q3))))))))) ?_;refine⟨(n,j+1,vals2,w64 (i+1),w64 (at1+st),L1),⟨hb,?_,by rw[zaZ q2]; exact hvs⟩,qbC n,za8.sub ⟨rfl,rfl,rfl,rfl,rfl,rfl,qdv⟩⟩;simp only;rw[q4,hur];rw[hul]at hl;rw[(qcC hl).2]
def zbe(p1:(List Int))(p0:S_factor_table):Nat->Int->(List Int)->Option (List Int)
 | 0,_,_=>none
 | n+1,v14,l1=>(
bif (decide (v14<(p1.length:Int)))then(
(zaO p1 v14).bind λx4=>
(zap p0 x4).bind λr6=>
((bif (decide (0<=r6))then(
(zaO p0.steps r6).bind λx9=>
(zaO l1 v14).bind λx11=>
(ze5 l1 v14 x9).bind λy13=>
some y13)
else(
some l1):Option (List Int))).bind λl1'=>
zbe p1 p0 n (w64 (v14+1)) l1')
else(
some l1))
def za1(p0:S_factor_table)(p1:(List Int)):Option (List Int):=
(zeh 8 (p1.length:Int) 0).bind λy1=>
((zbe p1 p0 ((p1.length:Int) - 0+2:Int).toNat 0 y1:Option (List Int))).bind λl1=>
some l1
theorem zcC{p0:S_factor_table}{p1:(List Int)}{r:(List Int)}(h:za1 p0 p1=some r):Lx.Fn mC 111 [(.agg [(fzE false (eI .i64) p0.factor.vars),(fzE false (eI .i64) p0.factor.zae),(fzE false (eI .i64) p0.factor.w),(fzE false (eI .i64) p0.steps)]),(fzE false (eI .i64) p1)] (fzE true (eI .i64) r):=by
 refine gnO ?_;unfold za1 at h;refine zag ?_;obtain⟨y1,g2,h⟩:=bsM h;refine sXM (anM ((zav g2).1.1) (anM ((zav g2).1.2) (anM @qbU (miM g2)))) ?_;obtain⟨o4,j4,h⟩:=bsM h;obtain⟨T4,hT4⟩:=mkT λa:(List Int)=>⟨34,[(5,(.sl 1 0 1 (Int.toNat (p1.length:Int)) (some (Int.toNat (p1.length:Int))) (Int.toNat (p1.length:Int))))],[.gone,.els 1 (a.map ((eI .i64).c true))]⟩
 refine EvL.jn T4 (λa=>a=o4/\a.length=(Int.toNat (p1.length:Int))) ?_ ?_
 .refine wSM ?_;obtain⟨T7,hT7⟩:=mkT λa:(Int×(List Int))=>⟨34,[(2,(.ptr 0 0)),(5,(.sl 1 0 1 (Int.toNat (p1.length:Int)) (some (Int.toNat (p1.length:Int))) (Int.toNat (p1.length:Int)))),(12,(fzE false (eI .i64) p1)),(13,(dI (p1.length:Int))),(14,(dI a.1))],[.cells [(fzE false (eI .i64) p0.factor.vars),(fzE false (eI .i64) p0.factor.zae),(fzE false (eI .i64) p0.factor.w),(fzE false (eI .i64) p0.steps)],.els 1 (a.2.map ((eI .i64).c true))]⟩
  refine rdM hT7 (λn a=>zbe p1 p0 n a.1 a.2=some o4/\a.2.length=(Int.toNat (p1.length:Int))) (0,y1) ⟨j4,zbp g2⟩ ?_;rintro n ⟨v14,l1⟩ ⟨j4,el1⟩;simp only[zbe]at j4;refine wTM hT7 ?_;refine cBM j4 (λ_ j4=>?_) λ_ j4=>?_
  .obtain rfl:=qaj j4;exact zda hT4 _ ⟨rfl,el1⟩
  obtain⟨x4,g5,j4⟩:=bsM j4;obtain⟨r6,g7,j4⟩:=bsM j4;refine sXM (ixM g5) ?_;refine fCM (zaJ g7) ?_;obtain⟨o8,j8,j4⟩:=bsM j4;obtain⟨T8,hT8⟩:=zey hT7 λa:(List Int)=>uDM (T7 (v14,l1)) [] [] [(1,.els 1 (a.map ((eI .i64).c true)))] []
  refine EvL.jn T8 (λa=>a=o8/\a.length=(Int.toNat (p1.length:Int))) ?_ ?_
  .refine wSM ?_;refine cBM j8 (λ_ j8=>?_) λ_ j8=>?_
   .obtain rfl:=qaj j8;exact zda hT8 _ ⟨rfl,el1⟩
   obtain⟨x9,g10,j8⟩:=bsM j8;obtain⟨x11,g12,j8⟩:=bsM j8;obtain⟨y13,g14,j8⟩:=bsM j8;refine sXM (anM (ixM g10) (anM el1 (anM (za4 g12) (anM (ltM el1 g12) (anM (giM g12) (siM g14)))))) ?_;obtain rfl:=qaj j8;exact zda hT8 _ ⟨rfl,(zaZ g14).trans el1⟩
  rintro l1' ⟨rfl,el1'⟩;refine wTM hT8 ?_;exact zda hT7 ((w64 (v14+1)),l1') ⟨j4,el1'⟩
 rintro l1 ⟨rfl,el1⟩;refine wTM hT4 ?_;exact rHM h
def zd8(p0:Int)(p1:Int):Option (Int×Int):=
(zki .u64 p0 32).bind λq1=>
(zki .u64 p1 32).bind λq3=>
(zki .u64 (IntKind.u64.wrap ((zkX .u64 p0 4294967295)* (zkX .u64 p1 4294967295))) 32).bind λq5=>
(zki .u64 (IntKind.u64.wrap ((IntKind.u64.wrap (q1 * (zkX .u64 p1 4294967295)))+q5)) 32).bind λq7=>
(zki .u64 (IntKind.u64.wrap ((zkX .u64 (IntKind.u64.wrap ((IntKind.u64.wrap (q1 * (zkX .u64 p1 4294967295)))+q5)) 4294967295)+(IntKind.u64.wrap ((zkX .u64 p0 4294967295)* q3)))) 32).bind λq9=>
some ((IntKind.u64.wrap ((IntKind.u64.wrap ((IntKind.u64.wrap (q1 * q3))+q7))+q9)),(IntKind.u64.wrap (p0 * p1)))
theorem zmv{p0:Int}{p1:Int}{r:(Int×Int)}(h:zd8 p0 p1=some r):Lx.Fn mC 128 [(dU p0),(dU p1)] (.tup [(dU r.1),(dU r.2)]):=by
 refine gnO ?_;unfold zd8 at h;refine zag ?_;obtain⟨q1,g2,h⟩:=bsM h;obtain⟨q3,g4,h⟩:=bsM h;obtain⟨q5,g6,h⟩:=bsM h;obtain⟨q7,g8,h⟩:=bsM h;obtain⟨q9,g10,h⟩:=bsM h;try simp only[rnA,Nat.reduceEqDiff,Nat.reduceLT,Nat.reduceAdd,reduceCtorEq,(zbw g2).1,(zbw g2).2,(zbw g4).2,(zbw g6).2,(zbw g8).2,(zbw g10).2]
 replace h:=qaj h; subst h;exact zkj.ret rfl (Snp.zA8 (.cons (.lit _) (.cons (.lit _) .nil)))
def zbJ(y7:(List Int))(p0:S_factor_table)(p1:S_factor_table):Nat->Int->(List Int)->Option (List Int)
 | 0,_,_=>none
 | n+1,v26,l2=>(
bif (decide (v26<(y7.length:Int)))then(
(zaO y7 v26).bind λx12=>
(zap p0 x12).bind λr14=>
((bif (decide (0<=r14))then(
(zaO p0.factor.zae r14).bind λx25=>
(zaO l2 v26).bind λx27=>
(ze5 l2 v26 x25).bind λy29=>
some y29)
else(
(zap p1 x12).bind λr17=>
(zaO p1.factor.zae r17).bind λx19=>
(zaO l2 v26).bind λx21=>
(ze5 l2 v26 x19).bind λy23=>
some y23):Option (List Int))).bind λl2'=>
zbJ y7 p0 p1 n (w64 (v26+1)) l2')
else(
some l2))
def zc6(p0:S_factor_table)(p1:S_factor_table):Option ((List Int)×(List Int)):=
(zd5 8 p0.factor.vars).bind λy1=>
(zdi 8 y1 p1.factor.vars).bind λy3=>
(znW 8 y3).bind λy5=>
(zBj y5).bind λy7=>
(zeh 8 (y7.length:Int) 0).bind λy9=>
((zbJ y7 p0 p1 ((y7.length:Int) - 0+2:Int).toNat 0 y9:Option (List Int))).bind λl2=>
some (y7,l2)
theorem zjv{p0:S_factor_table}{p1:S_factor_table}{r:((List Int)×(List Int))}(h:zc6 p0 p1=some r):Lx.Fn mC 127 [(.agg [(fzE false (eI .i64) p0.factor.vars),(fzE false (eI .i64) p0.factor.zae),(fzE false (eI .i64) p0.factor.w),(fzE false (eI .i64) p0.steps)]),(.agg [(fzE false (eI .i64) p1.factor.vars),(fzE false (eI .i64) p1.factor.zae),(fzE false (eI .i64) p1.factor.w),(fzE false (eI .i64) p1.steps)])] (.tup [(fzE true (eI .i64) r.1),(fzE true (eI .i64) r.2)]):=by
 refine gnO ?_;unfold zc6 at h;refine zag ?_;obtain⟨y1,g2,h⟩:=bsM h;refine sSM ?_;refine EvL.clone (t:=false) (zs:=p0.factor.vars) g2 rfl rfl ?_;obtain⟨y3,g4,h⟩:=bsM h;obtain⟨y5,g6,h⟩:=bsM h;refine sXM (anM (srM p1.factor.vars) (anM (zbN g4) (anM (show y1.length+p1.factor.vars.length=y3.length from zfb g4) (show y1.map ((eI .i64).c true)++ p1.factor.vars.map ((eI .i64).c true)=y3.map ((eI .i64).c true)from zdz g4 ((eI .i64).c true))))) ?_;refine EvL.sort (zs:=y3) (t:=true) g6 rfl rfl rfl rfl rfl ?_;obtain⟨y7,g8,h⟩:=bsM h;refine sSM ?_;refine EvL.compact (zs:=y5) (t:=true) g8 rfl rfl rfl (((znG g6).trans rfl)).symm (((znG g6).trans rfl)).symm rfl ?_;refine EvL.zgK (S':=⟨59,[(2,(.ptr 0 0)),(3,(.ptr 1 0)),(20,(fzE true (eI .i64) y7))],[.cells [(fzE false (eI .i64) p0.factor.vars),(fzE false (eI .i64) p0.factor.zae),(fzE false (eI .i64) p0.factor.w),(fzE false (eI .i64) p0.steps)],.cells [(fzE false (eI .i64) p1.factor.vars),(fzE false (eI .i64) p1.factor.zae),(fzE false (eI .i64) p1.factor.w),(fzE false (eI .i64) p1.steps)]]⟩) (za8.m0 [.k,.k,.f] rfl (msq (msq (mf rfl (zlK (xs:=y5) (ys:=y7) (t:=true) (zAt g8) rfl rfl rfl (λ_=>rfl)) trivial))) ⟨MB.cs ⟨qdv,qdv,qdv,qdv,qdv⟩,⟨MB.cs ⟨qdv,qdv,qdv,qdv,qdv⟩,qdv⟩⟩) (zag ?_);obtain⟨y9,g10,h⟩:=bsM h;refine sXM (anM ((zav g10).1.1) (anM ((zav g10).1.2) (anM @qbU (miM g10)))) ?_;obtain⟨o4,j4,h⟩:=bsM h;obtain⟨T4,hT4⟩:=mkT λa:(List Int)=>⟨59,[(4,(fzE true (eI .i64) y7)),(5,(.sl 2 0 1 (Int.toNat (y7.length:Int)) (some (Int.toNat (y7.length:Int))) (Int.toNat (y7.length:Int))))],[.gone,.gone,.els 1 (a.map ((eI .i64).c true))]⟩
 refine EvL.jn T4 (λa=>a=o4/\a.length=(Int.toNat (y7.length:Int))) ?_ ?_
 .refine wSM ?_;obtain⟨T7,hT7⟩:=mkT λa:(Int×(List Int))=>⟨59,[(2,(.ptr 0 0)),(3,(.ptr 1 0)),(4,(fzE true (eI .i64) y7)),(5,(.sl 2 0 1 (Int.toNat (y7.length:Int)) (some (Int.toNat (y7.length:Int))) (Int.toNat (y7.length:Int)))),(24,(fzE true (eI .i64) y7)),(25,(dI (y7.length:Int))),(26,(dI a.1))],[.cells [(fzE false (eI .i64) p0.factor.vars),(fzE false (eI .i64) p0.factor.zae),(fzE false (eI .i64) p0.factor.w),(fzE false (eI .i64) p0.steps)],.cells [(fzE false (eI .i64) p1.factor.vars),(fzE false (eI .i64) p1.factor.zae),(fzE false (eI .i64) p1.factor.w),(fzE false (eI .i64) p1.steps)],.els 1 (a.2.map ((eI .i64).c true))]⟩
  refine rdM hT7 (λn a=>zbJ y7 p0 p1 n a.1 a.2=some o4/\a.2.length=(Int.toNat (y7.length:Int))) (0,y9) ⟨j4,zbp g10⟩ ?_;rintro n ⟨v26,l2⟩ ⟨j4,el2⟩;simp only[zbJ]at j4;refine wTM hT7 ?_;refine cBM j4 (λ_ j4=>?_) λ_ j4=>?_
  .obtain rfl:=qaj j4;exact zda hT4 _ ⟨rfl,el2⟩
  obtain⟨x12,g13,j4⟩:=bsM j4;obtain⟨r14,g15,j4⟩:=bsM j4;refine sXM (ixM g13) ?_;refine fCM (zaJ g15) ?_;obtain⟨o8,j8,j4⟩:=bsM j4;obtain⟨T8,hT8⟩:=zey hT7 λa:(List Int)=>uDM (T7 (v26,l2)) [] [] [(2,.els 1 (a.map ((eI .i64).c true)))] []
  refine EvL.jn T8 (λa=>a=o8/\a.length=(Int.toNat (y7.length:Int))) ?_ ?_
  .refine wSM ?_;refine cBM j8 (λ_ j8=>?_) λ_ j8=>?_
   .obtain⟨r17,g18,j8⟩:=bsM j8;refine sSM ?_;refine fCM (zaJ g18) ?_;obtain⟨x19,g20,j8⟩:=bsM j8;obtain⟨x21,g22,j8⟩:=bsM j8;obtain⟨y23,g24,j8⟩:=bsM j8;refine sXM (anM (ixM g20) (anM el2 (anM (za4 g22) (anM (ltM el2 g22) (anM (giM g22) (siM g24)))))) ?_;obtain rfl:=qaj j8;exact zda hT8 _ ⟨rfl,(zaZ g24).trans el2⟩
   obtain⟨x25,g26,j8⟩:=bsM j8;obtain⟨x27,g28,j8⟩:=bsM j8;obtain⟨y29,g30,j8⟩:=bsM j8;refine sXM (anM (ixM g26) (anM el2 (anM (za4 g28) (anM (ltM el2 g28) (anM (giM g28) (siM g30)))))) ?_;obtain rfl:=qaj j8;exact zda hT8 _ ⟨rfl,(zaZ g30).trans el2⟩
  rintro l2' ⟨rfl,el2'⟩;refine wTM hT8 ?_;exact zda hT7 ((w64 (v26+1)),l2') ⟨j4,el2'⟩
 rintro l2 ⟨rfl,el2⟩;refine wTM hT4 ?_;exact rHM h
def zcg(r4:(S_factor_table×Int))(r12:(Int×Int)):List (Int×Int×(List Int))->(List Int)->Option (Out (List Int) (S_api_Factor×Int))
 | [],l6'=>some (.go l6')
 | y36 :: ys,l6'=>(
(zaO l6' y36.1).bind λx37=>
(zaO r4.1.factor.w y36.2.1).bind λx39=>
(zd8 (IntKind.u64.wrap x37) (IntKind.u64.wrap x39)).bind λr41=>
((bif (r41.1 == 0)then(
some (decide (4611686018427387903<r41.2)))
else(
some true):Option Bool)).bind λv102=>
bif v102 then(
some (.ret ((S_api_Factor.mk [] [] []),6)))
else(
(zaO l6' y36.1).bind λx45=>
(ze5 l6' y36.1 (w64 r41.2)).bind λy47=>
zcg r4 r12 ys y47))
def zcl(r1:(S_factor_table×Int))(r12:(Int×Int)):List (Int×Int×(List Int))->(List Int)->Option (List Int)
 | [],l6=>some l6
 | y23 :: ys,l6=>(
(zaO r1.1.factor.w y23.2.1).bind λx24=>
(zaO l6 y23.1).bind λx26=>
(ze5 l6 y23.1 x24).bind λy28=>
zcl r1 r12 ys y28)
def zcz(p0:S_api_Factor)(p1:S_api_Factor):Option (S_api_Factor×Int):=
(zbF p0).bind λr1=>
bif (r1.2 == 0)then(
(zbF p1).bind λr4=>
bif (r4.2 == 0)then(
(zc5 r1.1 r4.1).bind λr7=>
bif r7 then(
(zc6 r1.1 r4.1).bind λr10=>
(zce r10.2).bind λr12=>
bif (r12.2 == 0)then(
(zeh 8 r12.1 0).bind λy15=>
(za1 r1.1 r10.1).bind λr17=>
(zbO r10.2 r17).bind λr19=>
(zyS r19.1 r19.2).bind λu21=>
((zcl r1 r12 u21 y15:Option (List Int))).bind λl6=>
(za1 r4.1 r10.1).bind λr30=>
(zbO r10.2 r30).bind λr32=>
(zyS r32.1 r32.2).bind λu34=>
((zcg r4 r12 u34 l6:Option (Out (List Int) (S_api_Factor×Int)))).bind λo=>match o with
| .go l6'=>(
some ((S_api_Factor.mk r10.1 r10.2 l6'),0))
| .ret r=>some r)
else(
some ((S_api_Factor.mk [] [] []),3)))
else(
some ((S_api_Factor.mk [] [] []),2)))
else(
some ((S_api_Factor.mk [] [] []),r4.2)))
else(
some ((S_api_Factor.mk [] [] []),r1.2))
variable{r:(S_api_Factor×Int)}
theorem zl9{p1:S_api_Factor}(h:zcz p0 p1=some r):Lx.Fn mC 112 [(.agg [(fzE false (eI .i64) p0.vars),(fzE false (eI .i64) p0.zae),(fzE false (eI .i64) p0.w)]),(.agg [(fzE false (eI .i64) p1.vars),(fzE false (eI .i64) p1.zae),(fzE false (eI .i64) p1.w)])] (.tup [(.agg [(fzE true (eI .i64) r.1.vars),(fzE true (eI .i64) r.1.zae),(fzE true (eI .i64) r.1.w)]),(dI r.2)]):=by
 refine gnO ?_;unfold zcz at h;refine zag ?_;obtain⟨r1,g2,h⟩:=bsM h;refine sSM ?_;refine fDM (zdZ g2) ?_;refine cBM h (λ_ h=>?_) λ_ h=>?_
 .exact rHM h
 obtain⟨r4,g5,h⟩:=bsM h;refine sSM ?_;refine fDM (zdZ g5) ?_;refine cBM h (λ_ h=>?_) λ_ h=>?_
 .exact rHM h
 obtain⟨r7,g8,h⟩:=bsM h;refine sSM ?_;refine fCM (zjz g8) ?_;refine cBM h (λ_ h=>?_) λ_ h=>?_
 .exact rHM h
 obtain⟨r10,g11,h⟩:=bsM h;refine sSM ?_;refine fCM (zjv g11) ?_;obtain⟨r12,g13,h⟩:=bsM h;refine sSM ?_;refine fCM (zfA g13) ?_;refine cBM h (λ_ h=>?_) λ_ h=>?_
 .exact rHM h
 obtain⟨y15,g16,h⟩:=bsM h;obtain⟨r17,g18,h⟩:=bsM h;refine sXM (anM ((zav g16).1.1) (anM ((zav g16).1.2) (anM @qbU (miM g16)))) ?_;refine fCM (zcC g18) ?_;obtain⟨r19,g20,h⟩:=bsM h;refine sSM ?_;refine fDM (zcZ g20) ?_;obtain⟨u21,g22,h⟩:=bsM h;obtain⟨o1,j1,h⟩:=bsM h;obtain⟨T1,hM1⟩:∃ T:(List Int)->List LB,T=(λa=>[.cells [(fzE false (eI .i64) p0.vars),(fzE false (eI .i64) p0.zae),(fzE false (eI .i64) p0.w)],.cells [(fzE false (eI .i64) p1.vars),(fzE false (eI .i64) p1.zae),(fzE false (eI .i64) p1.w)],.cells [zbU,zbU,zbU],.cells [(dI 0)],.cells [(fzE false (eI .i64) r1.1.factor.vars),(fzE false (eI .i64) r1.1.factor.zae),(fzE false (eI .i64) r1.1.factor.w),(fzE false (eI .i64) r1.1.steps)],.cells [(fzE false (eI .i64) r4.1.factor.vars),(fzE false (eI .i64) r4.1.factor.zae),(fzE false (eI .i64) r4.1.factor.w),(fzE false (eI .i64) r4.1.steps)],.els 1 (a.map ((eI .i64).c true)),.cells [(.sl 6 0 1 (Int.toNat r12.1) (some (Int.toNat r12.1)) (Int.toNat r12.1))]]):=⟨_,rfl⟩;refine EvL.zgK (S':=⟨113,[(4,(.ptr 2 0)),(5,(.ptr 3 0)),(6,(.ptr 4 0)),(8,(.ptr 5 0)),(9,(fzE true (eI .i64) r10.1)),(10,(fzE true (eI .i64) r10.2)),(12,(.ptr 7 0)),(62,(.clo 125 [] [(.fptr false ((eL (eI .i64)).c false r19.1)),(.fptr false ((eL (eI .i64)).c false r19.2))]))],T1 y15⟩) (by rw[hM1]; exact wAM) ?_;refine EvL.zfS (n0:=8) (zcy g22) rfl (bm:=.block 1 (.reg true false [⟨some 65,.load none (.s 12),none⟩,⟨some 66,.mov (.s 13),none⟩,⟨some 67,.fld 0 (.s 6),none⟩,⟨some 68,.fld 2 (.s 67),none⟩,⟨some 69,.load none (.s 68),none⟩,⟨some 70,.mov (.s 14),none⟩,⟨some 71,.idxS 1 (.s 69) (.s 70),none⟩,⟨some 72,.load none (.s 71),none⟩,⟨some 73,.idxS 1 (.s 65) (.s 66),none⟩,⟨none,.store 1 (.s 73) (.s 72),none⟩])) rfl T1 (λi a=>zcl r1 r12 (u21.drop i) a=some o1/\a.length=(Int.toNat r12.1)) (λx L1=>match x with | .normal=>∃ a,o1=a/\a.length=(Int.toNat r12.1)/\L1=T1 a | .ret=>L1.length=8/\zc1 (8+1) L1/\(zkj [.cell 4 (some 3),.cell 5 none] ((.tup [(.agg [(fzE true (eI .i64) r.1.vars),(fzE true (eI .i64) r.1.zae),(fzE true (eI .i64) r.1.w)]),(dI r.2)]))) .ret ⟨113,[(4,(.ptr 2 0)),(5,(.ptr 3 0)),(6,(.ptr 4 0)),(8,(.ptr 5 0)),(9,(fzE true (eI .i64) r10.1)),(10,(fzE true (eI .i64) r10.2)),(12,(.ptr 7 0)),(62,(.clo 125 [] [(.fptr false ((eL (eI .i64)).c false r19.1)),(.fptr false ((eL (eI .i64)).c false r19.2))]))],L1 ++ [.lost]⟩| _=>False) y15 ?_ (qaz _) ?_ ?_ ?_ (λd L1 hx=>hx.elim) ?_ ?_ ?_ ?_ ?_ ?_
 .intro a; rw[hM1]; rfl
 .exact⟨(qae rfl),(qae rfl),(qae rfl),(qae rfl),qdv,qdv,(qae rfl),⟨qdv,⟨qdv,qdv,qdv⟩⟩,qdv⟩
 .intro a; rw[hM1]; exact⟨⟨qdv,qdv,qdv,qdv⟩,⟨qdv,qdv,qdv,qdv⟩,⟨qdv,qdv,qdv,qdv⟩,⟨qdv,qdv⟩,⟨qdv,qdv,qdv,qdv,qdv⟩,⟨qdv,qdv,qdv,qdv,qdv⟩,(zdC (eI .i64) _ _ _),⟨(qae rfl),qdv⟩,qdv⟩
 .intro x L1 hx;cases x with
  | normal=>obtain⟨a,_,_,rfl⟩:=hx; exact⟨by rw[hM1]; rfl,by rw[hM1]; exact⟨⟨qdv,qdv,qdv,qdv⟩,⟨qdv,qdv,qdv,qdv⟩,⟨qdv,qdv,qdv,qdv⟩,⟨qdv,qdv⟩,⟨qdv,qdv,qdv,qdv,qdv⟩,⟨qdv,qdv,qdv,qdv,qdv⟩,(zdC (eI .i64) _ _ _),⟨(qae rfl),qdv⟩,qdv⟩⟩
  | ret=>exact⟨hx.1,hx.2.1⟩
  | exit id=>exact hx.elim
  | panic d=>exact hx.elim
 .exact⟨j1,zbp g16⟩
 .rintro i l6 y23 args G lpF hy ⟨hi1,el6⟩ ⟨rfl,rfl⟩ hkin;rw[zfv hy]at hi1;simp only[zcl]at hi1;refine⟨_,_,rfl,rfl,?_⟩;rw[congrFun hM1 l6];refine zag ?_;obtain⟨x24,g25,hi1⟩:=bsM hi1;obtain⟨x26,g27,hi1⟩:=bsM hi1;obtain⟨y28,g29,hi1⟩:=bsM hi1;refine sXM (anM (ixM g25) (anM el6 (anM (za4 g27) (anM (ltM el6 g27) (anM (giM g27) (siM g29)))))) ?_;exact⟨T1 y28,by rw[hM1]; rfl,by rw[hM1]; exact za8.mK [.k,.k,.k,.k,.k,.k,.k,.k,.k,.k] rfl rfl qdv ⟨MB.cs ⟨qdv,qdv,qdv,qdv⟩,⟨MB.cs ⟨qdv,qdv,qdv,qdv⟩,⟨MB.cs ⟨qdv,qdv,qdv,qdv⟩,⟨MB.cs ⟨qdv,qdv⟩,⟨MB.cs ⟨qdv,qdv,qdv,qdv,qdv⟩,⟨MB.cs ⟨qdv,qdv,qdv,qdv,qdv⟩,⟨MB.es (eI .i64) true y28,⟨MB.cs ⟨rfl,qdv⟩,⟨.same (hkin _ (by decide)),⟨MB.same (zei _ _ _ _),qdv⟩⟩⟩⟩⟩⟩⟩⟩⟩⟩,y28,⟨hi1,(zaZ g29).trans el6⟩,rfl⟩
 .rintro l6 ⟨hi1,el6⟩;rw[qbq]at hi1;simp only[zcl]at hi1;exact⟨l6,(qaj hi1).symm,el6,rfl⟩
 .rintro _ ⟨l6,oeq,el6,rfl⟩;have oeq2:=oeq.symm;subst oeq2;rw[congrFun hM1 l6];refine zag ?_;obtain⟨r30,g31,h⟩:=bsM h;refine sSM ?_;refine fCM (zcC g31) ?_;obtain⟨r32,g33,h⟩:=bsM h;refine sSM ?_;refine fDM (zcZ g33) ?_;obtain⟨u34,g35,h⟩:=bsM h;obtain⟨o4,j4,h⟩:=bsM h;obtain⟨T4,hM4⟩:∃ T:(List Int)->List LB,T=(λa=>[.cells [(fzE false (eI .i64) p0.vars),(fzE false (eI .i64) p0.zae),(fzE false (eI .i64) p0.w)],.cells [(fzE false (eI .i64) p1.vars),(fzE false (eI .i64) p1.zae),(fzE false (eI .i64) p1.w)],.cells [zbU,zbU,zbU],.cells [(dI 0)],.cells [(fzE false (eI .i64) r1.1.factor.vars),(fzE false (eI .i64) r1.1.factor.zae),(fzE false (eI .i64) r1.1.factor.w),(fzE false (eI .i64) r1.1.steps)],.cells [(fzE false (eI .i64) r4.1.factor.vars),(fzE false (eI .i64) r4.1.factor.zae),(fzE false (eI .i64) r4.1.factor.w),(fzE false (eI .i64) r4.1.steps)],.els 1 (a.map ((eI .i64).c true)),.cells [(.sl 6 0 1 (Int.toNat r12.1) (some (Int.toNat r12.1)) (Int.toNat r12.1))],.lost]):=⟨_,rfl⟩;refine EvL.zgK (S':=⟨113,[(4,(.ptr 2 0)),(5,(.ptr 3 0)),(8,(.ptr 5 0)),(9,(fzE true (eI .i64) r10.1)),(10,(fzE true (eI .i64) r10.2)),(12,(.ptr 7 0)),(78,(.clo 125 [] [(.fptr false ((eL (eI .i64)).c false r32.1)),(.fptr false ((eL (eI .i64)).c false r32.2))]))],T4 l6⟩) (by rw[hM4]; exact wm0 [.k,.k,.k,.k,.k,.k,.k,.k,.k] ⟨MB.cs ⟨qdv,qdv,qdv,qdv⟩,⟨MB.cs ⟨qdv,qdv,qdv,qdv⟩,⟨MB.cs ⟨qdv,qdv,qdv,qdv⟩,⟨MB.cs ⟨qdv,qdv⟩,⟨MB.cs ⟨qdv,qdv,qdv,qdv,qdv⟩,⟨MB.cs ⟨qdv,qdv,qdv,qdv,qdv⟩,⟨MB.es (eI .i64) true l6,⟨MB.cs ⟨rfl,qdv⟩,⟨MB.same trivial,qdv⟩⟩⟩⟩⟩⟩⟩⟩⟩) ?_;refine EvL.zfS (n0:=9) (zcy g35) rfl (bm:=.block 3 (.seq (.reg true false [⟨some 82,.load none (.s 12),none⟩,⟨some 83,.mov (.s 15),none⟩,⟨some 84,.idxS 1 (.s 82) (.s 83),none⟩,⟨some 85,.load none (.s 84),none⟩,⟨some 86,.conv .u64 (.s 85),none⟩,⟨some 87,.fld 0 (.s 8),none⟩,⟨some 88,.fld 2 (.s 87),none⟩,⟨some 89,.load none (.s 88),none⟩,⟨some 90,.mov (.s 16),none⟩,⟨some 91,.idxS 1 (.s 89) (.s 90),none⟩,⟨some 92,.load none (.s 91),none⟩,⟨some 93,.conv .u64 (.s 92),none⟩,⟨some 94,.call 128 [(.s 86),(.s 93)],none⟩,⟨some 81,.mov (.s 94),none⟩,⟨some 95,.ext (.s 81) 0,none⟩,⟨some 96,.ext (.s 81) 1,none⟩,⟨some 17,.mov (.s 95),none⟩,⟨some 18,.mov (.s 96),none⟩]) (.seq (.seq (.scope (.reg false false [⟨some 97,.mov (.s 17),none⟩,⟨some 98,.bin .neq (.s 97) (.c (.int .u64 0)),none⟩,⟨some 99,.mov (.s 98),none⟩,⟨some 100,.mov (.s 18),some (99,false)⟩,⟨some 101,.bin .gtr (.s 100) (.c (.int .u64 4611686018427387903)),some (99,false)⟩,⟨some 102,.pick (.s 99) (.c (.bool true)) (.s 101),none⟩])) (.cond (.s 102) (.seq (.reg false false [⟨some 103,.build [(.slice none 0 0),(.slice none 0 0),(.slice none 0 0)] [],none⟩,⟨none,.store 3 (.s 4) (.s 103),none⟩,⟨none,.store 1 (.s 5) (.c (.int .i64 6)),none⟩]) (.ret)) (.skip))) (.reg false false [⟨some 104,.load none (.s 12),none⟩,⟨some 105,.mov (.s 15),none⟩,⟨some 106,.mov (.s 18),none⟩,⟨some 107,.conv .i64 (.s 106),none⟩,⟨some 108,.idxS 1 (.s 104) (.s 105),none⟩,⟨none,.store 1 (.s 108) (.s 107),none⟩])))) rfl T4 (λi a=>zcg r4 r12 (u34.drop i) a=some o4/\a.length=(Int.toNat r12.1)) (λx L1=>match x with | .normal=>∃ a,o4=.go a/\a.length=(Int.toNat r12.1)/\L1=T4 a | .ret=>L1.length=9/\zc1 (9+1) L1/\(zkj [.cell 4 (some 3),.cell 5 none] ((.tup [(.agg [(fzE true (eI .i64) r.1.vars),(fzE true (eI .i64) r.1.zae),(fzE true (eI .i64) r.1.w)]),(dI r.2)]))) .ret ⟨113,[(4,(.ptr 2 0)),(5,(.ptr 3 0)),(8,(.ptr 5 0)),(9,(fzE true (eI .i64) r10.1)),(10,(fzE true (eI .i64) r10.2)),(12,(.ptr 7 0)),(78,(.clo 125 [] [(.fptr false ((eL (eI .i64)).c false r32.1)),(.fptr false ((eL (eI .i64)).c false r32.2))]))],L1 ++ [.lost]⟩| _=>False) l6 ?_ (qaz _) ?_ ?_ ?_ (λd L1 hx=>hx.elim) ?_ ?_ ?_ ?_ ?_ ?_
  .intro a; rw[hM4]; rfl
  .exact⟨(qae rfl),(qae rfl),(qae rfl),qdv,qdv,(qae rfl),⟨qdv,⟨qdv,qdv,qdv⟩⟩,qdv⟩
  .intro a; rw[hM4]; exact⟨⟨qdv,qdv,qdv,qdv⟩,⟨qdv,qdv,qdv,qdv⟩,⟨qdv,qdv,qdv,qdv⟩,⟨qdv,qdv⟩,⟨qdv,qdv,qdv,qdv,qdv⟩,⟨qdv,qdv,qdv,qdv,qdv⟩,(zdC (eI .i64) _ _ _),⟨(qae rfl),qdv⟩,qdv,qdv⟩
  .intro x L1 hx;cases x with
   | normal=>obtain⟨a,_,_,rfl⟩:=hx; exact⟨by rw[hM4]; rfl,by rw[hM4]; exact⟨⟨qdv,qdv,qdv,qdv⟩,⟨qdv,qdv,qdv,qdv⟩,⟨qdv,qdv,qdv,qdv⟩,⟨qdv,qdv⟩,⟨qdv,qdv,qdv,qdv,qdv⟩,⟨qdv,qdv,qdv,qdv,qdv⟩,(zdC (eI .i64) _ _ _),⟨(qae rfl),qdv⟩,qdv,qdv⟩⟩
   | ret=>exact⟨hx.1,hx.2.1⟩
   | exit id=>exact hx.elim
   | panic d=>exact hx.elim
  .exact⟨j4,el6⟩
  .rintro i l6' y36 args G lpF hy ⟨hi4,el6'⟩ ⟨rfl,rfl⟩ hkin;rw[zfv hy]at hi4;simp only[zcg]at hi4;refine⟨_,_,rfl,rfl,?_⟩;rw[congrFun hM4 l6'];refine zag ?_;obtain⟨x37,g38,hi4⟩:=bsM hi4;obtain⟨x39,g40,hi4⟩:=bsM hi4;obtain⟨r41,g42,hi4⟩:=bsM hi4;refine sXM (anM el6' (anM (za4 g38) (anM (ltM el6' g38) (anM (giM g38) (ixM g40))))) ?_;refine fCM (zmv g42) ?_;obtain⟨o5,j5,hi4⟩:=bsM hi4;obtain⟨T5,hT5⟩:=mkT λa:Bool=>⟨113,[(4,(.ptr 2 0)),(5,(.ptr 3 0)),(12,(.ptr 7 0)),(15,(dI y36.1)),(18,(dU r41.2)),(102,(dB a))],[.cells [(fzE false (eI .i64) p0.vars),(fzE false (eI .i64) p0.zae),(fzE false (eI .i64) p0.w)],.cells [(fzE false (eI .i64) p1.vars),(fzE false (eI .i64) p1.zae),(fzE false (eI .i64) p1.w)],.cells [zbU,zbU,zbU],.cells [(dI 0)],.cells [(fzE false (eI .i64) r1.1.factor.vars),(fzE false (eI .i64) r1.1.factor.zae),(fzE false (eI .i64) r1.1.factor.w),(fzE false (eI .i64) r1.1.steps)],.cells [(fzE false (eI .i64) r4.1.factor.vars),(fzE false (eI .i64) r4.1.factor.zae),(fzE false (eI .i64) r4.1.factor.w),(fzE false (eI .i64) r4.1.steps)],.els 1 (l6'.map ((eI .i64).c true)),.cells [(.sl 6 0 1 (Int.toNat r12.1) (some (Int.toNat r12.1)) (Int.toNat r12.1))],.lost,lpF,.els 1 (y36.2.2.map ((eI .i64).c true))]⟩
   refine EvL.jn T5 (λa=>a=o5) ?_ ?_
   .refine wSM ?_;refine cBM j5 (λ_ j5=>?_) λ_ j5=>?_
    .obtain rfl:=qaj j5;exact⟨_,rfl,by rw[hT5]; exact za8.mK (k0:=11) [.k,.k,.k,.k,.k,.k,.k,.k,.k,.k,.k] rfl rfl (msq (msq (msq (msq (msq (msq trivial)))))) ⟨MB.cs ⟨qdv,qdv,qdv,qdv⟩,⟨MB.cs ⟨qdv,qdv,qdv,qdv⟩,⟨MB.cs ⟨qdv,qdv,qdv,qdv⟩,⟨MB.cs ⟨qdv,qdv⟩,⟨MB.cs ⟨qdv,qdv,qdv,qdv,qdv⟩,⟨MB.cs ⟨qdv,qdv,qdv,qdv,qdv⟩,⟨MB.es (eI .i64) true l6',⟨MB.cs ⟨rfl,qdv⟩,⟨MB.same trivial,⟨.same (hkin _ (by decide)),⟨MB.es (eI .i64) true y36.2.2,qdv⟩⟩⟩⟩⟩⟩⟩⟩⟩⟩⟩⟩
    obtain rfl:=qaj j5;exact⟨_,rfl,by rw[hT5]; exact za8.mK (k0:=11) [.k,.k,.k,.k,.k,.k,.k,.k,.k,.k,.k] rfl rfl (msq (msq (msq (msq (msq (msq trivial)))))) ⟨MB.cs ⟨qdv,qdv,qdv,qdv⟩,⟨MB.cs ⟨qdv,qdv,qdv,qdv⟩,⟨MB.cs ⟨qdv,qdv,qdv,qdv⟩,⟨MB.cs ⟨qdv,qdv⟩,⟨MB.cs ⟨qdv,qdv,qdv,qdv,qdv⟩,⟨MB.cs ⟨qdv,qdv,qdv,qdv,qdv⟩,⟨MB.es (eI .i64) true l6',⟨MB.cs ⟨rfl,qdv⟩,⟨MB.same trivial,⟨.same (hkin _ (by decide)),⟨MB.es (eI .i64) true y36.2.2,qdv⟩⟩⟩⟩⟩⟩⟩⟩⟩⟩⟩⟩
   rintro v102 rfl;refine wTM hT5 ?_;refine cBM hi4 (λ_ hi4=>?_) λ_ hi4=>?_
   .obtain⟨x45,g46,hi4⟩:=bsM hi4;obtain⟨y47,g48,hi4⟩:=bsM hi4;refine sXM (anM el6' (anM (za4 g46) (anM (ltM el6' g46) (anM (giM g46) (siM g48))))) ?_;exact⟨T4 y47,by rw[hM4]; rfl,by rw[hM4]; exact za8.mK [.k,.k,.k,.k,.k,.k,.k,.k,.k,.k,.k] rfl rfl qdv ⟨MB.cs ⟨qdv,qdv,qdv,qdv⟩,⟨MB.cs ⟨qdv,qdv,qdv,qdv⟩,⟨MB.cs ⟨qdv,qdv,qdv,qdv⟩,⟨MB.cs ⟨qdv,qdv⟩,⟨MB.cs ⟨qdv,qdv,qdv,qdv,qdv⟩,⟨MB.cs ⟨qdv,qdv,qdv,qdv,qdv⟩,⟨MB.es (eI .i64) true y47,⟨MB.cs ⟨rfl,qdv⟩,⟨MB.same trivial,⟨.same (hkin _ (by decide)),⟨MB.same (zei _ _ _ _),qdv⟩⟩⟩⟩⟩⟩⟩⟩⟩⟩⟩,y47,⟨hi4,(zaZ g48).trans el6'⟩,rfl⟩
   obtain rfl:=qaj hi4;obtain rfl:=qaj h;exact⟨[.cells [(fzE false (eI .i64) p0.vars),(fzE false (eI .i64) p0.zae),(fzE false (eI .i64) p0.w)],.cells [(fzE false (eI .i64) p1.vars),(fzE false (eI .i64) p1.zae),(fzE false (eI .i64) p1.w)],.cells [zbU,zbU,zbU],.cells [(dI 6)],.cells [(fzE false (eI .i64) r1.1.factor.vars),(fzE false (eI .i64) r1.1.factor.zae),(fzE false (eI .i64) r1.1.factor.w),(fzE false (eI .i64) r1.1.steps)],.cells [(fzE false (eI .i64) r4.1.factor.vars),(fzE false (eI .i64) r4.1.factor.zae),(fzE false (eI .i64) r4.1.factor.w),(fzE false (eI .i64) r4.1.steps)],.els 1 (l6'.map ((eI .i64).c true)),.cells [(.sl 6 0 1 (Int.toNat r12.1) (some (Int.toNat r12.1)) (Int.toNat r12.1))],.lost],rfl,za8.mK [.k,.k,.k,.k,.k,.k,.k,.k,.k,.k,.k] rfl rfl qdv ⟨MB.cs ⟨qdv,qdv,qdv,qdv⟩,⟨MB.cs ⟨qdv,qdv,qdv,qdv⟩,⟨MB.cs ⟨qdv,qdv,qdv,qdv⟩,⟨MB.cs ⟨qdv,qdv⟩,⟨MB.cs ⟨qdv,qdv,qdv,qdv,qdv⟩,⟨MB.cs ⟨qdv,qdv,qdv,qdv,qdv⟩,⟨MB.es (eI .i64) true l6',⟨MB.cs ⟨rfl,qdv⟩,⟨MB.same trivial,⟨.same (hkin _ (by decide)),⟨MB.same (zei _ _ _ _),qdv⟩⟩⟩⟩⟩⟩⟩⟩⟩⟩⟩,rfl,⟨⟨qdv,qdv,qdv,qdv⟩,⟨qdv,qdv,qdv,qdv⟩,⟨qdv,qdv,qdv,qdv⟩,⟨qdv,qdv⟩,⟨qdv,qdv,qdv,qdv,qdv⟩,⟨qdv,qdv,qdv,qdv,qdv⟩,(zdC (eI .i64) _ _ _),⟨(qae rfl),qdv⟩,qdv,qdv⟩,zkj.ret rfl (Snp.zA8 (.cons (.zAQ (.cons (zix (eI .i64)) (.cons (zix (eI .i64)) (.cons (zix (eI .i64)) .nil)))) (.cons (.lit _) .nil)))⟩
  .rintro l6' ⟨hi4,el6'⟩;rw[qbq]at hi4;simp only[zcg]at hi4;exact⟨l6',(qaj hi4).symm,el6',rfl⟩
  .rintro _ ⟨l6',oeq,el6',rfl⟩;have oeq2:=oeq.symm;subst oeq2;dsimp only at h;rw[congrFun hM4 l6'];refine wSM ?_;exact rHM h
  .intro id L1 hx; exact hx.elim
  intro L1 hx; exact hx.2.2
 .intro id L1 hx; exact hx.elim
 intro L1 hx; exact hx.2.2
def zd4(p0:Int)(p1:Int):Option (Int×Bool):=
some ((w64 (p0+p1)),(decide ((w64 (p0+p1))<=4611686018427387903)))
theorem zmd{p0:Int}{p1:Int}{r:(Int×Bool)}(h:zd4 p0 p1=some r):Lx.Fn mC 95 [(dI p0),(dI p1)] (.tup [(dI r.1),(dB r.2)]):=by
 refine gnO ?_;unfold zd4 at h;refine wSM ?_;exact rHM h
def zaE(p1:(List Int))(p0:S_factor_table):Nat->Int->Int->(List Int)->Option (Int×(List Int))
 | 0,_,_,_=>none
 | n+1,v9,v24,l3=>(
bif (decide (v24<(p1.length:Int)))then(
(zaO p1 v24).bind λx4=>
(zap p0 x4).bind λr6=>
(zaO p0.factor.zae r6).bind λx8=>
(zaO l3 v24).bind λx10=>
(ze5 l3 v24 x8).bind λy12=>
zaE p1 p0 n (w64 (v9 * x8)) (w64 (v24+1)) y12)
else(
some (v9,l3)))
def zau(p1:(List Int))(p0:S_factor_table)(l3:(List Int)):Nat->Int->Int->(List Int)->Option (List Int)
 | 0,_,_,_=>none
 | n+1,v14,v15,l6=>(
bif (decide (0<=v15))then(
(zaO p1 v15).bind λx19=>
(zap p0 x19).bind λr21=>
(zaO l6 r21).bind λx23=>
(ze5 l6 r21 v14).bind λy25=>
(zaO l3 v15).bind λx27=>
zau p1 p0 l3 n (w64 (v14 * x27)) (w64 (v15 - 1)) y25)
else(
some l6))
def zaw(p0:S_factor_table)(v9:Int):List (Int×Int×(List Int))->(List Int)->Option (Out3 (List Int) (List Int) Empty)
 | [],l4=>some (.go l4)
 | y33 :: ys,l4=>(
(zaO l4 y33.2.1).bind λx34=>
(zaO p0.factor.w y33.1).bind λx36=>
(zd4 x34 x36).bind λr38=>
(ze5 l4 y33.2.1 r38.1).bind λy40=>
bif r38.2 then(
zaw p0 v9 ys y40)
else(
some (.brk y40)))
def za9(p0:S_factor_table)(p1:(List Int)):Option (S_api_Factor×Int):=
(zeh 8 (p1.length:Int) 0).bind λy1=>
((zaE p1 p0 ((p1.length:Int) - 0+2:Int).toNat 1 0 y1:Option ((Int×(List Int))))).bind λo=>match o with
|(v9,l3)=>(
(zeh 8 v9 0).bind λy14=>
(zeh 8 (p0.factor.vars.length:Int) 0).bind λy16=>
((zau p1 p0 l3 ((w64 ((p1.length:Int) - 1)) - 0+2:Int).toNat 1 (w64 ((p1.length:Int) - 1)) y16:Option (List Int))).bind λl6=>
(zbO p0.factor.zae l6).bind λr29=>
(((zyS r29.1 r29.2).bind λu31=>
((zaw p0 v9 u31 y14:Option (Out3 (List Int) (List Int) Empty))).bind λo=>match o with
| .go l4=>(
some (true,l4))
| .brk l4=>(
some (false,l4))
| .ret r=>nomatch r:Option ((Bool×(List Int))))).bind λo=>match o with
|(b7_0,l4)=>(
bif b7_0 then(
some ((S_api_Factor.mk p1 l3 l4),0))
else(
some ((S_api_Factor.mk [] [] []),6))))
theorem ze2{p0:S_factor_table}{p1:(List Int)}(h:za9 p0 p1=some r):Lx.FnA mC 94 [(.agg [(fzE false (eI .i64) p0.factor.vars),(fzE false (eI .i64) p0.factor.zae),(fzE false (eI .i64) p0.factor.w),(fzE false (eI .i64) p0.steps)]),(fzE false (eI .i64) p1),(.agg [(.clo 95 [] [])])] (.tup [(.agg [(fzE false (eI .i64) r.1.vars),(fzE false (eI .i64) r.1.zae),(fzE false (eI .i64) r.1.w)]),(dI r.2)]):=by
 refine zE9 (List.range 19) [19,20] ?_;unfold za9 at h;refine wSM ?_;refine EvL.scope (zag ?_);obtain⟨y1,g2,h⟩:=bsM h;refine sXM (anM ((zav g2).1.1) (anM ((zav g2).1.2) (anM @qbU (miM g2)))) ?_;obtain⟨o8,j8,h⟩:=bsM h;obtain⟨T8,hT8⟩:=mkT λa:(Int×(List Int))=>⟨112,[(1,(fzE false (eI .i64) p1)),(3,(.ptr 0 0)),(5,(.ptr 1 0)),(6,(.ptr 2 0)),(8,(.sl 3 0 1 (Int.toNat (p1.length:Int)) (some (Int.toNat (p1.length:Int))) (Int.toNat (p1.length:Int)))),(9,(dI a.1))],[.cells [(fzE false (eI .i64) p0.factor.vars),(fzE false (eI .i64) p0.factor.zae),(fzE false (eI .i64) p0.factor.w),(fzE false (eI .i64) p0.steps)],.cells [(.clo 95 [] [])],.cells [zbU,zbU,zbU],.els 1 (a.2.map ((eI .i64).c true))]⟩
 refine EvL.jn T8 (λa=>a=o8/\a.2.length=(Int.toNat (p1.length:Int))) ?_ ?_
 .refine wSM ?_;obtain⟨T9,hT9⟩:=mkT λa:(Int×Int×(List Int))=>⟨112,[(1,(fzE false (eI .i64) p1)),(3,(.ptr 0 0)),(5,(.ptr 1 0)),(6,(.ptr 2 0)),(8,(.sl 3 0 1 (Int.toNat (p1.length:Int)) (some (Int.toNat (p1.length:Int))) (Int.toNat (p1.length:Int)))),(9,(dI a.1)),(22,(fzE false (eI .i64) p1)),(23,(dI (p1.length:Int))),(24,(dI a.2.1))],[.cells [(fzE false (eI .i64) p0.factor.vars),(fzE false (eI .i64) p0.factor.zae),(fzE false (eI .i64) p0.factor.w),(fzE false (eI .i64) p0.steps)],.cells [(.clo 95 [] [])],.cells [zbU,zbU,zbU],.els 1 (a.2.2.map ((eI .i64).c true))]⟩
  refine EvL.rounds (α:=(Int×Int×(List Int))) T9 (λn a=>zaE p1 p0 n a.1 a.2.1 a.2.2=some o8/\a.2.2.length=(Int.toNat (p1.length:Int))) ((p1.length:Int) - 0+2:Int).toNat (1,0,y1) (by rw[hT9]; exact wm0 [.k,.k,.k,.k] ⟨MB.cs ⟨qdv,qdv,qdv,qdv,qdv⟩,⟨MB.cs ⟨⟨qdv,qdv⟩,qdv⟩,⟨MB.cs ⟨qdv,qdv,qdv,qdv⟩,⟨MB.es (eI .i64) true y1,qdv⟩⟩⟩⟩) ⟨j8,zbp g2⟩ (λ_ h=>nomatch (show(none:Option (Int×(List Int)))=some o8 from h.1)) ?_;rintro n ⟨v9,v24,l3⟩ ⟨j8,el3⟩;simp only[zaE]at j8;refine wTM hT9 ?_;refine cBM j8 (λ_ j8=>?_) λ_ j8=>?_
  .obtain rfl:=qaj j8;exact⟨_,⟨rfl,el3⟩,by rw[hT8]; exact wm0 [.k,.k,.k,.k] ⟨MB.cs ⟨qdv,qdv,qdv,qdv,qdv⟩,⟨MB.cs ⟨⟨qdv,qdv⟩,qdv⟩,⟨MB.cs ⟨qdv,qdv,qdv,qdv⟩,⟨MB.es (eI .i64) true l3,qdv⟩⟩⟩⟩⟩
  obtain⟨x4,g5,j8⟩:=bsM j8;obtain⟨r6,g7,j8⟩:=bsM j8;refine sXM (ixM g5) ?_;refine fCM (zaJ g7) ?_;obtain⟨x8,g9,j8⟩:=bsM j8;obtain⟨x10,g11,j8⟩:=bsM j8;obtain⟨y12,g13,j8⟩:=bsM j8;refine sXM (anM (ixM g9) (anM el3 (anM (za4 g11) (anM (ltM el3 g11) (anM (giM g11) (anM (siM g13) (anM ((zaZ g13).trans el3) (zcW (zvw g13) ((eI .i64).c true))))))))) ?_;exact⟨((w64 (v9 * x8)),(w64 (v24+1)),y12),⟨j8,(zaZ g13).trans el3⟩,by rw[hT9]; exact wm0 [.k,.k,.k,.k] ⟨MB.cs ⟨qdv,qdv,qdv,qdv,qdv⟩,⟨MB.cs ⟨⟨qdv,qdv⟩,qdv⟩,⟨MB.cs ⟨qdv,qdv,qdv,qdv⟩,⟨MB.es (eI .i64) true y12,qdv⟩⟩⟩⟩⟩
 rintro⟨v9,l3⟩ ⟨rfl,el3⟩;dsimp only at h;refine wTM hT8 ?_;obtain⟨y14,g15,h⟩:=bsM h;obtain⟨y16,g17,h⟩:=bsM h;refine sXM (anM ((zav g15).1.1) (anM ((zav g15).1.2) (anM @qbU (anM (miM g15) (anM ((zav g17).1.1) (anM ((zav g17).1.2) (miM g17))))))) ?_;obtain⟨o10,j10,h⟩:=bsM h;obtain⟨T10,hT10⟩:=zey hT8 λa:(List Int)=>uDM (T8 (v9,l3)) [9] [(12,(.ptr 5 0)),(13,(.sl 6 0 1 (Int.toNat (p0.factor.vars.length:Int)) (some (Int.toNat (p0.factor.vars.length:Int))) (Int.toNat (p0.factor.vars.length:Int))))] [] [.els 1 (y14.map ((eI .i64).c true)),.cells [(.sl 4 0 1 (Int.toNat v9) (some (Int.toNat v9)) (Int.toNat v9))],.els 1 (a.map ((eI .i64).c true))]
 refine EvL.jn T10 (λa=>a=o10/\a.length=(Int.toNat (p0.factor.vars.length:Int))) ?_ ?_
 .refine wSM ?_;obtain⟨T11,hT11⟩:=zey hT8 λa:(Int×Int×(List Int))=>uDM (T8 (v9,l3)) [9] [(12,(.ptr 5 0)),(13,(.sl 6 0 1 (Int.toNat (p0.factor.vars.length:Int)) (some (Int.toNat (p0.factor.vars.length:Int))) (Int.toNat (p0.factor.vars.length:Int)))),(14,(dI a.1)),(15,(dI a.2.1))] [] [.els 1 (y14.map ((eI .i64).c true)),.cells [(.sl 4 0 1 (Int.toNat v9) (some (Int.toNat v9)) (Int.toNat v9))],.els 1 (a.2.2.map ((eI .i64).c true))]
  refine EvL.rounds (α:=(Int×Int×(List Int))) T11 (λn a=>zau p1 p0 l3 n a.1 a.2.1 a.2.2=some o10/\a.2.2.length=(Int.toNat (p0.factor.vars.length:Int))) ((w64 ((p1.length:Int) - 1)) - 0+2:Int).toNat (1,(w64 ((p1.length:Int) - 1)),y16) (by rw[hT11]; exact wm0 [.k,.k,.k,.k,.k,.k,.k] ⟨MB.cs ⟨qdv,qdv,qdv,qdv,qdv⟩,⟨MB.cs ⟨⟨qdv,qdv⟩,qdv⟩,⟨MB.cs ⟨qdv,qdv,qdv,qdv⟩,⟨MB.es (eI .i64) true l3,⟨MB.es (eI .i64) true y14,⟨MB.cs ⟨rfl,qdv⟩,⟨MB.es (eI .i64) true y16,qdv⟩⟩⟩⟩⟩⟩⟩) ⟨j10,zbp g17⟩ (λ_ h=>nomatch (show(none:Option (List Int))=some o10 from h.1)) ?_;rintro n ⟨v14,v15,l6⟩ ⟨j10,el6⟩;simp only[zau]at j10;refine wTM hT11 ?_;refine cBM j10 (λ_ j10=>?_) λ_ j10=>?_
  .obtain rfl:=qaj j10;exact⟨_,⟨rfl,el6⟩,by rw[hT10]; exact wm0 [.k,.k,.k,.k,.k,.k,.k] ⟨MB.cs ⟨qdv,qdv,qdv,qdv,qdv⟩,⟨MB.cs ⟨⟨qdv,qdv⟩,qdv⟩,⟨MB.cs ⟨qdv,qdv,qdv,qdv⟩,⟨MB.es (eI .i64) true l3,⟨MB.es (eI .i64) true y14,⟨MB.cs ⟨rfl,qdv⟩,⟨MB.es (eI .i64) true l6,qdv⟩⟩⟩⟩⟩⟩⟩⟩
  obtain⟨x19,g20,j10⟩:=bsM j10;obtain⟨r21,g22,j10⟩:=bsM j10;refine sXM (ixM g20) ?_;refine fCM (zaJ g22) ?_;obtain⟨x23,g24,j10⟩:=bsM j10;obtain⟨y25,g26,j10⟩:=bsM j10;obtain⟨x27,g28,j10⟩:=bsM j10;refine sXM (anM el6 (anM (za4 g24) (anM (ltM el6 g24) (anM (giM g24) (anM (siM g26) (anM el3 (anM (za4 g28) (anM (ltM el3 g28) (giM g28))))))))) ?_;exact⟨((w64 (v14 * x27)),(w64 (v15 - 1)),y25),⟨j10,(zaZ g26).trans el6⟩,by rw[hT11]; exact wm0 [.k,.k,.k,.k,.k,.k,.k] ⟨MB.cs ⟨qdv,qdv,qdv,qdv,qdv⟩,⟨MB.cs ⟨⟨qdv,qdv⟩,qdv⟩,⟨MB.cs ⟨qdv,qdv,qdv,qdv⟩,⟨MB.es (eI .i64) true l3,⟨MB.es (eI .i64) true y14,⟨MB.cs ⟨rfl,qdv⟩,⟨MB.es (eI .i64) true y25,qdv⟩⟩⟩⟩⟩⟩⟩⟩
 rintro l6 ⟨rfl,el6⟩;refine wTM hT10 ?_;refine EvL.zgK (S':=⟨112,[(1,(fzE false (eI .i64) p1)),(3,(.ptr 0 0)),(5,(.ptr 1 0)),(6,(.ptr 2 0)),(8,(.sl 3 0 1 (Int.toNat (p1.length:Int)) (some (Int.toNat (p1.length:Int))) (Int.toNat (p1.length:Int)))),(12,(.ptr 5 0)),(16,(.ptr 7 0)),(78,(fzE false (eI .i64) p0.factor.zae)),(79,(fzE true (eI .i64) l6))],[.cells [(fzE false (eI .i64) p0.factor.vars),(fzE false (eI .i64) p0.factor.zae),(fzE false (eI .i64) p0.factor.w),(fzE false (eI .i64) p0.steps)],.cells [(.clo 95 [] [])],.cells [zbU,zbU,zbU],.els 1 (l3.map ((eI .i64).c true)),.els 1 (y14.map ((eI .i64).c true)),.cells [(.sl 4 0 1 (Int.toNat v9) (some (Int.toNat v9)) (Int.toNat v9))],.gone,.cells [(dB true)]]⟩) (za8.m0 [.k,.k,.k,.k,.k,.k,.f,.k] rfl (msq (msq (msq (msq (msq (msq (msq (msq (mf rfl (zni (e:=(eI .i64)) (t:=true) rfl rfl (.inl rfl) (el6).symm (el6).symm (λk h=>by cases h; exact qao _) (λh=>by cases h<;>rfl)) trivial))))))))) ⟨MB.cs ⟨qdv,qdv,qdv,qdv,qdv⟩,⟨MB.cs ⟨⟨qdv,qdv⟩,qdv⟩,⟨MB.cs ⟨qdv,qdv,qdv,qdv⟩,⟨MB.es (eI .i64) true l3,⟨MB.es (eI .i64) true y14,⟨MB.cs ⟨rfl,qdv⟩,⟨rfl,⟨MB.cs ⟨qdv,qdv⟩,qdv⟩⟩⟩⟩⟩⟩⟩⟩) (zag ?_);obtain⟨r29,g30,h⟩:=bsM h;refine sSM ?_;refine fDM (zcZ g30) ?_;obtain⟨o13,j13,h⟩:=bsM h;obtain⟨T13,hT13⟩:=zey hT10 λa:(Bool×(List Int))=>uDM (T10 l6) [3,5,13] [(16,(.ptr 7 0))] [(0,.gone),(1,.gone),(4,.els 1 (a.2.map ((eI .i64).c true))),(6,.gone)] [.cells [(dB a.1)]]
 refine EvL.jn T13 (λa=>a=o13/\a.2.length=(Int.toNat v9)) ?_ ?_
 .refine wSM ?_;obtain⟨u31,g32,j13⟩:=bsM j13;obtain⟨o14,j14,j13⟩:=bsM j13;obtain⟨T14,hM14⟩:∃ T:(List Int)->List LB,T=(λa=>[.cells [(fzE false (eI .i64) p0.factor.vars),(fzE false (eI .i64) p0.factor.zae),(fzE false (eI .i64) p0.factor.w),(fzE false (eI .i64) p0.steps)],.cells [(.clo 95 [] [])],.cells [zbU,zbU,zbU],.els 1 (l3.map ((eI .i64).c true)),.els 1 (a.map ((eI .i64).c true)),.cells [(.sl 4 0 1 (Int.toNat v9) (some (Int.toNat v9)) (Int.toNat v9))],.gone,.cells [(dB true)]]):=⟨_,rfl⟩;obtain⟨TX14,hMX14⟩:∃ T:(List Int)->List LB,T=(λa=>[.cells [(fzE false (eI .i64) p0.factor.vars),(fzE false (eI .i64) p0.factor.zae),(fzE false (eI .i64) p0.factor.w),(fzE false (eI .i64) p0.steps)],.cells [(.clo 95 [] [])],.cells [zbU,zbU,zbU],.els 1 (l3.map ((eI .i64).c true)),.els 1 (a.map ((eI .i64).c true)),.cells [(.sl 4 0 1 (Int.toNat v9) (some (Int.toNat v9)) (Int.toNat v9))],.gone,.cells [(dB false)]]):=⟨_,rfl⟩;refine EvL.zgK (S':=⟨112,[(1,(fzE false (eI .i64) p1)),(3,(.ptr 0 0)),(5,(.ptr 1 0)),(6,(.ptr 2 0)),(8,(.sl 3 0 1 (Int.toNat (p1.length:Int)) (some (Int.toNat (p1.length:Int))) (Int.toNat (p1.length:Int)))),(12,(.ptr 5 0)),(16,(.ptr 7 0)),(80,(.clo 125 [] [(.fptr false ((eL (eI .i64)).c false r29.1)),(.fptr false ((eL (eI .i64)).c false r29.2))]))],T14 y14⟩) (by rw[hM14]; exact wm0 [.k,.k,.k,.k,.k,.k,.k,.k] ⟨MB.cs ⟨qdv,qdv,qdv,qdv,qdv⟩,⟨MB.cs ⟨⟨qdv,qdv⟩,qdv⟩,⟨MB.cs ⟨qdv,qdv,qdv,qdv⟩,⟨MB.es (eI .i64) true l3,⟨MB.es (eI .i64) true y14,⟨MB.cs ⟨rfl,qdv⟩,⟨MB.same trivial,⟨MB.cs ⟨qdv,qdv⟩,qdv⟩⟩⟩⟩⟩⟩⟩⟩) ?_;refine EvL.zfS (n0:=8) (zcy g32) rfl (bm:=.block 5 (.seq (.reg true true [⟨some 84,.load none (.s 12),none⟩,⟨some 85,.mov (.s 18),none⟩,⟨some 86,.fld 0 (.s 5),none⟩,⟨some 87,.load none (.s 86),none⟩,⟨some 88,.load none (.s 12),none⟩,⟨some 89,.mov (.s 18),none⟩,⟨some 90,.idxS 1 (.s 88) (.s 89),none⟩,⟨some 91,.load none (.s 90),none⟩,⟨some 92,.fld 0 (.s 3),none⟩,⟨some 93,.fld 2 (.s 92),none⟩,⟨some 94,.load none (.s 93),none⟩,⟨some 95,.mov (.s 17),none⟩,⟨some 96,.idxS 1 (.s 94) (.s 95),none⟩,⟨some 97,.load none (.s 96),none⟩,⟨some 98,.zdE (.s 87) [(.s 91),(.s 97)],none⟩,⟨some 83,.mov (.s 98),none⟩,⟨some 99,.ext (.s 83) 0,none⟩,⟨some 100,.ext (.s 83) 1,none⟩,⟨some 101,.idxS 1 (.s 84) (.s 85),none⟩,⟨none,.store 1 (.s 101) (.s 99),none⟩,⟨none,.store 1 (.s 16) (.s 100),none⟩]) (.block 6 (.seq (.reg false false [⟨some 103,.load none (.s 16),none⟩,⟨some 104,.un .not (.s 103),none⟩,⟨some 102,.mov (.s 104),none⟩]) (.cond (.s 102) (.exit 4) (.skip)))))) rfl T14 (λi a=>zaw p0 v9 (u31.drop i) a=some o14/\a.length=(Int.toNat v9)) (λx L1=>match x with | .normal=>∃ a,o14=.go a/\a.length=(Int.toNat v9)/\L1=T14 a | .exit id=>∃ a,o14=.brk a/\a.length=(Int.toNat v9)/\id=4/\L1=TX14 a | .ret=>L1.length=8/\zc1 (8+1) L1/\(zuT [.cell 6 (some 3),.tmp 7] ((.tup [(.agg [(fzE false (eI .i64) r.1.vars),(fzE false (eI .i64) r.1.zae),(fzE false (eI .i64) r.1.w)]),(dI r.2)]))) .ret ⟨112,[(1,(fzE false (eI .i64) p1)),(3,(.ptr 0 0)),(5,(.ptr 1 0)),(6,(.ptr 2 0)),(8,(.sl 3 0 1 (Int.toNat (p1.length:Int)) (some (Int.toNat (p1.length:Int))) (Int.toNat (p1.length:Int)))),(12,(.ptr 5 0)),(16,(.ptr 7 0)),(80,(.clo 125 [] [(.fptr false ((eL (eI .i64)).c false r29.1)),(.fptr false ((eL (eI .i64)).c false r29.2))]))],L1 ++ [.lost]⟩| _=>False) y14 ?_ (qaz _) ?_ ?_ ?_ (λd L1 hx=>hx.elim) ?_ ?_ ?_ ?_ ?_ ?_
  .intro a; rw[hM14]; rfl
  .exact⟨qdv,(qae rfl),(qae rfl),(qae rfl),(qae rfl),(qae rfl),(qae rfl),⟨qdv,⟨qdv,qdv,qdv⟩⟩,qdv⟩
  .intro a; rw[hM14]; exact⟨⟨qdv,qdv,qdv,qdv,qdv⟩,⟨⟨qdv,qdv⟩,qdv⟩,⟨qdv,qdv,qdv,qdv⟩,(zdC (eI .i64) _ _ _),(zdC (eI .i64) _ _ _),⟨(qae rfl),qdv⟩,qdv,⟨qdv,qdv⟩,qdv⟩
  .intro x L1 hx;cases x with
   | normal=>obtain⟨a,_,_,rfl⟩:=hx; exact⟨by rw[hM14]; rfl,by rw[hM14]; exact⟨⟨qdv,qdv,qdv,qdv,qdv⟩,⟨⟨qdv,qdv⟩,qdv⟩,⟨qdv,qdv,qdv,qdv⟩,(zdC (eI .i64) _ _ _),(zdC (eI .i64) _ _ _),⟨(qae rfl),qdv⟩,qdv,⟨qdv,qdv⟩,qdv⟩⟩
   | ret=>exact⟨hx.1,hx.2.1⟩
   | exit id=>obtain⟨a,_,_,_,rfl⟩:=hx; exact⟨by rw[hMX14]; rfl,by rw[hMX14]; exact⟨⟨qdv,qdv,qdv,qdv,qdv⟩,⟨⟨qdv,qdv⟩,qdv⟩,⟨qdv,qdv,qdv,qdv⟩,(zdC (eI .i64) _ _ _),(zdC (eI .i64) _ _ _),⟨(qae rfl),qdv⟩,qdv,⟨qdv,qdv⟩,qdv⟩⟩
   | panic d=>exact hx.elim
  .exact⟨j14,zbp g15⟩
  .rintro i l4 y33 args G lpF hy ⟨hi14,el4⟩ ⟨rfl,rfl⟩ hkin;rw[zfv hy]at hi14;simp only[zaw]at hi14;refine⟨_,_,rfl,rfl,?_⟩;rw[congrFun hM14 l4];refine zag ?_;obtain⟨x34,g35,hi14⟩:=bsM hi14;obtain⟨x36,g37,hi14⟩:=bsM hi14;obtain⟨r38,g39,hi14⟩:=bsM hi14;refine sXM (anM el4 (anM (za4 g35) (anM (ltM el4 g35) (anM (giM g35) (ixM g37))))) ?_;refine EvL.fnv rfl rfl (zmd g39) rfl (.cons (.lit _) (.cons (.lit _) .nil)) ?_;obtain⟨y40,g41,hi14⟩:=bsM hi14;refine sXM (anM el4 (anM (za4 g35) (anM (ltM el4 g35) (anM (giM g35) (siM g41))))) ?_;refine cBM hi14 (λ_ hi14=>?_) λ_ hi14=>?_
   .obtain rfl:=qaj hi14;exact⟨TX14 y40,by rw[hMX14]; rfl,by rw[hMX14]; exact za8.mK [.k,.k,.k,.k,.k,.k,.k,.k,.k,.k] rfl rfl qdv ⟨MB.cs ⟨qdv,qdv,qdv,qdv,qdv⟩,⟨MB.cs ⟨⟨qdv,qdv⟩,qdv⟩,⟨MB.cs ⟨qdv,qdv,qdv,qdv⟩,⟨MB.es (eI .i64) true l3,⟨MB.es (eI .i64) true y40,⟨MB.cs ⟨rfl,qdv⟩,⟨MB.same trivial,⟨MB.cs ⟨qdv,qdv⟩,⟨.same (hkin _ (by decide)),⟨MB.same (zei _ _ _ _),qdv⟩⟩⟩⟩⟩⟩⟩⟩⟩⟩,y40,rfl,(zaZ g41).trans el4,rfl⟩
   exact⟨T14 y40,by rw[hM14]; rfl,by rw[hM14]; exact za8.mK [.k,.k,.k,.k,.k,.k,.k,.k,.k,.k] rfl rfl qdv ⟨MB.cs ⟨qdv,qdv,qdv,qdv,qdv⟩,⟨MB.cs ⟨⟨qdv,qdv⟩,qdv⟩,⟨MB.cs ⟨qdv,qdv,qdv,qdv⟩,⟨MB.es (eI .i64) true l3,⟨MB.es (eI .i64) true y40,⟨MB.cs ⟨rfl,qdv⟩,⟨MB.same trivial,⟨MB.cs ⟨qdv,qdv⟩,⟨.same (hkin _ (by decide)),⟨MB.same (zei _ _ _ _),qdv⟩⟩⟩⟩⟩⟩⟩⟩⟩⟩,y40,⟨hi14,(zaZ g41).trans el4⟩,rfl⟩
  .rintro l4 ⟨hi14,el4⟩;rw[qbq]at hi14;simp only[zaw]at hi14;exact⟨l4,(qaj hi14).symm,el4,rfl⟩
  .rintro _ ⟨l4,oeq,el4,rfl⟩;have oeq2:=oeq.symm;subst oeq2;dsimp only at j13;rw[congrFun hM14 l4];refine wSM ?_;obtain rfl:=qaj j13;exact zda hT13 _ ⟨rfl,el4⟩
  .rintro id _ ⟨l4,oeq,el4,rfl,rfl⟩;rw[oeq]at j13;dsimp only at j13;rw[congrFun hMX14 l4];refine wSM ?_;obtain rfl:=qaj j13;exact zda hT13 _ ⟨rfl,el4⟩
  intro L1 hx; exact hx.2.2
 rintro⟨b7_0,l4⟩ ⟨rfl,el4⟩;dsimp only at h;refine wTM hT13 ?_;refine cBM h (λ_ h=>?_) λ_ h=>?_
 .exact rHM h
 exact rHM h
def zcU(p0:S_api_Factor)(p1:Int):Option (S_api_Factor×Int):=
(zbF p0).bind λr1=>
bif (r1.2 == 0)then(
(zap r1.1 p1).bind λr4=>
bif (decide (r4<0))then(
some ((S_api_Factor.mk [] [] []),4))
else(
(zd5 8 r1.1.factor.vars).bind λy7=>
(zvx y7 r4 (w64 (r4+1))).bind λy9=>
(za9 r1.1 y9).bind λr11=>
some (r11.1,r11.2)))
else(
some ((S_api_Factor.mk [] [] []),r1.2))
theorem zhW{p1:Int}(h:zcU p0 p1=some r):Lx.FnA mC 113 [(.agg [(fzE false (eI .i64) p0.vars),(fzE false (eI .i64) p0.zae),(fzE false (eI .i64) p0.w)]),(dI p1),(.agg [(.clo 95 [] [])])] (.tup [(.agg [(fzE false (eI .i64) r.1.vars),(fzE false (eI .i64) r.1.zae),(fzE false (eI .i64) r.1.w)]),(dI r.2)]):=by
 refine zzO ?_;unfold zcU at h;refine zag ?_;obtain⟨r1,g2,h⟩:=bsM h;refine sSM ?_;refine fDM (zdZ g2) ?_;refine cBM h (λ_ h=>?_) λ_ h=>?_
 .exact rHM h
 obtain⟨r4,g5,h⟩:=bsM h;refine sSM ?_;refine fCM (zaJ g5) ?_;refine cBM h (λ_ h=>?_) λ_ h=>?_
 .obtain⟨y7,g8,h⟩:=bsM h;refine sSM ?_;refine EvL.clone (t:=false) (zs:=r1.1.factor.vars) g8 rfl rfl ?_;obtain⟨y9,g10,h⟩:=bsM h;refine sSM ?_;refine EvL.delete (zs:=y7) (t:=true) g10 rfl rfl rfl rfl rfl rfl ?_;refine EvL.zgK (S':=⟨39,[(6,(.ptr 2 0)),(26,(.agg [(fzE false (eI .i64) r1.1.factor.vars),(fzE false (eI .i64) r1.1.factor.zae),(fzE false (eI .i64) r1.1.factor.w),(fzE false (eI .i64) r1.1.steps)])),(34,(fzE true (eI .i64) y9)),(35,(.agg [(.clo 95 [] [])]))],[.gone,.gone,.cells [zbU,zbU,zbU]]⟩) (za8.m0 [.d,.d,.k,.d,.f] rfl (msq (ms rfl ⟨qdv,qdv,qdv,qdv,qdv⟩ (mf rfl (zlK (xs:=y7) (ys:=y9) (t:=true) (zpz g10) rfl rfl rfl (λ_=>rfl)) (ms rfl ⟨⟨qdv,qdv⟩,qdv⟩ trivial)))) ⟨rfl,⟨rfl,⟨MB.cs ⟨qdv,qdv,qdv,qdv⟩,qdv⟩⟩⟩) (zag ?_);obtain⟨r11,g12,h⟩:=bsM h;refine sSM ?_;refine EvL.fnS (ze2 g12) rfl rfl (.cons (Mzs.agg (.cons (zea _ _ (λh=>by cases h<;>contradiction)) (.cons (zea _ _ (λh=>by cases h<;>contradiction)) (.cons (zea _ _ (λh=>by cases h<;>contradiction)) (.cons (zea _ _ (λh=>by cases h<;>contradiction)) .nil))))) (.cons (zea _ _ (λh=>by cases h<;>contradiction)) (.cons (Mzs.agg (.cons zt0 .nil)) .nil))) ⟨⟨(zcx _ _),(zcx _ _),(zcx _ _),(zcx _ _),qdv⟩,(zcx _ _),⟨⟨qdv,qdv⟩,qdv⟩,qdv⟩ ⟨⟨(zcx _ _),(zcx _ _),(zcx _ _),qdv⟩,qdv,qdv⟩ ?_;refine sSM ?_;exact rHM h
 exact rHM h
def zbH(p0:S_api_Factor)(p1:Int):Option (S_api_Factor×Int):=
(zcU p0 p1).bind λr1=>
some (r1.1,r1.2)
theorem ziP{p1:Int}(h:zbH p0 p1=some r):Lx.FnA mC 82 [(.agg [(fzE false (eI .i64) p0.vars),(fzE false (eI .i64) p0.zae),(fzE false (eI .i64) p0.w)]),(dI p1)] (.tup [(.agg [(fzE false (eI .i64) r.1.vars),(fzE false (eI .i64) r.1.zae),(fzE false (eI .i64) r.1.w)]),(dI r.2)]):=by
 refine zzO ?_;unfold zbH at h;refine zag ?_;obtain⟨r1,g2,h⟩:=bsM h;refine sSM ?_;refine EvL.fnS (zhW g2) rfl rfl (.cons (Mzs.agg (.cons (zea _ _ (λh=>by cases h<;>contradiction)) (.cons (zea _ _ (λh=>by cases h<;>contradiction)) (.cons (zea _ _ (λh=>by cases h<;>contradiction)) .nil)))) (.cons (.lit _) (.cons (Mzs.agg (.cons zt0 .nil)) .nil))) ⟨⟨(zcx _ _),(zcx _ _),(zcx _ _),qdv⟩,qdv,⟨⟨qdv,qdv⟩,qdv⟩,qdv⟩ ⟨⟨(zcx _ _),(zcx _ _),(zcx _ _),qdv⟩,qdv,qdv⟩ ?_;refine sSM ?_;exact rHM h
def zdT(q:S_eliminate_query)(list:List S_api_Factor)(order:List Int):Option (S_eliminate_query×List S_api_Factor×List Int):=some (q,list,order)
theorem zjb{α:Type}{F:Nat->Bool}{β:Nat}{t2 t:Bool}(e:En α)(x:α)(hF:F β=true)(hL:L[β]? = some (.cells (e.c t x)))(h:t2=true->t=true):Mz L F false (.ptr β 0) (.fptr t2 (e.c t2 x)):=
 .ptr hF hL (by rw[e.len,e.len]; omega) λk d d' h1 h2=>e.mz x (by simpa using h) k d d' (by rwa [qaR]at h1) h2
theorem zhD{q:S_eliminate_query}{list:List S_api_Factor}{order:List Int}{r:S_eliminate_query×List S_api_Factor×List Int}(h:zdT q list order=some r):
  FnT mC 52 [.agg (zao.c false q),fzE false zaa list,fzE false (eI .i64) order]
   [.clo 78 [] [.fptr false ((eL (eI .i64)).c false r.2.2),.fptr false (zao.c false r.1),.ptr 1 0]] [.gone,.cells [fzE false zaa r.2.1]]:=by
 cases h;refine zEY (by conv=>lhs; cbv) ?_;refine zag ?_;refine sXM @zbl ?_;exact zAC.ret ⟨8,[(6,.clo 78 [] [.fptr false ((eL (eI .i64)).c false order),.fptr false (zao.c false q),.ptr 1 0])],[.gone,.cells [fzE false zaa list]]⟩
  (za8.m0 [.f,.k,.f] rfl (mx rfl (Mo.clo rfl rfl (Mos.get .nil) (Mos.get (.cons (.fr (zjb (t:=false) (eL (eI .i64)) order rfl rfl (λh=>h))) (.cons (.fr (zjb (t:=false) zao q rfl rfl (λh=>h))) (.cons (.same rfl) .nil))))) trivial) ⟨rfl,⟨MB.cs ⟨qdv,qdv⟩,qdv⟩⟩) rfl rfl
def zb2(p0:Int)(kp0:Int):Option Bool:=
some (p0 == kp0)
variable{kp0:Int}
theorem zf0{p0:Int}{r:Bool}(h:zb2 p0 kp0=some r):Lx.Fn mC 106 [(dI p0),(.fptr false [(dI kp0)])] (dB r):=by
 refine gnO ?_;unfold zb2 at h;refine wSM ?_;exact rHM h
def zaq(p0:(List Int))(kp0:Int):Nat->Int->(List Int)->(List Int)->Option ((List Int)×(List Int))
 | 0,_,_,_=>none
 | n+1,v10,l0,l1=>(
bif (decide (v10<(p0.length:Int)))then(
(zaO p0 v10).bind λx2=>
(zb2 x2 kp0).bind λr4=>
((bif r4 then(
(zdi 8 l0 [x2]).bind λy9=>
some (y9,l1))
else(
(zdi 8 l1 [x2]).bind λy7=>
some (l0,y7)):Option (((List Int)×(List Int))))).bind λo=>match o with
|(l0',l1')=>(
zaq p0 kp0 n (w64 (v10+1)) l0' l1'))
else(
some (l0,l1)))
def zby(p0:(List Int))(kp0:Int):Option ((List Int)×(List Int)):=
((zaq p0 kp0 ((p0.length:Int) - 0+2:Int).toNat 0 [] []:Option (((List Int)×(List Int))))).bind λo=>match o with
|(l0,l1)=>(
some (l0,l1))
theorem ze3{p0:(List Int)}{r:((List Int)×(List Int))}(h:zby p0 kp0=some r):Lx.Fn mC 105 [(fzE false (eI .i64) p0),(.clo 106 [] [(.fptr false [(dI kp0)])])] (.tup [(fzE true (eI .i64) r.1),(fzE true (eI .i64) r.2)]):=by
 refine gnO ?_;unfold zby at h;refine wSM ?_;obtain⟨o5,j5,h⟩:=bsM h;obtain⟨T5,hT5⟩:=mkT λa:((List Int)×(List Int))=>⟨28,[(4,(.sl 0 0 1 a.1.length none a.1.length)),(5,(.sl 1 0 1 a.2.length none a.2.length))],[.grow 1 (a.1.map ((eI .i64).c true)),.grow 1 (a.2.map ((eI .i64).c true))]⟩
 refine EvL.jn T5 (λa=>a=o5) ?_ ?_
 .refine wSM ?_;obtain⟨T9,hT9⟩:=mkT λa:(Int×(List Int)×(List Int))=>⟨28,[(1,(.clo 106 [] [(.fptr false [(dI kp0)])])),(4,(.sl 0 0 1 a.2.1.length none a.2.1.length)),(5,(.sl 1 0 1 a.2.2.length none a.2.2.length)),(8,(fzE false (eI .i64) p0)),(9,(dI (p0.length:Int))),(10,(dI a.1))],[.grow 1 (a.2.1.map ((eI .i64).c true)),.grow 1 (a.2.2.map ((eI .i64).c true))]⟩
  refine EvL.zgK (za8.ghost (n:=1) (k:=4) (by decide) rfl) ?_;refine EvL.zgK (za8.ghost (n:=1) (k:=5) (by decide) rfl) ?_;refine EvL.rounds (α:=(Int×(List Int)×(List Int))) T9 (λn a=>zaq p0 kp0 n a.1 a.2.1 a.2.2=some o5) ((p0.length:Int) - 0+2:Int).toNat (0,[],[]) (by rw[hT9]; exact wm0 [.k,.k] ⟨MB.gs (eI .i64) true [],⟨MB.gs (eI .i64) true [],qdv⟩⟩) j5 (λ_ h=>nomatch (show(none:Option ((List Int)×(List Int)))=some o5 from h)) ?_;rintro n ⟨v10,l0,l1⟩ j5;simp only[zaq]at j5;refine wTM hT9 ?_;refine cBM j5 (λ_ j5=>?_) λ_ j5=>?_
  .exact zef j5 hT5
  obtain⟨x2,g3,j5⟩:=bsM j5;obtain⟨r4,g5,j5⟩:=bsM j5;refine sXM (ixM g3) ?_;refine EvL.fnv rfl rfl (zf0 g5) rfl (.cons (.lit _) (.cons (.fptr (λh=>nomatch h) rfl (Snps.get (.cons (.lit _) .nil))) .nil)) ?_;refine sSM ?_;obtain⟨o10,j10,j5⟩:=bsM j5;obtain⟨T10,hT10⟩:=zey hT9 λa:((List Int)×(List Int))=>uDM (T9 (v10,l0,l1)) [4,5] [(4,(.sl 0 0 1 a.1.length none a.1.length)),(5,(.sl 1 0 1 a.2.length none a.2.length))] [(0,.grow 1 (a.1.map ((eI .i64).c true))),(1,.grow 1 (a.2.map ((eI .i64).c true)))] []
  refine EvL.jn T10 (λa=>a=o10) ?_ ?_
  .refine wSM ?_;refine cBM j10 (λ_ j10=>?_) λ_ j10=>?_
   .obtain⟨y7,g8,j10⟩:=bsM j10;refine sXM (anM (zbN g8) (anM (plM g8) (piM g8))) ?_;exact zef j10 hT10
   obtain⟨y9,g10,j10⟩:=bsM j10;refine sXM (anM (zbN g10) (anM (plM g10) (piM g10))) ?_;exact zef j10 hT10
  rintro⟨l0',l1'⟩ rfl;dsimp only at j5;refine wTM hT10 ?_;exact zda hT9 ((w64 (v10+1)),l0',l1') j5
 rintro⟨l0,l1⟩ rfl;dsimp only at h;refine wTM hT5 ?_;exact rHM h
def zbK(p0:S_api_Factor)(p1:Int):Option Bool:=
(zby p0.vars p1).bind λr1=>
some (decide (0<(r1.1.length:Int)))
theorem zfI{p1:Int}{r:Bool}(h:zbK p0 p1=some r):Lx.Fn mC 76 [(.agg [(fzE false (eI .i64) p0.vars),(fzE false (eI .i64) p0.zae),(fzE false (eI .i64) p0.w)]),(dI p1)] (dB r):=by
 refine gnO ?_;unfold zbK at h;refine zag ?_;obtain⟨r1,g2,h⟩:=bsM h;refine sSM ?_;refine EvL.fn (ze3 g2) rfl rfl (.cons (zdQ _ _ (λh=>nomatch h)) (.cons (.clo rfl rfl (Snps.get .nil) (Snps.get (.cons (.ptr rfl (qae rfl) (λk d d' h1 h2=>(Snps.get (.cons (.lit _) .nil)) k d d' (by rwa [qaR]at h1) h2)) .nil))) .nil)) ?_;refine sSM ?_;exact rHM h
def zaL(p0:S_api_Factor)(kp0:Int):Option Bool:=
(zbK p0 kp0).bind λr1=>
some r1
theorem zdR{r:Bool}(h:zaL p0 kp0=some r):Lx.Fn mC 80 [(.agg [(fzE false (eI .i64) p0.vars),(fzE false (eI .i64) p0.zae),(fzE false (eI .i64) p0.w)]),(.fptr false [(dI kp0)])] (dB r):=by
 refine gnO ?_;unfold zaL at h;refine zag ?_;obtain⟨r1,g2,h⟩:=bsM h;refine sSM ?_;refine fCM (zfI g2) ?_;exact rHM h
def zbn(p0:(List S_api_Factor))(kp0:Int):Nat->Int->(List S_api_Factor)->(List S_api_Factor)->Option ((List S_api_Factor)×(List S_api_Factor))
 | 0,_,_,_=>none
 | n+1,v10,l0,l1=>(
bif (decide (v10<(p0.length:Int)))then(
(zaO p0 v10).bind λx2=>
(zaL x2 kp0).bind λr4=>
((bif r4 then(
(zdi 72 l0 [x2]).bind λy9=>
some (y9,l1))
else(
(zdi 72 l1 [x2]).bind λy7=>
some (l0,y7)):Option (((List S_api_Factor)×(List S_api_Factor))))).bind λo=>match o with
|(l0',l1')=>(
zbn p0 kp0 n (w64 (v10+1)) l0' l1'))
else(
some (l0,l1)))
def zcM(p0:(List S_api_Factor))(kp0:Int):Option ((List S_api_Factor)×(List S_api_Factor)):=
((zbn p0 kp0 ((p0.length:Int) - 0+2:Int).toNat 0 [] []:Option (((List S_api_Factor)×(List S_api_Factor))))).bind λo=>match o with
|(l0,l1)=>(
some (l0,l1))
theorem ziM{p0:(List S_api_Factor)}{r:((List S_api_Factor)×(List S_api_Factor))}(h:zcM p0 kp0=some r):Lx.FnT mC 79 [(fzE false zaa p0),(.clo 80 [] [(.fptr false [(dI kp0)])])] [(.sl 0 0 3 r.1.length none r.1.length),(.sl 1 0 3 r.2.length none r.2.length)] [.grow 3 (r.1.map (zaa.c false)),.grow 3 (r.2.map (zaa.c false))]:=by
 refine zEY (by conv=>lhs; cbv) ?_;unfold zcM at h;refine wSM ?_;obtain⟨o5,j5,h⟩:=bsM h;obtain⟨T5,hT5⟩:=mkT λa:((List S_api_Factor)×(List S_api_Factor))=>⟨28,[(4,(.sl 0 0 3 a.1.length none a.1.length)),(5,(.sl 1 0 3 a.2.length none a.2.length))],[.grow 3 (a.1.map (zaa.c false)),.grow 3 (a.2.map (zaa.c false))]⟩
 refine EvL.jn T5 (λa=>a=o5) ?_ ?_
 .refine wSM ?_;obtain⟨T9,hT9⟩:=mkT λa:(Int×(List S_api_Factor)×(List S_api_Factor))=>⟨28,[(1,(.clo 80 [] [(.fptr false [(dI kp0)])])),(4,(.sl 0 0 3 a.2.1.length none a.2.1.length)),(5,(.sl 1 0 3 a.2.2.length none a.2.2.length)),(8,(fzE false zaa p0)),(9,(dI (p0.length:Int))),(10,(dI a.1))],[.grow 3 (a.2.1.map (zaa.c false)),.grow 3 (a.2.2.map (zaa.c false))]⟩
  refine EvL.zgK (za8.ghost (n:=3) (k:=4) (by decide) rfl) ?_;refine EvL.zgK (za8.ghost (n:=3) (k:=5) (by decide) rfl) ?_;refine EvL.rounds (α:=(Int×(List S_api_Factor)×(List S_api_Factor))) T9 (λn a=>zbn p0 kp0 n a.1 a.2.1 a.2.2=some o5) ((p0.length:Int) - 0+2:Int).toNat (0,[],[]) (by rw[hT9]; exact wm0 [.k,.k] ⟨MB.gs zaa false [],⟨MB.gs zaa false [],qdv⟩⟩) j5 (λ_ h=>nomatch (show(none:Option ((List S_api_Factor)×(List S_api_Factor)))=some o5 from h)) ?_;rintro n ⟨v10,l0,l1⟩ j5;simp only[zbn]at j5;refine wTM hT9 ?_;refine cBM j5 (λ_ j5=>?_) λ_ j5=>?_
  .exact zef j5 hT5
  obtain⟨x2,g3,j5⟩:=bsM j5;obtain⟨r4,g5,j5⟩:=bsM j5;refine sXM (anM @zcN (zbo (n:=3) (e:=zaa) rfl g3)) ?_;refine EvL.fnv rfl rfl (zdR g5) rfl (.cons (.zAQ (.cons (zdQ _ _ (λh=>nomatch h)) (.cons (zdQ _ _ (λh=>nomatch h)) (.cons (zdQ _ _ (λh=>nomatch h)) .nil)))) (.cons (.fptr (λh=>nomatch h) rfl (Snps.get (.cons (.lit _) .nil))) .nil)) ?_;refine sSM ?_;obtain⟨o10,j10,j5⟩:=bsM j5;obtain⟨T10,hT10⟩:=zey hT9 λa:((List S_api_Factor)×(List S_api_Factor))=>uDM (T9 (v10,l0,l1)) [4,5] [(4,(.sl 0 0 3 a.1.length none a.1.length)),(5,(.sl 1 0 3 a.2.length none a.2.length))] [(0,.grow 3 (a.1.map (zaa.c false))),(1,.grow 3 (a.2.map (zaa.c false)))] []
  refine EvL.jn T10 (λa=>a=o10) ?_ ?_
  .refine wSM ?_;refine cBM j10 (λ_ j10=>?_) λ_ j10=>?_
   .obtain⟨y7,g8,j10⟩:=bsM j10;refine sXM (anM (zbN g8) (anM (plM g8) (show l1.map (zaa.c false)++ [[(fzE false (eI .i64) x2.vars),(fzE false (eI .i64) x2.zae),(fzE false (eI .i64) x2.w)]]=y7.map (zaa.c false)from zdz g8 (zaa.c false)))) ?_;exact zef j10 hT10
   obtain⟨y9,g10,j10⟩:=bsM j10;refine sXM (anM (zbN g10) (anM (plM g10) (show l0.map (zaa.c false)++ [[(fzE false (eI .i64) x2.vars),(fzE false (eI .i64) x2.zae),(fzE false (eI .i64) x2.w)]]=y9.map (zaa.c false)from zdz g10 (zaa.c false)))) ?_;exact zef j10 hT10
  rintro⟨l0',l1'⟩ rfl;dsimp only at j5;refine wTM hT10 ?_;exact zda hT9 ((w64 (v10+1)),l0',l1') j5
 rintro⟨l0,l1⟩ rfl;dsimp only at h;refine wTM hT5 ?_;obtain rfl:=qaj h;exact zAC.ret (⟨28,[(4,(.sl 0 0 3 l0.length none l0.length)),(5,(.sl 1 0 3 l1.length none l1.length))],[.grow 3 (l0.map (zaa.c false)),.grow 3 (l1.map (zaa.c false))]⟩) (wAM) rfl rfl
def zeS:Option S_api_Factor:=
some (S_api_Factor.mk [] [] [1])
theorem zlI{r:S_api_Factor}(h:zeS=some r):Lx.Fn mC 68 [] (.agg [(fzE true (eI .i64) r.vars),(fzE true (eI .i64) r.zae),(fzE true (eI .i64) r.w)]):=by
 refine gnO ?_;unfold zeS at h;refine wSM ?_;exact rHM h
def zaK(p0:(List S_api_Factor)):Nat->Int->(List Int)->(List Int)->(List Int)->Option ((List Int)×(List Int)×(List Int))
 | 0,_,_,_,_=>none
 | n+1,v9,b1_0,b1_1,b1_2=>(
bif (decide (v9<(p0.length:Int)))then(
(zaO p0 v9).bind λx4=>
(zcz (S_api_Factor.mk b1_0 b1_1 b1_2) x4).bind λr6=>
zaK p0 n (w64 (v9+1)) r6.1.vars r6.1.zae r6.1.w)
else(
some (b1_0,b1_1,b1_2)))
def za2(p0:(List S_api_Factor)):Option S_api_Factor:=
(zeS).bind λr1=>
((zaK p0 ((p0.length:Int) - 0+2:Int).toNat 0 r1.vars r1.zae r1.w:Option (((List Int)×(List Int)×(List Int))))).bind λo=>match o with
|(b1_0,b1_1,b1_2)=>(
some (S_api_Factor.mk b1_0 b1_1 b1_2))
theorem zd2{p0:(List S_api_Factor)}{r:S_api_Factor}(h:za2 p0=some r):Lx.Fn mC 81 [(fzE false zaa p0)] (.agg [(fzE true (eI .i64) r.vars),(fzE true (eI .i64) r.zae),(fzE true (eI .i64) r.w)]):=by
 refine gnO ?_;unfold za2 at h;refine zag ?_;obtain⟨r1,g2,h⟩:=bsM h;refine sSM ?_;refine fCM (zlI g2) ?_;obtain⟨o1,j1,h⟩:=bsM h;obtain⟨T1,hT1⟩:=mkT λa:((List Int)×(List Int)×(List Int))=>⟨21,[(2,(.ptr 0 0)),(3,(.ptr 1 0))],[.cells [zbU,zbU,zbU],.cells [(fzE true (eI .i64) a.1),(fzE true (eI .i64) a.2.1),(fzE true (eI .i64) a.2.2)]]⟩
 refine EvL.jn T1 (λa=>a=o1) ?_ ?_
 .refine wSM ?_;obtain⟨T2,hT2⟩:=mkT λa:(Int×(List Int)×(List Int)×(List Int))=>⟨21,[(2,(.ptr 0 0)),(3,(.ptr 1 0)),(7,(fzE false zaa p0)),(8,(dI (p0.length:Int))),(9,(dI a.1))],[.cells [zbU,zbU,zbU],.cells [(fzE true (eI .i64) a.2.1),(fzE true (eI .i64) a.2.2.1),(fzE true (eI .i64) a.2.2.2)]]⟩
  refine rdM hT2 (λn a=>zaK p0 n a.1 a.2.1 a.2.2.1 a.2.2.2=some o1) (0,r1.vars,r1.zae,r1.w) j1 ?_;rintro n ⟨v9,b1_0,b1_1,b1_2⟩ j1;simp only[zaK]at j1;refine wTM hT2 ?_;refine cBM j1 (λ_ j1=>?_) λ_ j1=>?_
  .exact zef j1 hT1
  obtain⟨x4,g5,j1⟩:=bsM j1;obtain⟨r6,g7,j1⟩:=bsM j1;refine sXM (anM @zcN (zbo (n:=3) (e:=zaa) rfl g5)) ?_;refine fCM (zl9 g7) ?_;exact zda hT2 ((w64 (v9+1)),r6.1.vars,r6.1.zae,r6.1.w) j1
 rintro⟨b1_0,b1_1,b1_2⟩ rfl;dsimp only at h;refine wTM hT1 ?_;exact rHM h
end Go.Dc
