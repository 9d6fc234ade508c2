/-
 What r02_At computes. Conditions: none.
-/
import Derived.Test.YtbjogdohfhdaiaaCfDm
import Derived.Test.YtbjogdohfhdaiaaCfDc1
import Derived.Test.YtbjogdohfhdaiaaCfLy17
import Derived.Test.YtbjogdohfhdaiaaCfJ2
set_option linter.unusedSimpArgs false
set_option linter.unusedVariables false
set_option maxRecDepth 100000
set_option maxHeartbeats 4000000
namespace Go.Dc
open Go Go.Mx Go.Lx Go.Proofs
def zes(p1:(List Int))(p0:(List Int)):Nat->Int->(List Int)->Option (List Int)
 | 0,_,_=>none
 | n+1,v6,l0=>(
bif (decide (v6<(p1.length:Int)))then(
(zaC p1 v6).bind λx2=>
(zaC p0 x2).bind λx4=>
(zc2 8 l0 [x4]).bind λy6=>
zes p1 p0 n (w64 (v6+1)) y6)
else(
some l0))
def zgE(p0:(List Int))(p1:(List Int)):Option (List Int):=
((zes p1 p0 ((p1.length:Int) - 0+2:Int).toNat 0 []:Option (List Int))).bind λl0=>
some l0
variable{p0 r:(List Int)}
theorem zua{p1:(List Int)}(h:zgE p0 p1=some r):Lx.Fn mC 60 [(fzE false (eI .i64) p0),(fzE false (eI .i64) p1)] (fzE true (eI .i64) r):=by
 refine gnO ?_;unfold zgE at h;refine wSM ?_;obtain⟨o1,j1,h⟩:=bsM h;obtain⟨T1,hT1⟩:=mkT λa:(List Int)=>⟨24,[(5,(.sl 0 0 1 a.length none a.length))],[.grow 1 (a.map ((eI .i64).c true))]⟩
 refine EvL.jn T1 (λa=>a=o1) ?_ ?_
 .refine wSM ?_;obtain⟨T2,hT2⟩:=mkT λa:(Int×(List Int))=>⟨24,[(0,(fzE false (eI .i64) p0)),(1,(fzE false (eI .i64) p1)),(5,(.sl 0 0 1 a.2.length none a.2.length)),(6,(dI a.1))],[.grow 1 (a.2.map ((eI .i64).c true))]⟩
  refine EvL.zjG (zaT.ghost (n:=1) (k:=5) (by decide) rfl) ?_;refine EvL.rounds (α:=(Int×(List Int))) T2 (λn a=>zes p1 p0 n a.1 a.2=some o1) ((p1.length:Int) - 0+2:Int).toNat (0,[]) (by rw[hT2]; exact wm0 [.k] ⟨MB.gs (eI .i64) true [],qdk⟩) j1 (λ_ h=>nomatch (show(none:Option (List Int))=some o1 from h)) ?_;rintro n ⟨v6,l0⟩ j1;simp only[zes]at j1;refine wTM hT2 ?_;refine cBM j1 (λ_ j1=>?_) λ_ j1=>?_
  .exact zeV j1 hT1
  obtain⟨x2,g3,j1⟩:=bsM j1;obtain⟨x4,g5,j1⟩:=bsM j1;obtain⟨y6,g7,j1⟩:=bsM j1;refine zxN (ixM g3) (ixM g5) (zby g7) (plM g7) (piM g7) ?_;exact zdk hT2 ((w64 (v6+1)),y6) j1
 rintro l0 rfl;refine wTM hT1 ?_;exact rHM h
def zc4(p0:(List Int)):Nat->Int->Int->Option Int
 | 0,_,_=>none
 | n+1,v3,v4=>(
bif (decide (v4<(p0.length:Int)))then(
(zaC p0 v4).bind λx2=>
zc4 p0 n (w64 (v3 * x2)) (w64 (v4+1)))
else(
some v3))
def zen(p0:(List Int)):Option Int:=
((zc4 p0 ((p0.length:Int) - 0+2:Int).toNat 1 0:Option Int)).bind λv3=>
some v3
theorem zoo{r:Int}(h:zen p0=some r):Lx.Fn mC 67 [(fzE false (eI .i64) p0)] (dI r):=by
 refine gnO ?_;unfold zen at h;refine wSM ?_;obtain⟨o1,j1,h⟩:=bsM h;obtain⟨T1,hT1⟩:=mkT λa:Int=>⟨18,[(3,(dI a))],[]⟩
 refine EvL.jn T1 (λa=>a=o1) ?_ ?_
 .refine wSM ?_;obtain⟨T2,hT2⟩:=mkT λa:(Int×Int)=>⟨18,[(0,(fzE false (eI .i64) p0)),(3,(dI a.1)),(4,(dI a.2))],[]⟩
  refine rdM hT2 (λn a=>zc4 p0 n a.1 a.2=some o1) (1,0) j1 ?_;rintro n ⟨v3,v4⟩ j1;simp only[zc4]at j1;refine wTM hT2 ?_;refine cBM j1 (λc1 j1=>?_) λc1 j1=>?_
  .refine sXM c1 ?_;exact zeV j1 hT1
  obtain⟨x2,g3,j1⟩:=bsM j1;refine zku (ixM g3) c1 ?_;exact zdk hT2 ((w64 (v3 * x2)),(w64 (v4+1))) j1
 rintro v3 rfl;refine wTM hT1 ?_;exact rHM h
def zcM(p0:S_api_Net):Nat->Int->(List Int)->Option (List Int)
 | 0,_,_=>none
 | n+1,v4,l1=>(
bif (decide (v4<(p0.nodes.length:Int)))then(
(zaC p0.nodes v4).bind λx2=>
(zc2 8 l1 [x2.card]).bind λy4=>
zcM p0 n (w64 (v4+1)) y4)
else(
some l1))
def zdO(p0:S_api_Net):Option (List Int):=
((zcM p0 ((p0.nodes.length:Int) - 0+2:Int).toNat 0 []:Option (List Int))).bind λl1=>
some l1
theorem znp{p0:S_api_Net}(h:zdO p0=some r):Lx.Fn mC 114 [(.agg [(dI p0.grain),(fzE false zad p0.nodes)])] (fzE true (eI .i64) r):=by
 refine gnO ?_;unfold zdO at h;refine wSM ?_;obtain⟨o1,j1,h⟩:=bsM h;obtain⟨T1,hT1⟩:=mkT λa:(List Int)=>⟨22,[(3,(.sl 1 0 1 a.length none a.length))],[.gone,.grow 1 (a.map ((eI .i64).c true))]⟩
 refine EvL.jn T1 (λa=>a=o1) ?_ ?_
 .refine wSM ?_;obtain⟨T2,hT2⟩:=mkT λa:(Int×(List Int))=>⟨22,[(1,(.ptr 0 0)),(3,(.sl 1 0 1 a.2.length none a.2.length)),(4,(dI a.1))],[.cells [(dI p0.grain),(fzE false zad p0.nodes)],.grow 1 (a.2.map ((eI .i64).c true))]⟩
  refine EvL.zjG (zaT.ghost (n:=1) (k:=3) (by decide) rfl) ?_;refine EvL.rounds (α:=(Int×(List Int))) T2 (λn a=>zcM p0 n a.1 a.2=some o1) ((p0.nodes.length:Int) - 0+2:Int).toNat (0,[]) (by rw[hT2]; exact wm0 [.k,.k] ⟨MB.cs ⟨qdk,qdk,qdk⟩,⟨MB.gs (eI .i64) true [],qdk⟩⟩) j1 (λ_ h=>nomatch (show(none:Option (List Int))=some o1 from h)) ?_;rintro n ⟨v4,l1⟩ j1;simp only[zcM]at j1;refine wTM hT2 ?_;refine cBM j1 (λ_ j1=>?_) λ_ j1=>?_
  .exact zeV j1 hT1
  obtain⟨x2,g3,j1⟩:=bsM j1;obtain⟨y4,g5,j1⟩:=bsM j1;refine zxN @zal (zao (n:=3) (e:=zad) rfl g3) (zby g5) (plM g5) (piM g5) ?_;exact zdk hT2 ((w64 (v4+1)),y4) j1
 rintro l1 rfl;refine wTM hT1 ?_;exact rHM h
def zcG(p1:Int)(p2:(List Int))(p3:Int):Nat->Int->Int->(List Int)->Option (Int×(List Int))
 | 0,_,_,_=>none
 | n+1,v10,v11,l0=>(
bif (decide (v11<p1))then(
((bif (decide (0<(p2.length:Int)))then(
(znx (w64 (p3+v11)) (p2.length:Int)).bind λq5=>
(zaC p2 q5).bind λx7=>
(zaC l0 v11).bind λx9=>
(zd2 l0 v11 (w64 (x7.tmod 8))).bind λy11=>
some y11)
else(
some l0):Option (List Int))).bind λl0'=>
(zaC l0' v11).bind λx13=>
zcG p1 p2 p3 n (w64 (v10+x13)) (w64 (v11+1)) l0')
else(
some (v10,l0)))
def zc7(p1:Int)(p0:Int)(v10:Int):Nat->Int->Int->Int->(List Int)->Option (Int×Int×(List Int))
 | 0,_,_,_,_=>none
 | n+1,v12,v13,v14,l0'=>(
bif (decide (v14<p1))then(
(zaC l0' v14).bind λx16=>
((bif (decide (0<x16))then(
(zqO .i64 (w64 (p0 * x16)) v10).bind λq19=>
(zd2 l0' v14 q19).bind λy21=>
some (v14,y21))
else(
some (v13,l0')):Option ((Int×(List Int))))).bind λo=>match o with
|(v13',l0'')=>(
(zaC l0'' v14).bind λx23=>
zc7 p1 p0 v10 n (w64 (v12 - x23)) v13' (w64 (v14+1)) l0''))
else(
some (v12,v13,l0')))
def zfq(p0:Int)(p1:Int)(p2:(List Int))(p3:Int):Option (List Int):=
(zd5 8 p1 0).bind λy1=>
((zcG p1 p2 p3 (p1 - 0+2:Int).toNat 0 0 y1:Option ((Int×(List Int))))).bind λo=>match o with
|(v10,l0)=>(
((zc7 p1 p0 v10 (p1 - 0+2:Int).toNat p0 0 0 l0:Option ((Int×Int×(List Int))))).bind λo=>match o with
|(v12,v13,l0')=>(
(zaC l0' v13).bind λx25=>
(zd2 l0' v13 (w64 (x25+v12))).bind λy27=>
some y27))
variable{p1:Int}
theorem zrl{p0:Int}{p2:(List Int)}{p3:Int}(h:zfq p0 p1 p2 p3=some r):Lx.Fn mC 69 [(dI p0),(dI p1),(fzE false (eI .u8) p2),(dI p3)] (fzE true (eI .i64) r):=by
 refine gnO ?_;unfold zfq at h;refine zab ?_;obtain⟨y1,g2,h⟩:=bsM h;refine zwN ((zaK g2).1.1) ((zaK g2).1.2) @qbC (miM g2) ?_;obtain⟨o4,j4,h⟩:=bsM h;obtain⟨T4,hT4⟩:=mkT λa:(Int×(List Int))=>⟨84,[(0,(dI p0)),(1,(dI p1)),(9,(.sl 0 0 1 (Int.toNat p1) (some (Int.toNat p1)) (Int.toNat p1))),(10,(dI a.1))],[.els 1 (a.2.map ((eI .i64).c true))]⟩
 refine EvL.jn T4 (λa=>a=o4/\a.2.length=(Int.toNat p1)) ?_ ?_
 .refine wSM ?_;obtain⟨T7,hT7⟩:=mkT λa:(Int×Int×(List Int))=>⟨84,[(0,(dI p0)),(1,(dI p1)),(2,(fzE false (eI .u8) p2)),(3,(dI p3)),(9,(.sl 0 0 1 (Int.toNat p1) (some (Int.toNat p1)) (Int.toNat p1))),(10,(dI a.1)),(11,(dI a.2.1))],[.els 1 (a.2.2.map ((eI .i64).c true))]⟩
  refine rdM hT7 (λn a=>zcG p1 p2 p3 n a.1 a.2.1 a.2.2=some o4/\a.2.2.length=(Int.toNat p1)) (0,0,y1) ⟨j4,zbB g2⟩ ?_;rintro n ⟨v10,v11,l0⟩ ⟨j4,el0⟩;simp only[zcG]at j4;refine wTM hT7 ?_;refine cBM j4 (λ_ j4=>?_) λ_ j4=>?_
  .obtain rfl:=qal j4;exact zdk hT4 _ ⟨rfl,el0⟩
  obtain⟨o8,j8,j4⟩:=bsM j4;obtain⟨T8,hT8⟩:=zdD hT7 λa:(List Int)=>uDM (T7 (v10,v11,l0)) [] [] [(0,.els 1 (a.map ((eI .i64).c true)))] []
  refine EvL.jn T8 (λa=>a=o8/\a.length=(Int.toNat p1)) ?_ ?_
  .refine wSM ?_;refine cBM j8 (λ_ j8=>?_) λ_ j8=>?_
   .obtain rfl:=qal j8;exact zdk hT8 _ ⟨rfl,el0⟩
   obtain⟨q5,g6,j8⟩:=bsM j8;obtain⟨x7,g8,j8⟩:=bsM j8;obtain⟨x9,g10,j8⟩:=bsM j8;obtain⟨y11,g12,j8⟩:=bsM j8;refine ziz (zhe g6) (zii g6) (zao (n:=1) (e:=(eI .u8)) rfl g8) el0 (zaL g10) (anM (ltM el0 g10) (anM (giM g10) (siM g12))) ?_;obtain rfl:=qal j8;exact zdk hT8 _ ⟨rfl,(za4 g12).trans el0⟩
  rintro l0' ⟨rfl,el0'⟩;refine wTM hT8 ?_;obtain⟨x13,g14,j4⟩:=bsM j4;refine zwN el0' (zaL g14) (ltM el0' g14) (giM g14) ?_;exact zdk hT7 ((w64 (v10+x13)),(w64 (v11+1)),l0') ⟨j4,el0'⟩
 rintro⟨v10,l0⟩ ⟨rfl,el0⟩;dsimp only at h;refine wTM hT4 ?_;obtain⟨o13,j13,h⟩:=bsM h;obtain⟨T13,hT13⟩:=zdD hT4 λa:(Int×Int×(List Int))=>uKM (T4 (v10,l0)) [9] [(12,(dI a.1)),(13,(dI a.2.1))] [(0,.els 1 (a.2.2.map ((eI .i64).c true)))] []
 refine EvL.jn T13 (λa=>a=o13/\a.2.2.length=(Int.toNat p1)) ?_ ?_
 .refine wSM ?_;obtain⟨T17,hT17⟩:=zdD hT4 λa:(Int×Int×Int×(List Int))=>uDM (T4 (v10,l0)) [] [(12,(dI a.1)),(13,(dI a.2.1)),(14,(dI a.2.2.1))] [(0,.els 1 (a.2.2.2.map ((eI .i64).c true)))] []
  refine rdM hT17 (λn a=>zc7 p1 p0 v10 n a.1 a.2.1 a.2.2.1 a.2.2.2=some o13/\a.2.2.2.length=(Int.toNat p1)) (p0,0,0,l0) ⟨j13,el0⟩ ?_;rintro n ⟨v12,v13,v14,l0'⟩ ⟨j13,el0'⟩;simp only[zc7]at j13;refine wTM hT17 ?_;refine cBM j13 (λ_ j13=>?_) λ_ j13=>?_
  .obtain rfl:=qal j13;exact zdk hT13 _ ⟨rfl,el0'⟩
  obtain⟨x16,g17,j13⟩:=bsM j13;refine zwN el0' (zaL g17) (ltM el0' g17) (giM g17) ?_;obtain⟨o18,j18,j13⟩:=bsM j13;obtain⟨T18,hT18⟩:=zdD hT17 λa:(Int×(List Int))=>uDM (T17 (v12,v13,v14,l0')) [13] [(13,(dI a.1))] [(0,.els 1 (a.2.map ((eI .i64).c true)))] []
  refine EvL.jn T18 (λa=>a=o18/\a.2.length=(Int.toNat p1)) ?_ ?_
  .refine wSM ?_;refine cBM j18 (λ_ j18=>?_) λ_ j18=>?_
   .obtain rfl:=qal j18;exact zdk hT18 _ ⟨rfl,el0'⟩
   obtain⟨q19,g20,j18⟩:=bsM j18;obtain⟨y21,g22,j18⟩:=bsM j18;refine ziz el0' (zaL g17) (ltM el0' g17) (giM g17) (zla g20) (anM (znF g20) (siM g22)) ?_;obtain rfl:=qal j18;exact zdk hT18 _ ⟨rfl,(za4 g22).trans el0'⟩
  rintro⟨v13',l0''⟩ ⟨rfl,el0''⟩;dsimp only at j13;refine wTM hT18 ?_;obtain⟨x23,g24,j13⟩:=bsM j13;refine zwN el0'' (zaL g24) (ltM el0'' g24) (giM g24) ?_;exact zdk hT17 ((w64 (v12 - x23)),v13',(w64 (v14+1)),l0'') ⟨j13,el0''⟩
 rintro⟨v12,v13,l0'⟩ ⟨rfl,el0'⟩;dsimp only at h;refine wTM hT13 ?_;obtain⟨x25,g26,h⟩:=bsM h;obtain⟨y27,g28,h⟩:=bsM h;refine zxN el0' (zaL g26) (ltM el0' g26) (giM g26) (siM g28) ?_;exact rHM h
def zaZ(p2:S_api_Gate)(p1:Int):Nat->Int->Int->Option (Out Unit Bool)
 | 0,_,_=>none
 | n+1,v7,v103=>(
bif (decide (v103<(p2.args.length:Int)))then(
(zaC p2.args v103).bind λx10=>
((bif (decide (x10<=v7))then(
some true)
else(
some (decide (p1<=x10))):Option Bool)).bind λv114=>
bif v114 then(
some (.ret false))
else(
zaZ p2 p1 n x10 (w64 (v103+1))))
else(
some (.go ())))
def zbh(p0:S_api_Circuit)(p1:Int)(p2:S_api_Gate):Option Bool:=
bif (p2.kind == 1)then(
((bif (decide (0<=p2.n))then(
bif (decide (p2.n<=4611686018427387903))then(
bif (p2.var == 0)then(
bif (p2.val == 0)then(
some ((p2.args.length:Int)== 0))
else(
some false))
else(
some false))
else(
some false))
else(
some false):Option Bool)).bind λv6=>
some v6)
else(
bif (p2.kind == 2)then(
((bif (decide (0<=p2.var))then(
bif (decide (p2.var<(p0.cards.length:Int)))then(
bif (decide (0<=p2.val))then(
(zaC p0.cards p2.var).bind λx17=>
bif (decide (p2.val<x17))then(
bif (p2.n == 0)then(
some ((p2.args.length:Int)== 0))
else(
some false))
else(
some false))
else(
some false))
else(
some false))
else(
some false):Option Bool)).bind λv6=>
some v6)
else(
((bif (p2.kind == 3)then(
some true)
else(
some (p2.kind == 4)):Option Bool)).bind λv78=>
bif v78 then(
((bif (p2.var == 0)then(
bif (p2.val == 0)then(
bif (p2.n == 0)then(
some ((p2.args.length:Int)== 0))
else(
some true))
else(
some true))
else(
some true):Option Bool)).bind λv99=>
bif v99 then(
some false)
else(
((zaZ p2 p1 ((p2.args.length:Int) - 0+2:Int).toNat (-1) 0:Option (Out Unit Bool))).bind λo=>match o with
| .go _=>(
some true)
| .ret r=>some r))
else(
some false)))
def zdS:C:=
 .seq (rg [oW 3 0,
 oW 5 2,
 oJ 6 false])
 (.seq (.seq (rg [oF 10 0 5,
 oL 11 10])
 (.block 0 (.seq (rg [oD 13 .eql 11 1,
 oM 12 13])
 (.cond (.s 12) (.seq (.scope (rg [oF 14 3 5,
 oL 15 14,
 oD 16 .geq 15 0,
 oM 17 16,
 oFg 18 3 5 17 true,
 oLg 19 18 17 true,
 oDg 20 .leq 19 4611686018427387903 17 true,
 ⟨some 21,.pick (.s 17) (.s 20) (.c (.bool false)),none⟩,
 oM 22 21,
 oFg 23 1 5 22 true,
 oLg 24 23 22 true,
 oDg 25 .eql 24 0 22 true,
 ⟨some 26,.pick (.s 22) (.s 25) (.c (.bool false)),none⟩,
 oM 27 26,
 oFg 28 2 5 27 true,
 oLg 29 28 27 true,
 oDg 30 .eql 29 0 27 true,
 ⟨some 31,.pick (.s 27) (.s 30) (.c (.bool false)),none⟩,
 oM 32 31,
 oFg 33 4 5 32 true,
 oLg 34 33 32 true,
 ⟨some 35,.len (.s 34),some (32,true)⟩,
 oDg 36 .eql 35 0 32 true,
 ⟨some 37,.pick (.s 32) (.s 36) (.c (.bool false)),none⟩,
 oM 6 37]))
 (.ret))
 (.seq (rg [oD 39 .eql 11 2,
 oM 38 39])
 (.cond (.s 38) (.seq (.scope (.reg true false [oF 40 1 5,
 oL 41 40,
 oD 42 .geq 41 0,
 oM 43 42,
 oFg 44 1 5 43 true,
 oLg 45 44 43 true,
 oFg 46 0 3 43 true,
 oLg 47 46 43 true,
 ⟨some 48,.len (.s 47),some (43,true)⟩,
 ⟨some 49,.bin .lss (.s 45) (.s 48),some (43,true)⟩,
 ⟨some 50,.pick (.s 43) (.s 49) (.c (.bool false)),none⟩,
 oM 51 50,
 oFg 52 2 5 51 true,
 oLg 53 52 51 true,
 oDg 54 .geq 53 0 51 true,
 ⟨some 55,.pick (.s 51) (.s 54) (.c (.bool false)),none⟩,
 oM 56 55,
 oFg 57 2 5 56 true,
 oLg 58 57 56 true,
 oFg 59 0 3 56 true,
 oLg 60 59 56 true,
 oFg 61 1 5 56 true,
 oLg 62 61 56 true,
 ⟨some 63,.idxS 1 (.s 60) (.s 62),some (56,true)⟩,
 oLg 64 63 56 true,
 ⟨some 65,.bin .lss (.s 58) (.s 64),some (56,true)⟩,
 ⟨some 66,.pick (.s 56) (.s 65) (.c (.bool false)),none⟩,
 oM 67 66,
 oFg 68 3 5 67 true,
 oLg 69 68 67 true,
 oDg 70 .eql 69 0 67 true,
 ⟨some 71,.pick (.s 67) (.s 70) (.c (.bool false)),none⟩,
 oM 72 71,
 oFg 73 4 5 72 true,
 oLg 74 73 72 true,
 ⟨some 75,.len (.s 74),some (72,true)⟩,
 oDg 76 .eql 75 0 72 true,
 ⟨some 77,.pick (.s 72) (.s 76) (.c (.bool false)),none⟩,
 oM 6 77]))
 (.ret))
 (.seq (.seq (rg [oD 79 .eql 11 3,
 oM 78 79])
 (.scope (.cond (.s 78) (.skip)
 (rg [oD 80 .eql 11 4,
 oM 78 80]))))
 (.cond (.s 78) (.seq (.seq (.scope (rg [oF 81 1 5,
 oL 82 81,
 oD 83 .neq 82 0,
 oM 84 83,
 oFg 85 2 5 84 false,
 oLg 86 85 84 false,
 oDg 87 .neq 86 0 84 false,
 oP 88 84 87,
 oM 89 88,
 oFg 90 3 5 89 false,
 oLg 91 90 89 false,
 oDg 92 .neq 91 0 89 false,
 oP 93 89 92,
 oM 94 93,
 oFg 95 4 5 94 false,
 oLg 96 95 94 false,
 ⟨some 97,.len (.s 96),some (94,false)⟩,
 oDg 98 .eql 97 0 94 false,
 oP 99 94 98]))
 (.cond (.s 99) (.seq (rg [oJ 6 false])
 (.ret))
 (.skip)))
 (.seq (rg [⟨some 7,.mov (.c (.int .i64 (-1))),none⟩])
 (.seq (.seq (rg [oF 100 4 5,
 oL 101 100,
 oE 102 101,
 oK 103 0])
 (.scope (.block 1 (.loop (.seq (rg [oB 104 .lss 103 102])
 (.seq (.cond (.s 104) (.skip)
 (.exit 1))
 (.seq (.block 2 (.seq (rg [oI 105 1 101 103,
 oL 106 105,
 oM 9 106])
 (.seq (.seq (.scope (rg [oM 107 9,
 oM 108 7,
 oB 109 .leq 107 108,
 oM 110 109,
 oMg 111 9 110 false,
 oMg 112 1 110 false,
 ⟨some 113,.bin .geq (.s 111) (.s 112),some (110,false)⟩,
 oP 114 110 113]))
 (.cond (.s 114) (.seq (rg [oJ 6 false])
 (.ret))
 (.skip)))
 (rg [oM 115 9,
 oM 7 115]))))
 (rg [oD 116 .add 103 1,
 oM 103 116]))))))))
 (.seq (rg [oJ 6 true])
 (.ret)))))
 (.skip)))))))))
 (.seq (rg [oJ 6 false])
 (.ret)))
theorem zfl:zlG mC 54=some (117,zdS,[.tmp 6],false):=zcr (by kernel_rfl)
theorem zfM{p0:S_api_Circuit}{p2:S_api_Gate}{r:Bool}(h:zbh p0 p1 p2=some r):Lx.Fn mC 54 [(.agg [(fzE false (eI .i64) p0.cards),(fzE false zaa p0.gates)]),(dI p1),(.agg [(dI p2.kind),(dI p2.var),(dI p2.val),(dI p2.n),(fzE false (eI .i64) p2.args)])] (dB r):=by
 refine Fn.of zfl (zbG rfl) (qah rfl) ?_;unfold zbh at h;simp only[zdS,zqj];refine wSM ?_;refine cBM h (λ_ h=>?_) λ_ h=>?_
 .refine cBM h (λ_ h=>?_) λ_ h=>?_
  .obtain⟨o1,j1,h⟩:=bsM h;obtain⟨T1,hT1⟩:=mkT λa:Bool=>⟨117,[(1,(dI p1)),(5,(.ptr 1 0)),(78,(dB a))],[.gone,.cells [(dI p2.kind),(dI p2.var),(dI p2.val),(dI p2.n),(fzE false (eI .i64) p2.args)]]⟩
   refine EvL.jn T1 _ (bJM j1 hT1) ?_;rintro v78 rfl;refine wTM hT1 ?_;refine cBM h (λ_ h=>?_) λ_ h=>?_
   .exact rHM h
   obtain⟨o2,j2,h⟩:=bsM h;obtain⟨T2,hT2⟩:=zdD hT1 λa:Bool=>uDM (T1 v78) [78] [(99,(dB a))] [] []
   refine EvL.jn T2 _ (bJM j2 hT2) ?_;rintro v99 rfl;refine wTM hT2 ?_;refine cBM h (λ_ h=>?_) λ_ h=>?_
   .obtain⟨o6,j6,h⟩:=bsM h;obtain⟨T6,hT6⟩:=mkT λa:Unit=>⟨117,[],[]⟩
    refine EvL.jn T6 (λa=>o6=.go a) ?_ ?_
    .refine wSM ?_;obtain⟨T9,hT9⟩:=mkT λa:(Int×Int)=>⟨117,[(1,(dI p1)),(7,(dI a.1)),(101,(fzE false (eI .i64) p2.args)),(102,(dI (p2.args.length:Int))),(103,(dI a.2))],[]⟩
     refine rdM hT9 (λn a=>zaZ p2 p1 n a.1 a.2=some o6) ((-1),0) j6 ?_;rintro n ⟨v7,v103⟩ j6;simp only[zaZ]at j6;refine wTM hT9 ?_;refine cBM j6 (λ_ j6=>?_) λ_ j6=>?_
     .exact zzG j6 hT6
     obtain⟨x10,g11,j6⟩:=bsM j6;refine sXM (ixM g11) ?_;obtain⟨o10,j10,j6⟩:=bsM j6;obtain⟨T10,hT10⟩:=zdD hT9 λa:Bool=>uDM (T9 (v7,v103)) [7] [(9,(dI x10)),(114,(dB a))] [] []
     refine EvL.jn T10 _ (bJM j10 hT10) ?_;rintro v114 rfl;refine wTM hT10 ?_;refine cBM j6 (λ_ j6=>?_) λ_ j6=>?_
     .exact zdk hT9 (x10,(w64 (v103+1))) j6
     obtain rfl:=qal j6;exact rHM h
    rintro⟨⟩ rfl;dsimp only at h;refine wTM hT6 ?_;exact rHM h
   exact rHM h
  obtain⟨o11,j11,h⟩:=bsM h;obtain⟨T11,hT11⟩:=mkT λa:Bool=>⟨117,[(6,(dB a))],[]⟩
  refine EvL.jn T11 (λa=>a=o11) ?_ ?_
  .refine wSM ?_;refine cBM j11 (λ_ j11=>?_) λ_ j11=>?_
   .exact zeV j11 hT11
   refine cBM j11 (λ_ j11=>?_) λ_ j11=>?_
   .exact zeV j11 hT11
   refine cBM j11 (λ_ j11=>?_) λ_ j11=>?_
   .exact zeV j11 hT11
   obtain⟨x17,g18,j11⟩:=bsM j11;refine sXM (ixM g18) ?_;refine cBM j11 (λ_ j11=>?_) λ_ j11=>?_
   .exact zeV j11 hT11
   refine cBM j11 (λ_ j11=>?_) λ_ j11=>?_
   .exact zeV j11 hT11
   exact zeV j11 hT11
  rintro v6 rfl;refine wTM hT11 ?_;exact rHM h
 obtain⟨o12,j12,h⟩:=bsM h;obtain⟨T12,hT12⟩:=mkT λa:Bool=>⟨117,[(6,(dB a))],[]⟩
 refine EvL.jn T12 _ (bJM j12 hT12) ?_;rintro v6 rfl;refine wTM hT12 ?_;exact rHM h
def zbk(p0:(List Int)):Nat->Int->Int->Option Int
 | 0,_,_=>none
 | n+1,v3,v8=>(
bif (decide (v8<(p0.length:Int)))then(
(zaC p0 v8).bind λx2=>
zbk p0 n (orI .u64 v3 x2) (w64 (v8+1)))
else(
some v3))
def zbY(p0:(List Int)):Option Int:=
((zbk p0 ((p0.length:Int) - 0+2:Int).toNat 0 0:Option Int)).bind λv3=>
some v3
theorem zfm{r:Int}(h:zbY p0=some r):Lx.Fn mC 56 [(fzE false (eI .u64) p0)] (dU r):=by
 refine gnO ?_;unfold zbY at h;refine wSM ?_;obtain⟨o1,j1,h⟩:=bsM h;obtain⟨T1,hT1⟩:=mkT λa:Int=>⟨17,[(3,(dU a))],[]⟩
 refine EvL.jn T1 (λa=>a=o1) ?_ ?_
 .refine wSM ?_;obtain⟨T2,hT2⟩:=mkT λa:(Int×Int)=>⟨17,[(3,(dU a.1)),(6,(fzE false (eI .u64) p0)),(7,(dI (p0.length:Int))),(8,(dI a.2))],[]⟩
  refine rdM hT2 (λn a=>zbk p0 n a.1 a.2=some o1) (0,0) j1 ?_;rintro n ⟨v3,v8⟩ j1;simp only[zbk]at j1;refine wTM hT2 ?_;refine cBM j1 (λc1 j1=>?_) λc1 j1=>?_
  .refine sXM c1 ?_;exact zeV j1 hT1
  obtain⟨x2,g3,j1⟩:=bsM j1;refine zku (zao (n:=1) (e:=(eI .u64)) rfl g3) c1 ?_;exact zdk hT2 ((orI .u64 v3 x2),(w64 (v8+1))) j1
 rintro v3 rfl;refine wTM hT1 ?_;exact rHM h
def zdn(p0:Int)(p1:Int):Option (Int×Int):=
(zkk .u64 p0 32).bind λq1=>
(zkk .u64 p1 32).bind λq3=>
(zkk .u64 (IntKind.u64.wrap ((ziu .u64 p0 4294967295)* (ziu .u64 p1 4294967295))) 32).bind λq5=>
(zkk .u64 (IntKind.u64.wrap ((IntKind.u64.wrap (q1 * (ziu .u64 p1 4294967295)))+q5)) 32).bind λq7=>
(zkk .u64 (IntKind.u64.wrap ((ziu .u64 (IntKind.u64.wrap ((IntKind.u64.wrap (q1 * (ziu .u64 p1 4294967295)))+q5)) 4294967295)+(IntKind.u64.wrap ((ziu .u64 p0 4294967295)* q3)))) 32).bind λq9=>
some ((IntKind.u64.wrap ((IntKind.u64.wrap ((IntKind.u64.wrap (q1 * q3))+q7))+q9)),(IntKind.u64.wrap (p0 * p1)))
theorem zlk{p0:Int}{r:(Int×Int)}(h:zdn p0 p1=some r):Lx.Fn mC 86 [(dU p0),(dU p1)] (.tup [(dU r.1),(dU r.2)]):=by
 refine gnO ?_;unfold zdn at h;refine zab ?_;obtain⟨q1,g2,h⟩:=bind_some h;obtain⟨q3,g4,h⟩:=bind_some h;obtain⟨q5,g6,h⟩:=bind_some h;obtain⟨q7,g8,h⟩:=bind_some h;obtain⟨q9,g10,h⟩:=bind_some h;try simp only[rnA,Nat.reduceEqDiff,reduceIte,Nat.reduceLT,Nat.reduceAdd,Nat.reduceLeDiff,Nat.reduceMul,Nat.reduceSub,Int.reduceLE,Int.reduceLT,Int.reduceBEq,Nat.reduceBEq,reduceCtorEq,(zbm g2).1,(zbm g2).2,(zbm g4).1,(zbm g4).2,(zbm g6).1,(zbm g6).2,(zbm g8).1,(zbm g8).2,(zbm g10).1,(zbm g10).2]
 replace h:=qal h; subst h;exact zg4.ret rfl (Snp.zrr (.cons (.lit _) (.cons (.lit _) .nil)))
def zch(p0:(List Int))(v5:Int)(C1:Nat):Nat->Int->(List Int)->Option (Out3 Unit (Int×(List Int)) ((List Int)×Bool))
 | 0,_,_=>none
 | n+1,v18,l0'=>(
bif (decide (v18<(p0.length:Int)))then(
(zaC p0 v18).bind λx5=>
(((zkk .u64 v5 v18).bind λq7=>
bif ((ziu .u64 q7 1)== 0)then(
some (((zBP .u64 x5 v5)== 0),l0'))
else(
some (false,l0')):Option ((Bool×(List Int))))).bind λo=>match o with
|(v33,l0'')=>(
bif v33 then(
(zoa C1 l0'' [v18]).bind λy11=>
(zo9 .u64 1 v18).bind λq13=>
some (.brk ((orI .u64 v5 q13),y11)))
else(
zch p0 v5 C1 n (w64 (v18+1)) l0'')))
else(
some (.go ())))
def zcd(p0:(List Int))(C1:Nat):Nat->Int->(List Int)->Option (Out (List Int) ((List Int)×Bool))
 | 0,_,_=>none
 | n+1,v5,l0=>(
bif (decide (((l0.length:Nat):Int)<(p0.length:Int)))then(
((zch p0 v5 C1 ((p0.length:Int) - 0+2:Int).toNat 0 l0:Option (Out3 Unit (Int×(List Int)) ((List Int)×Bool)))).bind λo=>match o with
| .go _=>(
some (.ret ([],false)))
| .brk (v5',l0')=>(
zcd p0 C1 n v5' l0')
| .ret r=>some (.ret r))
else(
some (.go l0)))
def zdm(p0:(List Int)):Option ((List Int)×Bool):=
(zzA 8 (p0.length:Int)).bind λC1=>
((zcd p0 C1 ((p0.length:Int) - ((([]:List Int).length:Nat):Int)+2:Int).toNat 0 ([]:List Int):Option (Out (List Int) ((List Int)×Bool)))).bind λo=>match o with
| .go l0=>(
some (l0,true))
| .ret r=>some r
theorem zll{r:((List Int)×Bool)}(h:zdm p0=some r):Lx.Fn mC 134 [(fzE false (eI .u64) p0)] (.tup [(fzE true (eI .i64) r.1),(dB r.2)]):=by
 refine gnO ?_;unfold zdm at h;refine wSM ?_;refine EvL.scope (zab ?_);obtain⟨C1,g2,h⟩:=bsM h;refine ziz ((zkT g2).1.1) ((zkT g2).1.2) ((zkT g2).2) @qbC @Int.toNat_zero (show List.replicate C1 [(dI 0)]=(room [] C1 0).map ((eI .i64).c true)from zwD g2 0 ((eI .i64).c true)) ?_;obtain⟨o84,j84,h⟩:=bsM h;obtain⟨T84,hT84⟩:=mkT λa:(List Int)=>⟨44,[(4,(.sl 0 0 1 a.length (some C1) C1))],[.els 1 ((room a C1 0).map ((eI .i64).c true))]⟩
 refine EvL.jn T84 (λa=>o84=.go a/\a.length<=C1) ?_ ?_
 .refine wSM ?_;obtain⟨T103,hT103⟩:=mkT λa:(Int×(List Int))=>⟨44,[(0,(fzE false (eI .u64) p0)),(4,(.sl 0 0 1 a.2.length (some C1) C1)),(5,(dU a.1))],[.els 1 ((room a.2 C1 0).map ((eI .i64).c true))]⟩
  refine rdM hT103 (λn a=>zcd p0 C1 n a.1 a.2=some o84/\a.2.length<=C1) (0,([]:List Int)) ⟨j84,(qaw _)⟩ ?_;rintro n ⟨v5,l0⟩ ⟨j84,el0⟩;simp only[zcd]at j84;rw[congrFun hT103 (v5,l0)];refine zab ?_;refine sXM (zh4 el0 0) ?_;refine cBM j84 (λ_ j84=>?_) λ_ j84=>?_
  .obtain rfl:=qal j84;exact zdk hT84 _ ⟨rfl,el0⟩
  obtain⟨o108,j108,j84⟩:=bsM j84;obtain⟨T108,hT108⟩:=mkT λa:Unit=>⟨44,[],[]⟩
  obtain⟨TB108,hTB108⟩:∃ T:(Int×(List Int))->LSt,T=(λa=>⟨44,[(0,(fzE false (eI .u64) p0)),(4,(.sl 0 0 1 a.2.length (some C1) C1)),(5,(dU a.1))],[.els 1 ((room a.2 C1 0).map ((eI .i64).c true))]⟩):=⟨_,rfl⟩;refine EvL.jn2 (id:=1) T108 (λa=>o108=.go a) TB108 (λa=>o108=.brk a/\a.2.length<=C1) (λid S hx=>by first | (rcases hx with⟨hx | hx,_⟩<;> cases hx)| exact hx.elim) ?_ ?_ ?_
  .refine wSM ?_;obtain⟨T111,hT111⟩:=mkT λa:(Int×(List Int))=>⟨44,[(0,(fzE false (eI .u64) p0)),(4,(.sl 0 0 1 a.2.length (some C1) C1)),(5,(dU v5)),(16,(fzE false (eI .u64) p0)),(17,(dI (p0.length:Int))),(18,(dI a.1))],[.els 1 ((room a.2 C1 0).map ((eI .i64).c true))]⟩
   refine rdM hT111 (λn a=>zch p0 v5 C1 n a.1 a.2=some o108/\a.2.length<=C1) (0,l0) ⟨j108,el0⟩ ?_;rintro n ⟨v18,l0'⟩ ⟨j108,el0'⟩;simp only[zch]at j108;refine wTM hT111 ?_;refine cBM j108 (λ_ j108=>?_) λ_ j108=>?_
   .obtain rfl:=qal j108;exact zdk hT108 _ rfl
   obtain⟨x5,g6,j108⟩:=bsM j108;refine sXM (zao (n:=1) (e:=(eI .u64)) rfl g6) ?_;obtain⟨o112,j112,j108⟩:=bsM j108;obtain⟨T112,hT112⟩:=zdD hT111 λa:(Bool×(List Int))=>uDM (T111 (v18,l0')) [4] [(4,(.sl 0 0 1 a.2.length (some C1) C1)),(6,(dI v18)),(33,(dB a.1))] [(0,.els 1 ((room a.2 C1 0).map ((eI .i64).c true)))] []
   refine EvL.jn T112 (λa=>a=o112/\a.2.length<=C1) ?_ ?_
   .refine zab ?_;obtain⟨q7,g8,j112⟩:=bsM j112;refine zku ((zbm g8).1) ((zbm g8).2) ?_;refine cBM j112 (λ_ j112=>?_) λ_ j112=>?_
    .obtain rfl:=qal j112;exact zdk hT112 _ ⟨rfl,el0'⟩
    obtain rfl:=qal j112;exact zdk hT112 _ ⟨rfl,el0'⟩
   rintro⟨v33,l0''⟩ ⟨rfl,el0''⟩;dsimp only at j108;refine wTM hT112 ?_;refine cBM j108 (λ_ j108=>?_) λ_ j108=>?_
   .exact zdk hT111 ((w64 (v18+1)),l0'') ⟨j108,el0''⟩
   obtain⟨y11,g12,j108⟩:=bsM j108;obtain⟨q13,g14,j108⟩:=bsM j108;refine ziz (zh4 el0'' 0) (show l0''.length+1=y11.length from znr g12) (zoK g12) (show((room l0'' C1 0).map ((eI .i64).c true)).take l0''.length ++ [[(dI v18)]]++ ((room l0'' C1 0).map ((eI .i64).c true)).drop y11.length=(room y11 C1 0).map ((eI .i64).c true)from zs3 g12 0 ((eI .i64).c true)) ((zdj g14).1) ((zdj g14).2) ?_;obtain rfl:=qal j108;exact zdk hTB108 _ ⟨rfl,(zoK g12)⟩
  .rintro⟨⟩ rfl;dsimp only at j84;refine wTM hT108 ?_;obtain rfl:=qal j84;exact rHM h
  rintro⟨v5',l0'⟩ ⟨rfl,el0'⟩;dsimp only at j84;refine wTM hTB108 ?_;exact zdk hT103 (v5',l0') ⟨j84,el0'⟩
 rintro l0 ⟨rfl,el0⟩;dsimp only at h;refine wTM hT84 ?_;obtain rfl:=qal h;exact zg4.ret rfl (Snp.zrr (.cons (zvy (e:=(eI .i64)) (t:=true) (z:=0) rfl rfl el0 (λ_=>rfl)) (.cons (.lit _) .nil)))
def za3(p0:(List Int)):Nat->Int->Int->Option (Int×Bool)
 | 0,_,_=>none
 | n+1,v2,v11=>(
bif (decide (v11<(p0.length:Int)))then(
(zaC p0 v11).bind λx3=>
((bif (decide (x3<1))then(
some true)
else(
bif (decide (8<x3))then(
some true)
else(
some (decide (4096<(w64 (v2 * x3)))))):Option Bool)).bind λv15=>
bif v15 then(
some (0,false))
else(
za3 p0 n (w64 (v2 * x3)) (w64 (v11+1))))
else(
some (v2,true)))
def zbW(p0:(List Int)):Option (Int×Bool):=
bif (decide (12<(p0.length:Int)))then(
some (0,false))
else(
((za3 p0 ((p0.length:Int) - 0+2:Int).toNat 1 0:Option ((Int×Bool)))).bind λo=>match o with
|(v2,v3)=>(
some (v2,v3)))
theorem zfY{r:(Int×Bool)}(h:zbW p0=some r):Lx.Fn mC 119 [(fzE false (eI .i64) p0)] (.tup [(dI r.1),(dB r.2)]):=by
 refine gnO ?_;unfold zbW at h;refine wSM ?_;refine EvL.scope (zab ?_);refine sSM ?_;refine cBM h (λ_ h=>?_) λ_ h=>?_
 .obtain⟨o12,j12,h⟩:=bsM h;obtain⟨T12,hT12⟩:=mkT λa:(Int×Bool)=>⟨30,[(2,(dI a.1)),(3,(dB a.2))],[]⟩
  refine EvL.jn T12 (λa=>a=o12) ?_ ?_
  .refine wSM ?_;obtain⟨T15,hT15⟩:=mkT λa:(Int×Int)=>⟨30,[(2,(dI a.1)),(3,(dB true)),(9,(fzE false (eI .i64) p0)),(10,(dI (p0.length:Int))),(11,(dI a.2))],[]⟩
   refine rdM hT15 (λn a=>za3 p0 n a.1 a.2=some o12) (1,0) j12 ?_;rintro n ⟨v2,v11⟩ j12;simp only[za3]at j12;refine wTM hT15 ?_;refine cBM j12 (λ_ j12=>?_) λ_ j12=>?_
   .exact zeV j12 hT12
   obtain⟨x3,g4,j12⟩:=bsM j12;refine sXM (ixM g4) ?_;obtain⟨o16,j16,j12⟩:=bsM j12;obtain⟨T16,hT16⟩:=zdD hT15 λa:Bool=>uDM (T15 (v2,v11)) [] [(5,(dI x3)),(15,(dB a))] [] []
   refine EvL.jn T16 _ (bJM j16 hT16) ?_;rintro v15 rfl;refine wTM hT16 ?_;refine cBM j12 (λ_ j12=>?_) λ_ j12=>?_
   .exact zdk hT15 ((w64 (v2 * x3)),(w64 (v11+1))) j12
   exact zeV j12 hT12
  rintro⟨v2,v3⟩ rfl;dsimp only at h;refine wTM hT12 ?_;exact rHM h
 exact rHM h
def zbF(p1:S_api_Net)(p0:S_haruspexref05_Known):Nat->Int->(List Int)->Option (List Int)
 | 0,_,_=>none
 | n+1,v6,l2=>(
bif (decide (v6<(p1.nodes.length:Int)))then(
(zkk .u8 p0.which (IntKind.u64.wrap v6)).bind λq2=>
((bif ((ziu .u8 q2 1)== 1)then(
(zaC [p0.v.a0,p0.v.a1,p0.v.a2,p0.v.a3,p0.v.a4,p0.v.a5,p0.v.a6,p0.v.a7] v6).bind λx5=>
(zaC p1.nodes v6).bind λx7=>
(znx (w64 x5) x7.card).bind λq9=>
some q9)
else(
some (-1)):Option Int)).bind λv7=>
(zc2 8 l2 [v7]).bind λy11=>
zbF p1 p0 n (w64 (v6+1)) y11)
else(
some l2))
def zco(p0:S_haruspexref05_Known)(p1:S_api_Net):Option (List Int):=
((zbF p1 p0 ((p1.nodes.length:Int) - 0+2:Int).toNat 0 []:Option (List Int))).bind λl2=>
some l2
theorem ziV{p0:S_haruspexref05_Known}{p1:S_api_Net}(h:zco p0 p1=some r):Lx.Fn mC 24 [(.agg [(dU8 p0.which),(dU8 p0.v.a0),(dU8 p0.v.a1),(dU8 p0.v.a2),(dU8 p0.v.a3),(dU8 p0.v.a4),(dU8 p0.v.a5),(dU8 p0.v.a6),(dU8 p0.v.a7)]),(.agg [(dI p1.grain),(fzE false zad p1.nodes)])] (fzE true (eI .i64) r):=by
 refine gnO ?_;unfold zco at h;refine wSM ?_;obtain⟨o5,j5,h⟩:=bsM h;obtain⟨T5,hT5⟩:=mkT λa:(List Int)=>⟨39,[(5,(.sl 2 0 1 a.length none a.length))],[.gone,.gone,.grow 1 (a.map ((eI .i64).c true))]⟩
 refine EvL.jn T5 (λa=>a=o5) ?_ ?_
 .refine wSM ?_;obtain⟨T9,hT9⟩:=mkT λa:(Int×(List Int))=>⟨39,[(2,(.ptr 0 0)),(3,(.ptr 1 0)),(5,(.sl 2 0 1 a.2.length none a.2.length)),(6,(dI a.1))],[.cells [(dU8 p0.which),(dU8 p0.v.a0),(dU8 p0.v.a1),(dU8 p0.v.a2),(dU8 p0.v.a3),(dU8 p0.v.a4),(dU8 p0.v.a5),(dU8 p0.v.a6),(dU8 p0.v.a7)],.cells [(dI p1.grain),(fzE false zad p1.nodes)],.grow 1 (a.2.map ((eI .i64).c true))]⟩
  refine EvL.zjG (zaT.ghost (n:=1) (k:=5) (by decide) rfl) ?_;refine EvL.rounds (α:=(Int×(List Int))) T9 (λn a=>zbF p1 p0 n a.1 a.2=some o5) ((p1.nodes.length:Int) - 0+2:Int).toNat (0,[]) (by rw[hT9]; exact wm0 [.k,.k,.k] ⟨MB.cs ⟨qdk,qdk,qdk,qdk,qdk,qdk,qdk,qdk,qdk,qdk⟩,⟨MB.cs ⟨qdk,qdk,qdk⟩,⟨MB.gs (eI .i64) true [],qdk⟩⟩⟩) j5 (λ_ h=>nomatch (show(none:Option (List Int))=some o5 from h)) ?_;rintro n ⟨v6,l2⟩ j5;simp only[zbF]at j5;refine wTM hT9 ?_;refine cBM j5 (λ_ j5=>?_) λ_ j5=>?_
  .exact zeV j5 hT5
  obtain⟨q2,g3,j5⟩:=bsM j5;refine zku ((zbm g3).1) ((zbm g3).2) ?_;obtain⟨o10,j10,j5⟩:=bsM j5;obtain⟨T10,hT10⟩:=zdD hT9 λa:Int=>uDM (T9 (v6,l2)) [] [(7,(dI a))] [] []
  refine EvL.jn T10 (λa=>a=o10) ?_ ?_
  .refine wSM ?_;refine cBM j10 (λ_ j10=>?_) λ_ j10=>?_
   .exact zeV j10 hT10
   obtain⟨x5,g6,j10⟩:=bsM j10;obtain⟨x7,g8,j10⟩:=bsM j10;obtain⟨q9,g10,j10⟩:=bsM j10;refine ziz @zal (zaL g6) (show v6<((8:Nat):Int)from zb3 g6) @qbI (show [(dU8 p0.which),(dU8 p0.v.a0),(dU8 p0.v.a1),(dU8 p0.v.a2),(dU8 p0.v.a3),(dU8 p0.v.a4),(dU8 p0.v.a5),(dU8 p0.v.a6),(dU8 p0.v.a7)][1+v6.toNat]? = some (.lit (.int .u8 x5))from zyN (a:=1) (i:=v6) g6 (λx=>(.lit (.int .u8 x):D)) rfl) (anM (zao (n:=3) (e:=zad) rfl g8) (anM (zhe g10) (zii g10))) ?_;exact zeV j10 hT10
  rintro v7 rfl;refine wTM hT10 ?_;obtain⟨y11,g12,j5⟩:=bsM j5;refine zu2 (zby g12) (plM g12) (piM g12) ?_;exact zdk hT9 ((w64 (v6+1)),y11) j5
 rintro l2 rfl;refine wTM hT5 ?_;exact rHM h
def zgZ(p0:Int)(p1:Int):Option S_api_Gate:=
some (S_api_Gate.mk 2 p0 p1 0 [])
theorem zr4{p0:Int}{r:S_api_Gate}(h:zgZ p0 p1=some r):Lx.FnA mC 70 [(dI p0),(dI p1)] (.agg [(dI r.kind),(dI r.var),(dI r.val),(dI r.n),(fzE false (eI .i64) r.args)]):=by
 refine zzC ?_;unfold zgZ at h;refine zab ?_;try simp only[rnA,Nat.reduceEqDiff,reduceIte,Nat.reduceLT,Nat.reduceAdd,Nat.reduceLeDiff,Nat.reduceMul,Nat.reduceSub,Int.reduceLE,Int.reduceLT,Int.reduceBEq,Nat.reduceBEq,reduceCtorEq,zaD]
 replace h:=qal h; subst h;exact zpl.ret rfl (.zrH (.cons (.lit _) (.cons (.lit _) (.cons (.lit _) (.cons (.lit _) (.cons (zhs (eI .i64)) .nil))))))
def zec(p0:Int):Option S_api_Gate:=
some (S_api_Gate.mk 1 0 0 p0 [])
theorem zkZ{p0:Int}{r:S_api_Gate}(h:zec p0=some r):Lx.FnA mC 74 [(dI p0)] (.agg [(dI r.kind),(dI r.var),(dI r.val),(dI r.n),(fzE false (eI .i64) r.args)]):=by
 refine zzC ?_;unfold zec at h;refine zab ?_;try simp only[rnA,Nat.reduceEqDiff,reduceIte,Nat.reduceLT,Nat.reduceAdd,Nat.reduceLeDiff,Nat.reduceMul,Nat.reduceSub,Int.reduceLE,Int.reduceLT,Int.reduceBEq,Nat.reduceBEq,reduceCtorEq,zaD]
 replace h:=qal h; subst h;exact zpl.ret rfl (.zrH (.cons (.lit _) (.cons (.lit _) (.cons (.lit _) (.cons (.lit _) (.cons (zhs (eI .i64)) .nil))))))
def zdA(p0:(List Int)):Option S_api_Gate:=
some (S_api_Gate.mk 4 0 0 0 p0)
theorem zji{r:S_api_Gate}(h:zdA p0=some r):Lx.FnA mC 75 [(fzE false (eI .i64) p0)] (.agg [(dI r.kind),(dI r.var),(dI r.val),(dI r.n),(fzE false (eI .i64) r.args)]):=by
 refine zzC ?_;unfold zdA at h;refine zab ?_;try simp only[rnA,Nat.reduceEqDiff,reduceIte,Nat.reduceLT,Nat.reduceAdd,Nat.reduceLeDiff,Nat.reduceMul,Nat.reduceSub,Int.reduceLE,Int.reduceLT,Int.reduceBEq,Nat.reduceBEq,reduceCtorEq,zaD]
 replace h:=qal h; subst h;exact zpl.ret rfl (.zrH (.cons (.lit _) (.cons (.lit _) (.cons (.lit _) (.cons (.lit _) (.cons (zbL _ _ (λh=>nomatch h)) .nil))))))
def zgv(p0:(List Int)):Option S_api_Gate:=
some (S_api_Gate.mk 3 0 0 0 p0)
theorem zqY{r:S_api_Gate}(h:zgv p0=some r):Lx.FnA mC 76 [(fzE false (eI .i64) p0)] (.agg [(dI r.kind),(dI r.var),(dI r.val),(dI r.n),(fzE false (eI .i64) r.args)]):=by
 refine zzC ?_;unfold zgv at h;refine zab ?_;try simp only[rnA,Nat.reduceEqDiff,reduceIte,Nat.reduceLT,Nat.reduceAdd,Nat.reduceLeDiff,Nat.reduceMul,Nat.reduceSub,Int.reduceLE,Int.reduceLT,Int.reduceBEq,Nat.reduceBEq,reduceCtorEq,zaD]
 replace h:=qal h; subst h;exact zpl.ret rfl (.zrH (.cons (.lit _) (.cons (.lit _) (.cons (.lit _) (.cons (.lit _) (.cons (zbL _ _ (λh=>nomatch h)) .nil))))))
end Go.Dc
