/-
 What r02_Size computes. Conditions: none.
-/
import Derived.Test.YtbjogdohfhdaiaaGreatENDm
set_option linter.unusedSimpArgs false
set_option linter.unusedVariables false
set_option maxRecDepth 100000
set_option maxHeartbeats 4000000
namespace Go.Dc
open Go Go.Mx Go.Lx Go.Proofs
def zdv(p0:(List Int)):Nat->Int->Int->Option Int
 | 0,_,_=>none
 | n+1,v3,v4=>(
bif (decide (v4<(p0.length:Int)))then(
(zaz p0 v4).bind λx2=>
zdv p0 n (w64 (v3 * x2)) (w64 (v4+1)))
else(
some v3))
def zd9(p0:(List Int)):Option Int:=
((zdv p0 ((p0.length:Int) - 0+2:Int).toNat 1 0:Option Int)).bind λv3=>
some v3
variable{p0:(List Int)}
theorem zjG{r:Int}(h:zd9 p0=some r):Lx.Fn mC 36 [(fzE false (eI .i64) p0)] (dI r):=by
 refine gnO ?_;unfold zd9 at h;refine wSM ?_;obtain⟨o1,j1,h⟩:=bsM h;obtain⟨T1,hT1⟩:=mkT λa:Int=>⟨18,[(3,(dI a))],[]⟩
 refine EvL.jn T1 (λa=>a=o1) ?_ ?_
 .refine wSM ?_;obtain⟨T2,hT2⟩:=mkT λa:(Int×Int)=>⟨18,[(0,(fzE false (eI .i64) p0)),(3,(dI a.1)),(4,(dI a.2))],[]⟩
  refine rdM hT2 (λn a=>zdv p0 n a.1 a.2=some o1) (1,0) j1 ?_;rintro n ⟨v3,v4⟩ j1;simp only[zdv]at j1;refine wTM hT2 ?_;refine cBM j1 (λ_ j1=>?_) λ_ j1=>?_
  .exact zcf j1 hT1
  obtain⟨x2,g3,j1⟩:=bsM j1;refine sXM (ixM g3) ?_;exact zct hT2 ((w64 (v3 * x2)),(w64 (v4+1))) j1
 rintro v3 rfl;refine wTM hT1 ?_;exact rHM h
def zeT(p1:(List Int))(p0:(List Int)):Nat->Int->(List Int)->Option (List Int)
 | 0,_,_=>none
 | n+1,v6,l0=>(
bif (decide (v6<(p1.length:Int)))then(
(zaz p1 v6).bind λx2=>
(zaz p0 x2).bind λx4=>
(zd1 8 l0 [x4]).bind λy6=>
zeT p1 p0 n (w64 (v6+1)) y6)
else(
some l0))
def zg9(p0:(List Int))(p1:(List Int)):Option (List Int):=
((zeT p1 p0 ((p1.length:Int) - 0+2:Int).toNat 0 []:Option (List Int))).bind λl0=>
some l0
variable{r:(List Int)}
theorem zuN{p1:(List Int)}(h:zg9 p0 p1=some r):Lx.Fn mC 65 [(fzE false (eI .i64) p0),(fzE false (eI .i64) p1)] (fzE true (eI .i64) r):=by
 refine gnO ?_;unfold zg9 at h;refine wSM ?_;obtain⟨o1,j1,h⟩:=bsM h;obtain⟨T1,hT1⟩:=mkT λa:(List Int)=>⟨24,[(5,(.sl 0 0 1 a.length none a.length))],[.grow 1 (a.map ((eI .i64).c true))]⟩
 refine EvL.jn T1 (λa=>a=o1) ?_ ?_
 .refine wSM ?_;obtain⟨T2,hT2⟩:=mkT λa:(Int×(List Int))=>⟨24,[(0,(fzE false (eI .i64) p0)),(1,(fzE false (eI .i64) p1)),(5,(.sl 0 0 1 a.2.length none a.2.length)),(6,(dI a.1))],[.grow 1 (a.2.map ((eI .i64).c true))]⟩
  refine EvL.ze4 (zbH.ghost (n:=1) (k:=5) (by decide) rfl) ?_;refine EvL.rounds (α:=(Int×(List Int))) T2 (λn a=>zeT p1 p0 n a.1 a.2=some o1) ((p1.length:Int) - 0+2:Int).toNat (0,[]) (by rw[hT2]; exact wm0 [.k] ⟨MB.gs (eI .i64) true [],qdy⟩) j1 (λ_ h=>nomatch (show(none:Option (List Int))=some o1 from h)) ?_;rintro n ⟨v6,l0⟩ j1;simp only[zeT]at j1;refine wTM hT2 ?_;refine cBM j1 (λ_ j1=>?_) λ_ j1=>?_
  .exact zcf j1 hT1
  obtain⟨x2,g3,j1⟩:=bsM j1;obtain⟨x4,g5,j1⟩:=bsM j1;obtain⟨y6,g7,j1⟩:=bsM j1;refine sXM (anM (ixM g3) (anM (ixM g5) (anM (zcK g7) (anM (plM g7) (piM g7))))) ?_;exact zct hT2 ((w64 (v6+1)),y6) j1
 rintro l0 rfl;refine wTM hT1 ?_;exact rHM h
def zc6(p0:S_api_Net):Nat->Int->(List Int)->Option (List Int)
 | 0,_,_=>none
 | n+1,v4,l1=>(
bif (decide (v4<(p0.nodes.length:Int)))then(
(zaz p0.nodes v4).bind λx2=>
(zd1 8 l1 [x2.zap]).bind λy4=>
zc6 p0 n (w64 (v4+1)) y4)
else(
some l1))
def zea(p0:S_api_Net):Option (List Int):=
((zc6 p0 ((p0.nodes.length:Int) - 0+2:Int).toNat 0 []:Option (List Int))).bind λl1=>
some l1
theorem zm0{p0:S_api_Net}(h:zea p0=some r):Lx.Fn mC 66 [(.agg [(dI p0.grain),(fzE false zaa p0.nodes)])] (fzE true (eI .i64) r):=by
 refine gnO ?_;unfold zea at h;refine wSM ?_;obtain⟨o1,j1,h⟩:=bsM h;obtain⟨T1,hT1⟩:=mkT λa:(List Int)=>⟨22,[(3,(.sl 1 0 1 a.length none a.length))],[.gone,.grow 1 (a.map ((eI .i64).c true))]⟩
 refine EvL.jn T1 (λa=>a=o1) ?_ ?_
 .refine wSM ?_;obtain⟨T2,hT2⟩:=mkT λa:(Int×(List Int))=>⟨22,[(1,(.ptr 0 0)),(3,(.sl 1 0 1 a.2.length none a.2.length)),(4,(dI a.1))],[.cells [(dI p0.grain),(fzE false zaa p0.nodes)],.grow 1 (a.2.map ((eI .i64).c true))]⟩
  refine EvL.ze4 (zbH.ghost (n:=1) (k:=3) (by decide) rfl) ?_;refine EvL.rounds (α:=(Int×(List Int))) T2 (λn a=>zc6 p0 n a.1 a.2=some o1) ((p0.nodes.length:Int) - 0+2:Int).toNat (0,[]) (by rw[hT2]; exact wm0 [.k,.k] ⟨MB.cs ⟨qdy,qdy,qdy⟩,⟨MB.gs (eI .i64) true [],qdy⟩⟩) j1 (λ_ h=>nomatch (show(none:Option (List Int))=some o1 from h)) ?_;rintro n ⟨v4,l1⟩ j1;simp only[zc6]at j1;refine wTM hT2 ?_;refine cBM j1 (λ_ j1=>?_) λ_ j1=>?_
  .exact zcf j1 hT1
  obtain⟨x2,g3,j1⟩:=bsM j1;obtain⟨y4,g5,j1⟩:=bsM j1;refine sXM (anM @zaf (anM (zas (n:=3) (e:=zaa) rfl g3) (anM (zcK g5) (anM (plM g5) (piM g5))))) ?_;exact zct hT2 ((w64 (v4+1)),y4) j1
 rintro l1 rfl;refine wTM hT1 ?_;exact rHM h
def zc5(p1:Int)(p2:(List Int))(p3:Int):Nat->Int->Int->(List Int)->Option (Int×(List Int))
 | 0,_,_,_=>none
 | n+1,v10,v11,l0=>(
bif (decide (v11<p1))then(
((bif (decide (0<(p2.length:Int)))then(
(zrz (w64 (p3+v11)) (p2.length:Int)).bind λq5=>
(zaz p2 q5).bind λx7=>
(zaz l0 v11).bind λx9=>
(zeU l0 v11 (w64 (x7.tmod 8))).bind λy11=>
some y11)
else(
some l0):Option (List Int))).bind λl0'=>
(zaz l0' v11).bind λx13=>
zc5 p1 p2 p3 n (w64 (v10+x13)) (w64 (v11+1)) l0')
else(
some (v10,l0)))
def zdu(p1:Int)(p0:Int)(v10:Int):Nat->Int->Int->Int->(List Int)->Option (Int×Int×(List Int))
 | 0,_,_,_,_=>none
 | n+1,v12,v13,v14,l0'=>(
bif (decide (v14<p1))then(
(zaz l0' v14).bind λx16=>
((bif (decide (0<x16))then(
(zvI .i64 (w64 (p0 * x16)) v10).bind λq19=>
(zeU l0' v14 q19).bind λy21=>
some (v14,y21))
else(
some (v13,l0')):Option ((Int×(List Int))))).bind λo=>match o with
|(v13',l0'')=>(
(zaz l0'' v14).bind λx23=>
zdu p1 p0 v10 n (w64 (v12 - x23)) v13' (w64 (v14+1)) l0''))
else(
some (v12,v13,l0')))
def zfx(p0:Int)(p1:Int)(p2:(List Int))(p3:Int):Option (List Int):=
(zem 8 p1 0).bind λy1=>
((zc5 p1 p2 p3 (p1 - 0+2:Int).toNat 0 0 y1:Option ((Int×(List Int))))).bind λo=>match o with
|(v10,l0)=>(
((zdu p1 p0 v10 (p1 - 0+2:Int).toNat p0 0 0 l0:Option ((Int×Int×(List Int))))).bind λo=>match o with
|(v12,v13,l0')=>(
(zaz l0' v13).bind λx25=>
(zeU l0' v13 (w64 (x25+v12))).bind λy27=>
some y27))
theorem zri{p0:Int}{p1:Int}{p2:(List Int)}{p3:Int}(h:zfx p0 p1 p2 p3=some r):Lx.Fn mC 38 [(dI p0),(dI p1),(fzE false (eI .u8) p2),(dI p3)] (fzE true (eI .i64) r):=by
 refine gnO ?_;unfold zfx at h;refine zad ?_;obtain⟨y1,g2,h⟩:=bsM h;refine sXM (anM ((zbW g2).1.1) (anM ((zbW g2).1.2) (anM @qcV (miM g2)))) ?_;obtain⟨o4,j4,h⟩:=bsM h;obtain⟨T4,hT4⟩:=mkT λa:(Int×(List Int))=>⟨84,[(0,(dI p0)),(1,(dI p1)),(9,(.sl 0 0 1 (Int.toNat p1) (some (Int.toNat p1)) (Int.toNat p1))),(10,(dI a.1))],[.els 1 (a.2.map ((eI .i64).c true))]⟩
 refine EvL.jn T4 (λa=>a=o4/\a.2.length=(Int.toNat p1)) ?_ ?_
 .refine wSM ?_;obtain⟨T7,hT7⟩:=mkT λa:(Int×Int×(List Int))=>⟨84,[(0,(dI p0)),(1,(dI p1)),(2,(fzE false (eI .u8) p2)),(3,(dI p3)),(9,(.sl 0 0 1 (Int.toNat p1) (some (Int.toNat p1)) (Int.toNat p1))),(10,(dI a.1)),(11,(dI a.2.1))],[.els 1 (a.2.2.map ((eI .i64).c true))]⟩
  refine rdM hT7 (λn a=>zc5 p1 p2 p3 n a.1 a.2.1 a.2.2=some o4/\a.2.2.length=(Int.toNat p1)) (0,0,y1) ⟨j4,zdg g2⟩ ?_;rintro n ⟨v10,v11,l0⟩ ⟨j4,el0⟩;simp only[zc5]at j4;refine wTM hT7 ?_;refine cBM j4 (λ_ j4=>?_) λ_ j4=>?_
  .obtain rfl:=qaf j4;exact zct hT4 _ ⟨rfl,el0⟩
  obtain⟨o8,j8,j4⟩:=bsM j4;obtain⟨T8,hT8⟩:=zce hT7 λa:(List Int)=>uDM (T7 (v10,v11,l0)) [] [] [(0,.els 1 (a.map ((eI .i64).c true)))] []
  refine EvL.jn T8 (λa=>a=o8/\a.length=(Int.toNat p1)) ?_ ?_
  .refine wSM ?_;refine cBM j8 (λ_ j8=>?_) λ_ j8=>?_
   .obtain rfl:=qaf j8;exact zct hT8 _ ⟨rfl,el0⟩
   obtain⟨q5,g6,j8⟩:=bsM j8;obtain⟨x7,g8,j8⟩:=bsM j8;obtain⟨x9,g10,j8⟩:=bsM j8;obtain⟨y11,g12,j8⟩:=bsM j8;refine sXM (anM (zhL g6) (anM (ziW g6) (anM (zas (n:=1) (e:=(eI .u8)) rfl g8) (anM el0 (anM (zbp g10) (anM (ltM el0 g10) (anM (giM g10) (siM g12)))))))) ?_;obtain rfl:=qaf j8;exact zct hT8 _ ⟨rfl,(zbU g12).trans el0⟩
  rintro l0' ⟨rfl,el0'⟩;refine wTM hT8 ?_;obtain⟨x13,g14,j4⟩:=bsM j4;refine sXM (anM el0' (anM (zbp g14) (anM (ltM el0' g14) (giM g14)))) ?_;exact zct hT7 ((w64 (v10+x13)),(w64 (v11+1)),l0') ⟨j4,el0'⟩
 rintro⟨v10,l0⟩ ⟨rfl,el0⟩;dsimp only at h;refine wTM hT4 ?_;obtain⟨o13,j13,h⟩:=bsM h;obtain⟨T13,hT13⟩:=zce hT4 λa:(Int×Int×(List Int))=>uKM (T4 (v10,l0)) [9] [(12,(dI a.1)),(13,(dI a.2.1))] [(0,.els 1 (a.2.2.map ((eI .i64).c true)))] []
 refine EvL.jn T13 (λa=>a=o13/\a.2.2.length=(Int.toNat p1)) ?_ ?_
 .refine wSM ?_;obtain⟨T17,hT17⟩:=zce hT4 λa:(Int×Int×Int×(List Int))=>uDM (T4 (v10,l0)) [] [(12,(dI a.1)),(13,(dI a.2.1)),(14,(dI a.2.2.1))] [(0,.els 1 (a.2.2.2.map ((eI .i64).c true)))] []
  refine rdM hT17 (λn a=>zdu p1 p0 v10 n a.1 a.2.1 a.2.2.1 a.2.2.2=some o13/\a.2.2.2.length=(Int.toNat p1)) (p0,0,0,l0) ⟨j13,el0⟩ ?_;rintro n ⟨v12,v13,v14,l0'⟩ ⟨j13,el0'⟩;simp only[zdu]at j13;refine wTM hT17 ?_;refine cBM j13 (λ_ j13=>?_) λ_ j13=>?_
  .obtain rfl:=qaf j13;exact zct hT13 _ ⟨rfl,el0'⟩
  obtain⟨x16,g17,j13⟩:=bsM j13;refine sXM (anM el0' (anM (zbp g17) (anM (ltM el0' g17) (giM g17)))) ?_;obtain⟨o18,j18,j13⟩:=bsM j13;obtain⟨T18,hT18⟩:=zce hT17 λa:(Int×(List Int))=>uDM (T17 (v12,v13,v14,l0')) [13] [(13,(dI a.1))] [(0,.els 1 (a.2.map ((eI .i64).c true)))] []
  refine EvL.jn T18 (λa=>a=o18/\a.2.length=(Int.toNat p1)) ?_ ?_
  .refine wSM ?_;refine cBM j18 (λ_ j18=>?_) λ_ j18=>?_
   .obtain rfl:=qaf j18;exact zct hT18 _ ⟨rfl,el0'⟩
   obtain⟨q19,g20,j18⟩:=bsM j18;obtain⟨y21,g22,j18⟩:=bsM j18;refine sXM (anM el0' (anM (zbp g17) (anM (ltM el0' g17) (anM (giM g17) (anM (zvg g20) (anM (zz2 g20) (siM g22))))))) ?_;obtain rfl:=qaf j18;exact zct hT18 _ ⟨rfl,(zbU g22).trans el0'⟩
  rintro⟨v13',l0''⟩ ⟨rfl,el0''⟩;dsimp only at j13;refine wTM hT18 ?_;obtain⟨x23,g24,j13⟩:=bsM j13;refine sXM (anM el0'' (anM (zbp g24) (anM (ltM el0'' g24) (giM g24)))) ?_;exact zct hT17 ((w64 (v12 - x23)),v13',(w64 (v14+1)),l0'') ⟨j13,el0''⟩
 rintro⟨v12,v13,l0'⟩ ⟨rfl,el0'⟩;dsimp only at h;refine wTM hT13 ?_;obtain⟨x25,g26,h⟩:=bsM h;obtain⟨y27,g28,h⟩:=bsM h;refine sXM (anM el0' (anM (zbp g26) (anM (ltM el0' g26) (anM (giM g26) (siM g28))))) ?_;exact rHM h
def zv0(num:List Int)(ps8 u k:Int)(ps:List Int):Option Bool:=
 (zaz num k).bind λx=>bif x == u then((zl6 .u8 ps8 (IntKind.u64.wrap k)).bind λq=>bif zkd .u8 q 1 == 1 then some (decide ((ps.length:Int)<3))else some false)else some false
def zow(num:List Int)(i ps8 u:Int):Nat->Int->List Int->Option (List Int)
 | 0,_,_=>none
 | n+1,k,ps=>bif decide (k<i)then((zv0 num ps8 u k ps).bind λb=>bif b then((zd1 8 ps [u]).bind λps2=>zow num i ps8 u n (w64 (k+1)) ps2)else zow num i ps8 u n (w64 (k+1)) ps)else some ps
def zrC(num:List Int)(i ps8 count:Int):Nat->Int->List Int->Option (List Int)
 | 0,_,_=>none
 | n+1,u,ps=>bif decide (u<count)then((zow num i ps8 u (i.toNat+2) 0 ps).bind λps2=>zrC num i ps8 count n (w64 (u+1)) ps2)else some ps
def zpc(num:List Int)(i v count ps8:Int)(nodes:List S_api_Node):Option (List S_api_Node):=
 (zaz nodes v).bind λx=>bif x.parents.isEmpty then((zrC num i ps8 count (count.toNat+2) 0 []).bind λps=>zeU nodes v ⟨x.zap,ps,x.rows⟩)else none
def zyg:C:=
 (.seq (.seq (rg [oM 101 14,
 oM 102 10,
 oB 103 .lss 101 102])
 (.cond (.s 103) (.skip)
 (.exit 6)))
 (.seq (.block 7 (.seq (.scope (rg [oM 106 5,
 oM 107 14,
 oI 108 1 106 107,
 oL 109 108,
 oM 110 13,
 oB 111 .eql 109 110,
 oM 112 111,
 oFg 113 1 11 112 true,
 oLg 114 113 112 true,
 oMg 115 14 112 true,
 ⟨some 116,.conv .u64 (.s 115),some (112,true)⟩,
 ⟨some 117,.bin .shr (.s 114) (.s 116),some (112,true)⟩,
 ⟨some 118,.bin .and (.s 117) (.c (.int .u8 1)),some (112,true)⟩,
 ⟨some 119,.bin .eql (.s 118) (.c (.int .u8 1)),some (112,true)⟩,
 ⟨some 120,.pick (.s 112) (.s 119) (.c (.bool false)),none⟩,
 oM 121 120,
 oFg 122 1 4 121 true,
 oLg 123 122 121 true,
 oMg 124 12 121 true,
 ⟨some 125,.idxS 3 (.s 123) (.s 124),some (121,true)⟩,
 oFg 126 1 125 121 true,
 oLg 127 126 121 true,
 ⟨some 128,.len (.s 127),some (121,true)⟩,
 oDg 129 .lss 128 3 121 true,
 ⟨some 130,.pick (.s 121) (.s 129) (.c (.bool false)),none⟩]))
 (.scope (.cond (.s 130) (.reg true false [oF 131 1 4,
 oL 132 131,
 oM 133 12,
 oF 134 1 4,
 oL 135 134,
 oM 136 12,
 oI 137 3 135 136,
 oF 138 1 137,
 oL 139 138,
 oM 140 13,
 ⟨some 141,.bsl 1 1 [(.int .i64 0)] [(0,(.s 140))],none⟩,
 ⟨none,.avo [(.s 131)] (.s 139),none⟩,
 oT 142 1 8 139 141,
 oI 143 3 132 133,
 oF 144 1 143,
 oS 1 144 142])
 (.skip)))))
 (rg [oM 104 14,
 oD 105 .add 104 1,
 oM 14 105])))
def zxz:C:=
 (.seq (.seq (rg [oM 96 13,
 oM 97 3,
 oB 98 .lss 96 97])
 (.cond (.s 98) (.skip)
 (.exit 4)))
 (.seq (.block 5 (.seq (rg [oK 14 0])
 (.scope (.block 6 (.loop zyg)))))
 (rg [oM 99 13,
 oD 100 .add 99 1,
 oM 13 100])))
section
variable (b0 b1:LB) (c40 c42:D) (num:List Int) (i v count ps8 grain:Int) (cnt:Nat) (nodes:List S_api_Node) (x:S_api_Node)
end
variable{Q:LX->LSt->Prop}{nodes':List S_api_Node}
theorem zCA{k:List K}{b0 b1:LB}{c40 c42:D}{num:List Int}{i v count ps8 grain:Int}{cnt:Nat}{nodes:List S_api_Node}(g:zpc num i v count ps8 nodes=some nodes')(hb0:∀ kp,LB.kin kp b0)(hb1:∀ kp,LB.kin kp b1)(hc0:∀ kp,D.kin kp c40)(hc2:∀ kp,D.kin kp c42)(hl:nodes.length=cnt)(hk:EvL mC 0 k ⟨187,[(1,.ptr 0 0),(2,.ptr 1 0),(3,dI count),(4,.ptr 3 0),(5,fzE true (eI .i64) num),(10,dI i),(11,.ptr 4 0),(12,dI v)],[b0,b1,.els 3 (nodes'.map (zal.c true)),.cells [dI grain,.sl 2 0 3 cnt (some cnt) cnt],.cells [c40,dU8 ps8,c42]]⟩ Q):
  EvL mC 0 (.code (.scope (.block 4 (.loop zxz))):: k) ⟨187,[(1,.ptr 0 0),(2,.ptr 1 0),(3,dI count),(4,.ptr 3 0),(5,fzE true (eI .i64) num),(10,dI i),(11,.ptr 4 0),(12,dI v),(13,dI 0)],[b0,b1,.els 3 (nodes.map (zal.c true)),.cells [dI grain,.sl 2 0 3 cnt (some cnt) cnt],.cells [c40,dU8 ps8,c42]]⟩ Q:=by
 unfold zpc at g;obtain⟨x,gx,g⟩:=bsM g;cases hp:x.parents.isEmpty with
 | false=>rw[hp]at g; cases g
 | true=>
 rw[hp,qdz]at g;obtain⟨ps,gu,g⟩:=bsM g;have hv0:=zbp gx;have hv1:v<((cnt:Nat):Int):=hl ▸ zfH gx;have hxe:=zex gx (zal.c true);have hxl:=(qab.1 (zhU gx)).1;have hgs:∀ C:List D,((nodes.map (zal.c true)).set v.toNat C)[v.toNat]? = some C:=λC=>by rw[qaE (by simpa using hxl)]
 obtain⟨HP,hHP⟩:∃ HP:List Int->List LB,HP=(λa=>[b0,b1,.els 3 ((nodes.map (zal.c true)).set v.toNat [dI x.zap,.sl 5 0 1 a.length none a.length,nE true (eL (eI .i64)) x.rows]),.cells [dI grain,.sl 2 0 3 cnt (some cnt) cnt],.cells [c40,dU8 ps8,c42],.grow 1 (a.map ((eI .i64).c true))]):=⟨_,rfl⟩;refine EvL.jn (α:=Unit) (λ_=>⟨187,[(1,.ptr 0 0),(2,.ptr 1 0),(3,dI count),(4,.ptr 3 0),(5,fzE true (eI .i64) num),(10,dI i),(11,.ptr 4 0),(12,dI v)],[b0,b1,.els 3 (nodes'.map (zal.c true)),.cells [dI grain,.sl 2 0 3 cnt (some cnt) cnt],.cells [c40,dU8 ps8,c42]]⟩) (λ_=>True) ?_ (λ_ _=>hk);refine wSM ?_;refine EvL.ze4 (zbH.zxm (n:=1) (b:=2) (i:=v.toNat) (o:=1) (by decide) rfl hxe (by rw[zeG,zx2 _ _ hp]; rfl)) ?_;obtain⟨T,hT⟩:∃ T:Int×List Int->LSt,T=(λa=>⟨187,[(1,.ptr 0 0),(2,.ptr 1 0),(3,dI count),(4,.ptr 3 0),(5,fzE true (eI .i64) num),(10,dI i),(11,.ptr 4 0),(12,dI v),(13,dI a.1)],HP a.2⟩):=⟨_,rfl⟩;refine EvL.rounds T (λn a=>zrC num i ps8 count n a.1 a.2=some ps) (count.toNat+2) (0,[]) (by rw[hT,hHP]; exact zbH.sub ⟨rfl,rfl,rfl,rfl,rfl,rfl,rfl,rfl,rfl,qdy⟩) gu (λ_ h=>nomatch h) ?_;rintro n ⟨u,a⟩ h;simp only[zrC]at h;rw[congrFun hT (u,a),congrFun hHP a];simp only[zxz,zh3];refine zad ?_;cases c1:decide (u<count)with
 | false=>
  rw[c1,qdA]at h;cases h;refine sXM c1 ?_;exact⟨(),qdy,wm0 [.k,.k,.k,.k,.k,.f] ⟨.same (hb0 _),.same (hb1 _),MB.close g (.cons (.same trivial) (.cons (.fr (zsS (t:=true) rfl rfl rfl rfl (λh=>by cases h<;>rfl))) (.cons (.same (zmT _ _ _ _)) .nil))),MB.cs ⟨qdy,rfl,qdy⟩,MB.cs ⟨hc0 _,qdy,hc2 _,qdy⟩,qdy⟩⟩
 | true=>
  rw[c1,qdz]at h;obtain⟨a2,gk,h⟩:=bsM h;refine sXM c1 ?_;refine EvL.scope (zad ?_);refine sSM ?_;obtain⟨TK,hTK⟩:∃ TK:Int×List Int->LSt,TK=(λa=>⟨187,[(1,.ptr 0 0),(2,.ptr 1 0),(3,dI count),(4,.ptr 3 0),(5,fzE true (eI .i64) num),(10,dI i),(11,.ptr 4 0),(12,dI v),(13,dI u),(14,dI a.1)],HP a.2⟩):=⟨_,rfl⟩;refine EvL.rounds TK (λn a=>zow num i ps8 u n a.1 a.2=some a2) (i.toNat+2) (0,a) (by rw[hTK,hHP]; exact zbH.sub ⟨rfl,rfl,rfl,rfl,rfl,rfl,rfl,rfl,rfl,rfl,qdy⟩) gk (λ_ h=>nomatch h) ?_;rintro m ⟨kk,b⟩ hk2;simp only[zow]at hk2;rw[congrFun hTK (kk,b),congrFun hHP b];simp only[zyg,zh3];refine zad ?_;cases c2:decide (kk<i)with
  | false=>
   rw[c2,qdA]at hk2;obtain rfl:=qaf hk2;refine sXM c2 ?_;exact⟨(w64 (u+1),b),h,by rw[hT,hHP]; exact zbH.sub ⟨rfl,rfl,rfl,rfl,rfl,rfl,rfl,rfl,rfl,qdy⟩⟩
  | true=>
   rw[c2,qdz]at hk2;obtain⟨t,gc,hk2⟩:=bsM hk2;unfold zv0 at gc;obtain⟨y,gy,gc⟩:=bsM gc;refine sXM c2 ?_;refine EvL.scope (zad ?_);cases c3:(y == u)with
   | false=>
    rw[c3,qdA]at gc;obtain rfl:=qaf gc;rw[qdA]at hk2;refine sXM (anM c3 (ixM gy)) ?_;refine EvL.scope (zad ?_);refine sSM ?_;exact⟨(w64 (kk+1),b),hk2,by rw[hTK,hHP]; exact zbH.sub ⟨rfl,rfl,rfl,rfl,rfl,rfl,rfl,rfl,rfl,rfl,qdy⟩⟩
   | true=>
    rw[c3,qdz]at gc;obtain⟨q,gq,gc⟩:=bsM gc;cases c4:(zkd .u8 q 1 == 1)with
    | false=>
     rw[c4,qdA]at gc;obtain rfl:=qaf gc;rw[qdA]at hk2;refine sXM (anM c3 (anM c4 (anM (ixM gy) (anM ((zbu gq).1) ((zbu gq).2))))) ?_;refine EvL.scope (zad ?_);refine sSM ?_;exact⟨(w64 (kk+1),b),hk2,by rw[hTK,hHP]; exact zbH.sub ⟨rfl,rfl,rfl,rfl,rfl,rfl,rfl,rfl,rfl,rfl,qdy⟩⟩
    | true=>
     rw[c4,qdz]at gc;obtain rfl:=qaf gc;simp only[rnA,Nat.reduceEqDiff,Nat.reduceLT,c3,c4,zas (n:=1) (e:=(eI .i64)) rfl gy,(zbu gq).1,(zbu gq).2,hv0,hv1,qat,hl,hgs];refine EvL.scope (zad ?_);cases c5:decide ((b.length:Int)<3)with
     | false=>
      rw[c5,qdA]at hk2;refine sSM ?_;exact⟨(w64 (kk+1),b),hk2,by rw[hTK,hHP]; exact zbH.sub ⟨rfl,rfl,rfl,rfl,rfl,rfl,rfl,rfl,rfl,rfl,qdy⟩⟩
     | true=>
      rw[c5,qdz]at hk2;obtain⟨b2,gb,hk2⟩:=bsM hk2;simp only[rnA,Nat.reduceEqDiff,Nat.reduceLT,Nat.reduceAdd,Nat.reduceLeDiff,Nat.reduceBEq,hv0,hv1,qat,hl,hgs,qb3,zcK gb,(plM gb),(piM gb)];exact⟨(w64 (kk+1),b2),hk2,by rw[hTK,hHP]; exact wm0 [.k,.k,.k,.k,.k,.k] ⟨.same (hb0 _),.same (hb1 _),MB.opn ⟨qdy,rfl,zmT _ _ _ _,qdy⟩,MB.cs ⟨qdy,rfl,qdy⟩,MB.cs ⟨hc0 _,qdy,hc2 _,qdy⟩,MB.gs (eI .i64) true b2,qdy⟩⟩
theorem zkG{num:List Int}{i v count ps8:Int}{nodes:List S_api_Node}(g:zpc num i v count ps8 nodes=some nodes'):nodes'.length=nodes.length:=by
 unfold zpc at g;obtain⟨x,gx,g⟩:=bsM g;cases hp:x.parents.isEmpty with
 | false=>rw[hp]at g; cases g
 | true=>
 rw[hp,qdz]at g;obtain⟨ps,gu,g⟩:=bsM g;exact zbU g
def zaX(p0:S_api_Net)(p1:Int):Option (List Int):=
(zaz p0.nodes p1).bind λx1=>
(zea p0).bind λr3=>
(zg9 r3 x1.parents).bind λr5=>
some r5
theorem zez{p0:S_api_Net}{p1:Int}{r:(List Int)}(h:zaX p0 p1=some r):Lx.Fn mC 37 [(.agg [(dI p0.grain),(fzE false zaa p0.nodes)]),(dI p1)] (fzE true (eI .i64) r):=by
 refine gnO ?_;unfold zaX at h;refine zad ?_;obtain⟨x1,g2,h⟩:=bsM h;obtain⟨r3,g4,h⟩:=bsM h;refine sXM (anM @zaf (zas (n:=3) (e:=zaa) rfl g2)) ?_;refine fCM (zm0 g4) ?_;obtain⟨r5,g6,h⟩:=bsM h;refine sSM ?_;refine fCM (zuN g6) ?_;exact rHM h
def zrb(grain v:Int)(W:List Int)(nodes:List S_api_Node)(x:S_api_Node):Nat->Int->List (List Int)->Option (List (List Int))
 | 0,_,_=>none
 | n+1,r,rows=>(zeU nodes v ⟨x.zap,x.parents,rows⟩).bind λcur=>
   (zaX ⟨grain,cur⟩ v).bind λpc=>(zd9 pc).bind λsz=>
   bif decide (r<sz)then((zfx grain x.zap W (w64 (r * w64 (x.zap+1)))).bind λy=>(zd1 24 rows [y]).bind λrows2=>zrb grain v W nodes x n (w64 (r+1)) rows2)else some rows
def zo8(N:Nat)(grain v:Int)(W:List Int)(nodes:List S_api_Node):Option (List S_api_Node):=
 (zaz nodes v).bind λx=>bif x.rows.isEmpty then((zrb grain v W nodes x N 0 []).bind λrows=>zeU nodes v ⟨x.zap,x.parents,rows⟩)else none
def zxp:C:=
 (.seq (.seq (rg [oM 145 15,
 oN 146 2 4,
 oM 147 12,
 oV 148 37 146 147,
 oU 149 36 148,
 oB 150 .lss 145 149])
 (.cond (.s 150) (.skip)
 (.exit 8)))
 (.seq (.block 9 (.reg true true [oF 153 1 4,
 oL 154 153,
 oM 155 12,
 oF 156 1 4,
 oL 157 156,
 oM 158 12,
 oI 159 3 157 158,
 oF 160 2 159,
 oL 161 160,
 oF 162 0 4,
 oL 163 162,
 oF 164 1 4,
 oL 165 164,
 oM 166 12,
 oI 167 3 165 166,
 oF 168 0 167,
 oL 169 168,
 oF 170 2 11,
 oL 171 170,
 oM 172 15,
 oF 173 1 4,
 oL 174 173,
 oM 175 12,
 oI 176 3 174 175,
 oF 177 0 176,
 oL 178 177,
 oD 179 .add 178 1,
 oB 180 .mul 172 179,
 ⟨some 181,.call 38 [(.s 163),(.s 169),(.s 171),(.s 180)],none⟩,
 ⟨some 182,.bsl 1 1 [(.slice none 0 0)] [(0,(.s 181))],none⟩,
 ⟨none,.avo [(.s 153)] (.s 161),none⟩,
 oT 183 1 24 161 182,
 oI 184 3 154 155,
 oF 185 2 184,
 oS 1 185 183]))
 (rg [oM 151 15,
 oD 152 .add 151 1,
 oM 15 152])))
theorem zAL{L:List LB}{nodes cur:List S_api_Node}{v:Int}{y:S_api_Node}{c:List D}(g:zeU nodes v y=some cur)(hc:Snps L false c (zaa.c false y)):
  Pw (Snp L false) ((nodes.map (zal.c true)).set v.toNat c) (cur.map (zaa.c false)):=by
 rw[<- zf8 g (zaa.c false)];exact Pw.set (Pw.map (λx=>⟨(zdf (L:=L) (t:=true) (u:=false) (λh=>nomatch h) x).len,(zdf (L:=L) (t:=true) (u:=false) (λh=>nomatch h) x).get⟩) nodes) hc.len hc.get _
variable{W:List Int}
theorem zCv{k:List K}{b0 b1:LB}{c40 c41:D}{num:List Int}{i v count grain:Int}{cnt N:Nat}{nodes:List S_api_Node}(g:zo8 N grain v W nodes=some nodes')(hb0:∀ kp,LB.kin kp b0)(hb1:∀ kp,LB.kin kp b1)(hc0:∀ kp,D.kin kp c40)(hc1:∀ kp,D.kin kp c41)(hl:nodes.length=cnt)(hk:EvL mC 0 k ⟨187,[(1,.ptr 0 0),(2,.ptr 1 0),(3,dI count),(4,.ptr 3 0),(5,fzE true (eI .i64) num),(10,dI i),(11,.ptr 4 0),(12,dI v)],[b0,b1,.els 3 (nodes'.map (zal.c true)),.cells [dI grain,.sl 2 0 3 cnt (some cnt) cnt],.cells [c40,c41,fzE false (eI .u8) W]]⟩ Q):
  EvL mC 0 (.code (.scope (.block 8 (.loop zxp))):: k) ⟨187,[(1,.ptr 0 0),(2,.ptr 1 0),(3,dI count),(4,.ptr 3 0),(5,fzE true (eI .i64) num),(10,dI i),(11,.ptr 4 0),(12,dI v),(15,dI 0)],[b0,b1,.els 3 (nodes.map (zal.c true)),.cells [dI grain,.sl 2 0 3 cnt (some cnt) cnt],.cells [c40,c41,fzE false (eI .u8) W]]⟩ Q:=by
 unfold zo8 at g;obtain⟨x,gx,g⟩:=bsM g;cases hp:x.rows.isEmpty with
 | false=>rw[hp]at g; cases g
 | true=>
 rw[hp,qdz]at g;obtain⟨rows,gu,g⟩:=bsM g;have hv0:=zbp gx;have hv1:v<((cnt:Nat):Int):=hl ▸ zfH gx;have hxe:=zex gx (zal.c true);have hxl:=(qab.1 (zhU gx)).1;have hgs:∀ C:List D,((nodes.map (zal.c true)).set v.toNat C)[v.toNat]? = some C:=λC=>by rw[qaE (by simpa using hxl)]
 refine EvL.jn (α:=Unit) (λ_=>⟨187,[(1,.ptr 0 0),(2,.ptr 1 0),(3,dI count),(4,.ptr 3 0),(5,fzE true (eI .i64) num),(10,dI i),(11,.ptr 4 0),(12,dI v)],[b0,b1,.els 3 (nodes'.map (zal.c true)),.cells [dI grain,.sl 2 0 3 cnt (some cnt) cnt],.cells [c40,c41,fzE false (eI .u8) W]]⟩) (λ_=>True) ?_ (λ_ _=>hk);refine wSM ?_;refine EvL.ze4 (zbH.zxm (n:=1) (b:=2) (i:=v.toNat) (o:=2) (by decide) rfl hxe (by rw[zeG,zx2 _ _ hp]; rfl)) ?_;obtain⟨T,hT⟩:∃ T:Int×List (List Int)->LSt,T=(λa=>⟨187,[(1,.ptr 0 0),(2,.ptr 1 0),(3,dI count),(4,.ptr 3 0),(5,fzE true (eI .i64) num),(10,dI i),(11,.ptr 4 0),(12,dI v),(15,dI a.1)],[b0,b1,.els 3 ((nodes.map (zal.c true)).set v.toNat [dI x.zap,nE true (eI .i64) x.parents,.sl 5 0 1 a.2.length none a.2.length]),.cells [dI grain,.sl 2 0 3 cnt (some cnt) cnt],.cells [c40,c41,fzE false (eI .u8) W],.grow 1 (a.2.map ((eL (eI .i64)).c true))]⟩):=⟨_,rfl⟩;refine EvL.rounds T (λn a=>zrb grain v W nodes x n a.1 a.2=some rows) N (0,[]) (by rw[hT]; exact zbH.sub ⟨rfl,rfl,rfl,rfl,rfl,rfl,rfl,rfl,rfl,qdy⟩) gu (λ_ h=>nomatch h) ?_;rintro n ⟨r,a⟩ h;simp only[zrb]at h;obtain⟨cur,gcur,h⟩:=bsM h;obtain⟨pc,gpc,h⟩:=bsM h;obtain⟨sz,gsz,h⟩:=bsM h;rw[congrFun hT (r,a)];simp only[zxp,zh3];refine wSM ?_;refine EvL.fn (zez gpc) rfl rfl (.cons (.zga (.cons (.lit _) (.cons (zau (e:=zaa) rfl (.inl rfl) (by rw[qat,qay]; exact hl.symm) (by rw[qat,qay]; exact hl.symm) (λk h=>by cases h; exact qap _) (zAL gcur (.cons (.lit _) (.cons (zoJ _ _ (λh=>nomatch h)) (.cons (zar (e:=(eL (eI .i64))) (t:=true) rfl (.inr rfl) rfl rfl (λk h=>nomatch h) (λh=>nomatch h)) .nil))))) .nil))) (.cons (.lit _) .nil)) ?_;refine sSM ?_;refine fCM (zjG gsz) ?_;cases c1:decide (r<sz)with
 | false=>
  rw[c1,qdA]at h;obtain rfl:=qaf h;refine sXM c1 ?_;exact⟨(),qdy,wm0 [.k,.k,.k,.k,.k,.f] ⟨.same (hb0 _),.same (hb1 _),MB.close g (.cons (.same trivial) (.cons (.same (zmT _ _ _ _)) (.cons (.fr (zsS (t:=true) rfl rfl rfl rfl (λh=>by cases h<;>rfl))) .nil))),MB.cs ⟨qdy,rfl,qdy⟩,MB.cs ⟨hc0 _,hc1 _,qdy,qdy⟩,qdy⟩⟩
 | true=>
  rw[c1,qdz]at h;obtain⟨y,gy,h⟩:=bsM h;obtain⟨b2,gb,h⟩:=bsM h;simp only[rnA,Nat.reduceEqDiff,Nat.reduceLT,c1,hv0,hv1,qat,hl,hgs];refine EvL.fn (zri gy) rfl rfl (.cons (.lit _) (.cons (.lit _) (.cons (zdD _ _ (λh=>nomatch h)) (.cons (.lit _) .nil)))) ?_;simp only[rnA,Nat.reduceEqDiff,Nat.reduceLT,Nat.reduceAdd,Nat.reduceLeDiff,Nat.reduceBEq,hv0,hv1,qat,hl,hgs,qb3,zcK gb,(plM gb),(show a.map ((eL (eI .i64)).c true)++ [[fzE true (eI .i64) y]]=b2.map ((eL (eI .i64)).c true)from zfR gb ((eL (eI .i64)).c true))];exact⟨(w64 (r+1),b2),h,by rw[hT]; exact wm0 [.k,.k,.k,.k,.k,.k] ⟨.same (hb0 _),.same (hb1 _),MB.opn ⟨qdy,zmT _ _ _ _,rfl,qdy⟩,MB.cs ⟨qdy,rfl,qdy⟩,MB.cs ⟨hc0 _,hc1 _,qdy,qdy⟩,MB.gs (eL (eI .i64)) true b2,qdy⟩⟩
theorem zq7{N:Nat}{grain v:Int}{nodes:List S_api_Node}(g:zo8 N grain v W nodes=some nodes'):nodes'.length=nodes.length:=by
 unfold zo8 at g;obtain⟨x,gx,g⟩:=bsM g;cases hp:x.rows.isEmpty with
 | false=>rw[hp]at g; cases g
 | true=>
 rw[hp,qdz]at g;obtain⟨ps,gu,g⟩:=bsM g;exact zbU g
def zf0(x:S_api_Node):Option S_api_Node:=some x
theorem zoB{x r:S_api_Node}(h:zf0 x=some r):Lx.FnA mC 114 [.agg (zaa.c false x)] (.clo 129 [] [.fptr false (zaa.c false r)]):=by
 cases h;refine zCP ?_;refine zad ?_;refine sXM @zaf ?_;refine zxD.ret rfl (.clo rfl rfl (λi d d' h1 h2=>by simp at h1) λi d d' h1 h2=>?_);cases i with
 | zero=>
  simp only[qco,qad]at h1 h2;subst h1;subst h2;exact .ptr rfl (qap _) λk d d' h3 h4=>by
   rw[qaR]at h3;exact(zaa.snp (L:=_) (t:=false) (t':=false) x id).get k d d' h3 h4
 | succ i=>simp at h1
def znR:C:=
 (.seq (rg [oB 9 .lss 8 7])
 (.seq (.cond (.s 9) (.skip)
 (.exit 0))
 (.seq (.block 1 (.seq (rg [oM 10 8,
 oI 11 1 6 8,
 oL 12 11,
 oM 3 10,
 oM 4 12])
 (.seq (rg [oM 13 0,
 oM 14 3,
 oM 15 4,
 ⟨some 16,.callv (.s 13) [(.s 14),(.s 15)],none⟩,
 ⟨some 17,.un .not (.s 16),none⟩])
 (.cond (.s 17) (.ret)
 (.skip)))))
 (rg [oD 18 .add 8 1,
 oM 8 18]))))
def zxR:C:=
 .seq (rg [oF 5 2 1,
 oL 6 5,
 oE 7 6,
 oK 8 0])
 (.scope (.block 0 (.loop znR)))
theorem zwf:zuD mC 129=some (19,zxR,[],false):=zjp (by kernel_rfl)
theorem zwj{α:Type}{xs:List α}{i:Nat}{x:α}(h:xs[i]? = some x):(zvB xs)[i]? = some ((i:Int),x):=by
 simp[zvB,h]
theorem zwo{α:Type}(xs:List α):(zvB xs).length=xs.length:=by simp[zvB]
theorem zrV{L L1:List LB}(h:L=L1 ++ []):L=L1:=by simpa using h
theorem zn5(x:S_api_Node){u:Unit}(hu:zgm x.rows=some u):Gen mC 129 [] [.fptr false (zaa.c false x)] (zvB x.rows) (λy n0 args G=>args=[dI y.1,fzE false (eI .i64) y.2]/\G=[]):=by
 intro n0 β P Ps hβ hlen hround L hP;refine zeP.ofM zwf (zfu rfl) (qal rfl) ?_;simp only[zxR,zh3];refine zad ?_;refine sXM @zaf ?_;refine EvL.scope (zad ?_);refine sSM ?_;have hw:∀(i:Nat),(i:Int)<x.rows.length->IntKind.i64.wrap ((i:Int)+1)=((i+1:Nat):Int):=by
  intro i hi;have:=zsA hu;rw[wrap64 (by omega) (by omega)];omega
 refine EvL.loop (α:=Nat×List LB) (λa=>⟨19,[(0,.yld β),(6,fzE false (eL (eI .i64)) x.rows),(7,dI x.rows.length),(8,dI a.1)],a.2⟩) (λa=>P a.1 a.2/\a.1<=x.rows.length) (λa=>x.rows.length - a.1) (0,L) (zbH.sub ⟨rfl,rfl,rfl,rfl,qdy⟩) ⟨hP,qau _⟩ ?_;rintro⟨i,L'⟩ ⟨hPi,hi⟩;simp only[znR,zh3];refine zad ?_;cases hc:decide ((i:Int)<(x.rows.length:Int))with
 | false=>
  refine sXM hc ?_;refine⟨[],rfl,L',[],by simp,hlen _ _ hPi,.inl ?_⟩;rw[zwo];have h1:=of_decide_eq_false hc;have h2:i=x.rows.length:=by omega
  rw[<- h2];exact hPi
 | true=>
  have h1:=qdG hc;have h2:i<x.rows.length:=by omega
  have hg:zaz x.rows (i:Int)=some x.rows[i]:=zdF h2;refine sXM (anM hc (zas (n:=1) (e:=eL (eI .i64)) rfl hg)) ?_;refine EvL.yield rfl rfl rfl (hround i ((i:Int),x.rows[i]) L' _ [] (zwj (qac h2)) hPi ⟨rfl,rfl⟩|> λh=>by rw[qaQ]at h; exact h) ?_;rintro b L2 ⟨L1,hL2,hl1,hb⟩;have:=zrV hL2;subst this;cases b with
  | true=>
   refine sSM ?_;refine⟨(i+1,L2),⟨hb,h2⟩,?_,zbH.sub ⟨rfl,rfl,rfl,?_,qdy⟩⟩
   .show x.rows.length - (i+1)<x.rows.length - i; omega
   .simp only[lk,if_true];rw[hw i h1]
  | false=>
   refine sSM ?_;exact⟨[],rfl,L2,[],by simp,hl1,.inr hb⟩
end Go.Dc
set_option maxRecDepth 100000
set_option maxHeartbeats 4000000
namespace Go.Dc
open Go Go.Mx Go.Lx Go.Proofs
abbrev sN(a n l:Nat):D:=.sl a 0 n l none l
abbrev gP(l:List Int):LB:=.grow 1 (l.map ((eI .i64).c true))
abbrev h5E(m:Nat)(r:List (Nat×D)):List (Nat×D):=(2,.ptr 0 0)::(3,.ptr 1 0)::(4,.ptr 2 0)::(5,sN 3 3 m):: r
abbrev h4B(b0:LB)(g:D)(nodes:List S_api_Node)(b2:LB)(es:List (List D))(r:List LB):List LB:=b0 :: .cells [g,fzE false zaa nodes]:: b2 :: .grow 3 es :: r
def zbv:C:=
 .seq (.seq (rg [oM 39 8,
 oF 40 1 3,
 oL 41 40,
 oM 42 6,
 oI 43 3 41 42,
 oF 44 2 43,
 oL 45 44,
 oE 46 45,
 oB 47 .lss 39 46])
 (.cond (.s 47) (.skip)
 (.exit 2)))
 (.seq (.block 3 (.seq (rg [⟨some 9,.mov (.c (.slice none 0 0)),none⟩])
 (.reg true false [oF 50 2 7,
 oL 51 50,
 oM 52 9,
 oF 53 1 3,
 oL 54 53,
 oM 55 6,
 oI 56 3 54 55,
 oF 57 2 56,
 oL 58 57,
 oM 59 8,
 oI 60 1 58 59,
 oL 61 60,
 ⟨none,.avo [(.s 50)] (.s 52),none⟩,
 oT 62 1 8 52 61,
 ⟨some 63,.bsl 1 1 [(.slice none 0 0)] [(0,(.s 62))],none⟩,
 oT 64 1 24 51 63,
 oF 65 2 7,
 oS 1 65 64])))
 (rg [oM 48 8,
 oD 49 .add 48 1,
 oM 8 49]))
def zbb:C:=
 .seq (.seq (rg [oM 15 6,
 oF 16 1 3,
 oL 17 16,
 oE 18 17,
 oB 19 .lss 15 18])
 (.cond (.s 19) (.skip)
 (.exit 0)))
 (.seq (.block 1 (.seq (rg [oF 22 1 3,
 oL 23 22,
 oM 24 6,
 oI 25 3 23 24,
 oF 26 0 25,
 oL 27 26,
 ⟨some 28,.build [(.int .i64 0),(.slice none 0 0),(.slice none 0 0)] [(0,1,(.s 27))],none⟩,
 ⟨some 7,.alloc [(.int .i64 0),(.slice none 0 0),(.slice none 0 0)],none⟩,
 oS 3 7 28])
 (.seq (.reg true false [oF 29 1 7,
 oL 30 29,
 oF 31 1 3,
 oL 32 31,
 oM 33 6,
 oI 34 3 32 33,
 oF 35 1 34,
 oL 36 35,
 oT 37 1 8 30 36,
 oF 38 1 7,
 oS 1 38 37])
 (.seq (.seq (rg [oK 8 0])
 (.scope (.block 2 (.loop (zbv)))))
 (rg [oM 66 5,
 oN 67 3 7,
 ⟨some 68,.bsl 3 1 [(.int .i64 0),(.slice none 0 0),(.slice none 0 0)] [(0,(.s 67))],none⟩,
 oT 69 3 56 66 68,
 oM 5 69])))))
 (rg [oM 20 6,
 oD 21 .add 20 1,
 oM 6 21]))
def zxQ:C:=
 .seq (.seq (rg [oM 264 12,
 oM 265 13,
 oB 266 .lss 264 265])
 (.cond (.s 266) (.skip)
 (.exit 5)))
 (.seq (.block 6 (.seq (rg [oM 269 10,
 oZ 270 269,
 oF 271 2 270,
 oL 272 271,
 oM 273 11,
 oI 274 1 272 273,
 oL 275 274,
 oM 276 12,
 oI 277 1 275 276,
 oL 278 277,
 oM 14 278])
 (.seq (.reg true false [oM 279 10,
 oZ 280 279,
 oF 281 2 280,
 oL 282 281,
 oM 283 11,
 oI 284 1 282 283,
 oL 285 284,
 oM 286 12,
 oM 287 10,
 oZ 288 287,
 oF 289 2 288,
 oL 290 289,
 oM 291 11,
 oI 292 1 290 291,
 oL 293 292,
 oM 294 13,
 oI 295 1 293 294,
 oL 296 295,
 oI 297 1 285 286,
 oS 1 297 296])
 (.seq (rg [oM 298 10,
 oZ 299 298,
 oF 300 2 299,
 oL 301 300,
 oM 302 11,
 oI 303 1 301 302,
 oL 304 303,
 oM 305 13,
 oM 306 14,
 oI 307 1 304 305,
 oS 1 307 306])
 (rg [oM 308 13,
 oD 309 .sub 308 1,
 oM 13 309])))))
 (rg [oM 267 12,
 oD 268 .add 267 1,
 oM 12 268]))
def zlH:C:=
 .block 4 (.seq (rg [⟨some 111,.bin .eql (.s 101) (.c (.int .u8 0)),none⟩,
 oM 110 111])
 (.scope (.cond (.s 110) (rg [oF 112 3 2,
 oL 113 112,
 oF 114 0 3,
 oS 1 114 113])
 (.seq (rg [⟨some 116,.bin .eql (.s 101) (.c (.int .u8 1)),none⟩,
 oM 115 116])
 (.cond (.s 115) (rg [oM 117 10,
 oF 118 3 2,
 oL 119 118,
 oZ 120 117,
 oF 121 0 120,
 oS 1 121 119])
 (.seq (rg [⟨some 123,.bin .eql (.s 101) (.c (.int .u8 2)),none⟩,
 oM 122 123])
 (.cond (.s 122) (.reg true false [oM 124 10,
 oM 125 10,
 oZ 126 125,
 oF 127 1 126,
 oL 128 127,
 oF 129 3 2,
 oL 130 129,
 ⟨some 131,.bsl 1 1 [(.int .i64 0)] [(0,(.s 130))],none⟩,
 oT 132 1 8 128 131,
 oZ 133 124,
 oF 134 1 133,
 oS 1 134 132])
 (.seq (rg [⟨some 136,.bin .eql (.s 101) (.c (.int .u8 3)),none⟩,
 oM 135 136])
 (.cond (.s 135) (rg [oM 137 10,
 oZ 138 137,
 oF 139 1 138,
 ⟨none,.store 1 (.s 139) (.c (.slice none 0 0)),none⟩])
 (.seq (rg [⟨some 141,.bin .eql (.s 101) (.c (.int .u8 4)),none⟩,
 oM 140 141])
 (.cond (.s 140) (.reg true false [oM 142 10,
 oM 143 10,
 oZ 144 143,
 oF 145 2 144,
 oL 146 145,
 oF 147 3 2,
 oL 148 147,
 ⟨some 149,.bsl 1 1 [(.int .i64 0)] [(0,(.s 148))],none⟩,
 ⟨some 150,.bsl 1 1 [(.slice none 0 0)] [(0,(.s 149))],none⟩,
 oT 151 1 24 146 150,
 oZ 152 142,
 oF 153 2 152,
 oS 1 153 151])
 (.seq (rg [⟨some 155,.bin .eql (.s 101) (.c (.int .u8 5)),none⟩,
 oM 154 155])
 (.cond (.s 154) (.seq (rg [oM 156 11,
 oD 157 .geq 156 0])
 (.cond (.s 157) (rg [oM 158 10,
 oM 159 10,
 oZ 160 159,
 oF 161 2 160,
 oL 162 161,
 oM 163 11,
 ⟨some 164,.slc 1 (.s 162) none (some (.s 163)) none,none⟩,
 oZ 165 158,
 oF 166 2 165,
 oS 1 166 164])
 (.skip)))
 (.seq (rg [⟨some 168,.bin .eql (.s 101) (.c (.int .u8 6)),none⟩,
 oM 167 168])
 (.cond (.s 167) (.seq (.scope (rg [oM 169 11,
 oD 170 .geq 169 0,
 oM 171 170,
 oMg 172 10 171 true,
 ⟨some 173,.nilck (.s 172),some (171,true)⟩,
 oFg 174 2 173 171 true,
 oLg 175 174 171 true,
 oMg 176 11 171 true,
 ⟨some 177,.idxS 1 (.s 175) (.s 176),some (171,true)⟩,
 oLg 178 177 171 true,
 ⟨some 179,.len (.s 178),some (171,true)⟩,
 oDg 180 .gtr 179 0 171 true,
 ⟨some 181,.pick (.s 171) (.s 180) (.c (.bool false)),none⟩]))
 (.cond (.s 181) (.reg true false [oM 182 10,
 oZ 183 182,
 oF 184 2 183,
 oL 185 184,
 oM 186 11,
 oI 187 1 185 186,
 oL 188 187,
 oF 189 3 2,
 oL 190 189,
 ⟨some 191,.idxS 1 (.s 188) (.c (.int .i64 0)),none⟩,
 oS 1 191 190])
 (.skip)))
 (.seq (rg [⟨some 193,.bin .eql (.s 101) (.c (.int .u8 7)),none⟩,
 oM 192 193])
 (.cond (.s 192) (.seq (rg [oM 194 11,
 oD 195 .geq 194 0])
 (.cond (.s 195) (.reg true false [oM 196 10,
 oZ 197 196,
 oF 198 2 197,
 oL 199 198,
 oM 200 11,
 oM 201 10,
 oZ 202 201,
 oF 203 2 202,
 oL 204 203,
 oM 205 11,
 oI 206 1 204 205,
 oL 207 206,
 ⟨some 208,.bsl 1 1 [(.int .i64 0)] [(0,(.c (.int .i64 0)))],none⟩,
 ⟨none,.avo [(.s 198)] (.s 207),none⟩,
 oT 209 1 8 207 208,
 oI 210 1 199 200,
 oS 1 210 209])
 (.skip)))
 (.seq (rg [⟨some 212,.bin .eql (.s 101) (.c (.int .u8 8)),none⟩,
 oM 211 212])
 (.cond (.s 211) (.seq (.scope (rg [oM 213 11,
 oD 214 .geq 213 0,
 oM 215 214,
 oMg 216 10 215 true,
 ⟨some 217,.nilck (.s 216),some (215,true)⟩,
 oFg 218 2 217 215 true,
 oLg 219 218 215 true,
 oMg 220 11 215 true,
 ⟨some 221,.idxS 1 (.s 219) (.s 220),some (215,true)⟩,
 oLg 222 221 215 true,
 ⟨some 223,.len (.s 222),some (215,true)⟩,
 oDg 224 .gtr 223 0 215 true,
 ⟨some 225,.pick (.s 215) (.s 224) (.c (.bool false)),none⟩]))
 (.cond (.s 225) (.seq (.reg true false [oM 226 10,
 oZ 227 226,
 oF 228 2 227,
 oL 229 228,
 oM 230 11,
 oM 231 10,
 oZ 232 231,
 oF 233 2 232,
 oL 234 233,
 oM 235 11,
 oI 236 1 234 235,
 oL 237 236,
 oE 238 237,
 ⟨some 239,.mk 1 8 [(.int .i64 0)] (.s 238) (.s 238),none⟩,
 oI 240 1 229 230,
 oS 1 240 239])
 (.reg true false [oM 241 10,
 oZ 242 241,
 oF 243 2 242,
 oL 244 243,
 oM 245 11,
 oI 246 1 244 245,
 oL 247 246,
 oF 248 0 3,
 oL 249 248,
 ⟨some 250,.idxS 1 (.s 247) (.c (.int .i64 0)),none⟩,
 oS 1 250 249]))
 (.skip)))
 (.seq (rg [⟨some 252,.bin .eql (.s 101) (.c (.int .u8 9)),none⟩,
 oM 251 252])
 (.cond (.s 251) (.seq (rg [oM 253 11,
 oD 254 .geq 253 0])
 (.cond (.s 254) (.seq (.reg true false [oM 255 10,
 oZ 256 255,
 oF 257 2 256,
 oL 258 257,
 oM 259 11,
 oI 260 1 258 259,
 oL 261 260,
 oE 262 261,
 oD 263 .sub 262 1,
 oK 12 0,
 oM 13 263])
 (.scope (.block 5 (.loop (zxQ)))))
 (.skip)))
 (.seq (rg [⟨some 311,.bin .eql (.s 101) (.c (.int .u8 10)),none⟩,
 oM 310 311])
 (.cond (.s 310) (rg [oF 312 1 3,
 oL 313 312,
 oF 314 0 3,
 oL 315 314,
 ⟨some 316,.bsl 1 1 [(.int .i64 0)] [(0,(.s 315))],none⟩,
 ⟨some 317,.bsl 1 1 [(.slice none 0 0)] [(0,(.s 316))],none⟩,
 ⟨some 318,.build [(.int .i64 0),(.slice none 0 0),(.slice none 0 0)] [(0,1,(.c (.int .i64 1))),(2,1,(.s 317))],none⟩,
 ⟨some 319,.bsl 3 1 [(.int .i64 0),(.slice none 0 0),(.slice none 0 0)] [(0,(.s 318))],none⟩,
 oT 320 3 56 313 319,
 oF 321 1 3,
 oS 1 321 320])
 (rg [oF 102 1 3,
 oL 103 102,
 oF 104 1 3,
 oL 105 104,
 oE 106 105,
 oD 107 .sub 106 1,
 ⟨some 108,.slc 3 (.s 103) none (some (.s 107)) none,none⟩,
 oF 109 1 3,
 oS 1 109 108]))))))))))))))))))))))))
def zB5:C:=
 .seq (rg [oW 2 0,
 oW 3 1,
 ⟨some 4,.alloc [(.int .i64 0),(.slice none 0 0)],none⟩])
 (.seq (rg [⟨some 5,.mov (.c (.slice none 0 0)),none⟩])
 (.seq (.seq (rg [oK 6 0])
 (.scope (.block 0 (.loop (zbb)))))
 (.seq (rg [oM 70 5,
 oF 71 1 3,
 oS 1 71 70])
 (.seq (.seq (rg [oM 72 5,
 oE 73 72,
 oD 74 .eql 73 0])
 (.cond (.s 74) (.seq (rg [oN 75 2 3,
 oS 2 4 75])
 (.ret))
 (.skip)))
 (.seq (rg [oM 76 5,
 oF 77 1 2,
 oL 78 77,
 ⟨some 79,.conv .i64 (.s 78),none⟩,
 oM 80 5,
 oE 81 80,
 oB 82 .rem 79 81,
 oI 83 3 76 82,
 oM 10 83])
 (.seq (rg [⟨some 11,.mov (.c (.int .i64 (-1))),none⟩])
 (.seq (.seq (rg [oM 84 10,
 oZ 85 84,
 oF 86 2 85,
 oL 87 86,
 oE 88 87,
 oD 89 .gtr 88 0])
 (.scope (.cond (.s 89) (.reg true false [oF 90 2 2,
 oL 91 90,
 ⟨some 92,.conv .i64 (.s 91),none⟩,
 oM 93 10,
 oZ 94 93,
 oF 95 2 94,
 oL 96 95,
 oE 97 96,
 oB 98 .rem 92 97,
 oM 11 98])
 (.skip))))
 (.seq (.seq (rg [oF 99 0 2,
 oL 100 99,
 ⟨some 101,.bin .rem (.s 100) (.c (.int .u8 12)),none⟩])
 (zlH))
 (.seq (rg [oN 322 2 3,
 oS 2 4 322])
 (.ret))))))))))
abbrev KB(n:Nat)(es:List (List D)):Prop:=∀ kp:Nat->Bool,(∀ j,j<n->kp j=true)->∀ cs∈es,D.zbD kp cs
theorem Mt.zbD{L:List LB}{F kp:Nat->Bool}:∀ {es:List (List D)},(∀ cs∈es,D.zbD kp cs)->Mt L F kp es es
 | [],_=>.nil
 | x :: r,h=>.cons (Mos.kin (h x qam)) (Mt.zbD λcs hc=>h cs (qai _ hc))
variable{n:Nat}{a b:List (List D)}
theorem KB.app(ha:KB n a)(hb:KB n b):KB n (a ++ b):=by
 intro kp h cs hm;rcases qa8.1 hm with hm | hm
 .exact ha kp h cs hm
 exact hb kp h cs hm
variable{α:Type}
theorem KB.map(e:En α)(t:Bool)(xs:List α):KB n (xs.map (e.c t)):=λkp _=>zk7 e kp t xs
theorem KB.one{c:List D}(h:∀ kp:Nat->Bool,(∀ j,j<n->kp j=true)->D.zbD kp c):KB n [c]:=λkp hk cs hm=>by rw[qaL.1 hm]; exact h kp hk
variable{m:Nat}
theorem KB.le(ha:KB n a)(h:n<=m):KB m a:=λkp hk=>ha kp λj hj=>hk j (qbE hj h)
abbrev fzR(r:List Int):List D:=[fzE true (eI .i64) r]
variable{K0:List K}{Q:LX->LSt->Prop}{b0 b2:LB}{g:D}{nodes:List S_api_Node}{v:Nat}{rs:List (List D)}{i:Nat}
theorem zFD{x:S_api_Node}{es:List (List D)}{q:Nat}(hb0:∀ kp,LB.kin kp b0)(hb2:∀ kp,LB.kin kp b2)(hg:∀ kp,D.kin kp g)(hes:KB 4 es)(hrs:KB 7 rs)(g3:zaz nodes (v:Int)=some x)(hq:rs.length=q)(hlen:x.rows.length * 24<=zac)(hrf:∀ r∈x.rows,r.length * 8<=zac)(hi:i<x.rows.length)(hiq:q=i)(hn:EvL mC 0 (.code (.loop zbv):: K0) ⟨323,(h5E m [(6,dI v),(7,.ptr 4 0),(8,dI ((i+1:Nat):Int))]),(h4B b0 g nodes b2 es [.cells [dI x.zap,sN 5 1 x.parents.length,sN 6 1 (i+1)],gP x.parents,.grow 1 (rs ++ [fzR x.rows[i]])])⟩ Q):
  EvL mC 0 (.code (.loop zbv):: K0) ⟨323,(h5E m [(6,dI v),(7,.ptr 4 0),(8,dI (i:Int))]),(h4B b0 g nodes b2 es [.cells [dI x.zap,sN 5 1 x.parents.length,sN 6 1 i],gP x.parents,.grow 1 rs])⟩ Q:=by
 subst hiq;have hmb:zac=140737488355328:=rfl;have g8:zaz x.rows (q:Int)=some x.rows[q]:=zdF hi;have c6:decide ((q:Int)<(x.rows.length:Int))=true:=qdB (by omega);have hw:IntKind.i64.wrap ((q:Int)+1)=((q+1:Nat):Int):=by rw[wrap64 (by omega) (by omega)]; omega
 have hqf:(q+1)* 24<=zac:=by omega
 have hr1:=hrf _ (qao hi);refine EvL.zdT ?_
 conv=>enter [3,1,1]; simp only[zbv,zh3]
 refine zad ?_;refine sXM (anM @zaf (anM (zas (n:=3) (e:=zaa) rfl g3) (anM c6 (anM hw (anM hq (anM (zas (n:=1) (e:=(eL (eI .i64))) rfl g8) (anM (srM (x.rows[q])) (anM hr1 hqf)))))))) ?_;refine EvL.ze4 ?_ hn;exact wm0 [.k,.k,.k,.k,.k,.k,.k,.f] ⟨.same (hb0 _),⟨MB.cs ⟨hg _,qdy,qdy⟩,⟨.same (hb2 _),⟨MB.za1 (Mt.zbD (hes _ (by decide))),⟨MB.cs ⟨qdy,rfl,rfl,qdy⟩,⟨MB.gs (eI .i64) true x.parents,⟨MB.za1 (Mt.app (Mt.zbD (hrs _ (by decide))) (.cons (.cons (.fr (ze1 (e:=(eI .i64)) (t:=true) rfl rfl (.inr rfl) rfl rfl (λk h=>nomatch h) (λh=>by cases h<;>rfl))) .nil) .nil)),qdy⟩⟩⟩⟩⟩⟩⟩
variable{P7:List (List D)}
theorem zDS{x:S_api_Node}{es:List (List D)}{q:Nat}(hb0:∀ kp,LB.kin kp b0)(hb2:∀ kp,LB.kin kp b2)(hg:∀ kp,D.kin kp g)(hes:KB 4 es)(hrs:KB 8 rs)(h7:KB 8 P7)(g3:zaz nodes (v:Int)=some x)(hq:rs.length=q)(hlen:x.rows.length * 24<=zac)(hrf:∀ r∈x.rows,r.length * 8<=zac)(hi:i<x.rows.length)(hiq:q=i)(hn:EvL mC 0 (.code (.loop zbv):: K0) ⟨323,(h5E m [(6,dI v),(7,.ptr 4 0),(8,dI ((i+1:Nat):Int))]),(h4B b0 g nodes b2 es [.cells [dI x.zap,sN 5 1 x.parents.length,sN 6 1 (i+1)],gP x.parents,.grow 1 (rs ++ [fzR x.rows[i]]),.grow 1 P7])⟩ Q):
  EvL mC 0 (.code (.loop zbv):: K0) ⟨323,(h5E m [(6,dI v),(7,.ptr 4 0),(8,dI (i:Int))]),(h4B b0 g nodes b2 es [.cells [dI x.zap,sN 5 1 x.parents.length,sN 6 1 i],gP x.parents,.grow 1 rs,.grow 1 P7])⟩ Q:=by
 subst hiq;have hmb:zac=140737488355328:=rfl;have g8:zaz x.rows (q:Int)=some x.rows[q]:=zdF hi;have c6:decide ((q:Int)<(x.rows.length:Int))=true:=qdB (by omega);have hw:IntKind.i64.wrap ((q:Int)+1)=((q+1:Nat):Int):=by rw[wrap64 (by omega) (by omega)]; omega
 have hqf:(q+1)* 24<=zac:=by omega
 have hr1:=hrf _ (qao hi);refine EvL.zdT ?_
 conv=>enter [3,1,1]; simp only[zbv,zh3]
 refine zad ?_;refine sXM (anM @zaf (anM (zas (n:=3) (e:=zaa) rfl g3) (anM c6 (anM hw (anM hq (anM (zas (n:=1) (e:=(eL (eI .i64))) rfl g8) (anM (srM (x.rows[q])) (anM hr1 hqf)))))))) ?_;refine EvL.ze4 ?_ hn;exact wm0 [.k,.k,.k,.k,.k,.k,.k,.k,.f] ⟨.same (hb0 _),⟨MB.cs ⟨hg _,qdy,qdy⟩,⟨.same (hb2 _),⟨MB.za1 (Mt.zbD (hes _ (by decide))),⟨MB.cs ⟨qdy,rfl,rfl,qdy⟩,⟨MB.gs (eI .i64) true x.parents,⟨MB.za1 (Mt.app (Mt.zbD (hrs _ (by decide))) (.cons (.cons (.fr (ze1 (e:=(eI .i64)) (t:=true) rfl rfl (.inr rfl) rfl rfl (λk h=>nomatch h) (λh=>by cases h<;>rfl))) .nil) .nil)),⟨MB.za1 (Mt.zbD (h7 _ (by decide))),qdy⟩⟩⟩⟩⟩⟩⟩⟩
variable{P5 P6:List (List D)}
theorem zEH{x:S_api_Node}{es:List (List D)}{q:Nat}(hb0:∀ kp,LB.kin kp b0)(hb2:∀ kp,LB.kin kp b2)(hg:∀ kp,D.kin kp g)(hes:KB 7 es)(hrs:KB 10 rs)(h5:KB 7 P5)(h6:KB 7 P6)(g3:zaz nodes (v:Int)=some x)(hq:rs.length=q)(hlen:x.rows.length * 24<=zac)(hrf:∀ r∈x.rows,r.length * 8<=zac)(hi:i<x.rows.length)(hiq:q=i)(hn:EvL mC 0 (.code (.loop zbv):: K0) ⟨323,(h5E m [(6,dI v),(7,.ptr 7 0),(8,dI ((i+1:Nat):Int))]),(h4B b0 g nodes b2 es [.gone,.grow 1 P5,.grow 1 P6,.cells [dI x.zap,sN 8 1 x.parents.length,sN 9 1 (i+1)],gP x.parents,.grow 1 (rs ++ [fzR x.rows[i]])])⟩ Q):
  EvL mC 0 (.code (.loop zbv):: K0) ⟨323,(h5E m [(6,dI v),(7,.ptr 7 0),(8,dI (i:Int))]),(h4B b0 g nodes b2 es [.gone,.grow 1 P5,.grow 1 P6,.cells [dI x.zap,sN 8 1 x.parents.length,sN 9 1 i],gP x.parents,.grow 1 rs])⟩ Q:=by
 subst hiq;have hmb:zac=140737488355328:=rfl;have g8:zaz x.rows (q:Int)=some x.rows[q]:=zdF hi;have c6:decide ((q:Int)<(x.rows.length:Int))=true:=qdB (by omega);have hw:IntKind.i64.wrap ((q:Int)+1)=((q+1:Nat):Int):=by rw[wrap64 (by omega) (by omega)]; omega
 have hqf:(q+1)* 24<=zac:=by omega
 have hr1:=hrf _ (qao hi);refine EvL.zdT ?_
 conv=>enter [3,1,1]; simp only[zbv,zh3]
 refine zad ?_;refine sXM (anM @zaf (anM (zas (n:=3) (e:=zaa) rfl g3) (anM c6 (anM hw (anM hq (anM (zas (n:=1) (e:=(eL (eI .i64))) rfl g8) (anM (srM (x.rows[q])) (anM hr1 hqf)))))))) ?_;refine EvL.ze4 ?_ hn;exact wm0 [.k,.k,.k,.k,.k,.k,.k,.k,.k,.k,.f] ⟨.same (hb0 _),⟨MB.cs ⟨hg _,qdy,qdy⟩,⟨.same (hb2 _),⟨MB.za1 (Mt.zbD (hes _ (by decide))),⟨MB.same trivial,⟨MB.za1 (Mt.zbD (h5 _ (by decide))),⟨MB.za1 (Mt.zbD (h6 _ (by decide))),⟨MB.cs ⟨qdy,rfl,rfl,qdy⟩,⟨MB.gs (eI .i64) true x.parents,⟨MB.za1 (Mt.app (Mt.zbD (hrs _ (by decide))) (.cons (.cons (.fr (ze1 (e:=(eI .i64)) (t:=true) rfl rfl (.inr rfl) rfl rfl (λk h=>nomatch h) (λh=>by cases h<;>rfl))) .nil) .nil)),qdy⟩⟩⟩⟩⟩⟩⟩⟩⟩⟩
theorem zEU{x:S_api_Node}{es:List (List D)}{q:Nat}(hb0:∀ kp,LB.kin kp b0)(hb2:∀ kp,LB.kin kp b2)(hg:∀ kp,D.kin kp g)(hes:KB 8 es)(hrs:KB 11 rs)(h5:KB 8 P5)(h6:KB 8 P6)(h7:KB 8 P7)(g3:zaz nodes (v:Int)=some x)(hq:rs.length=q)(hlen:x.rows.length * 24<=zac)(hrf:∀ r∈x.rows,r.length * 8<=zac)(hi:i<x.rows.length)(hiq:q=i)(hn:EvL mC 0 (.code (.loop zbv):: K0) ⟨323,(h5E m [(6,dI v),(7,.ptr 8 0),(8,dI ((i+1:Nat):Int))]),(h4B b0 g nodes b2 es [.gone,.grow 1 P5,.grow 1 P6,.grow 1 P7,.cells [dI x.zap,sN 9 1 x.parents.length,sN 10 1 (i+1)],gP x.parents,.grow 1 (rs ++ [fzR x.rows[i]])])⟩ Q):
  EvL mC 0 (.code (.loop zbv):: K0) ⟨323,(h5E m [(6,dI v),(7,.ptr 8 0),(8,dI (i:Int))]),(h4B b0 g nodes b2 es [.gone,.grow 1 P5,.grow 1 P6,.grow 1 P7,.cells [dI x.zap,sN 9 1 x.parents.length,sN 10 1 i],gP x.parents,.grow 1 rs])⟩ Q:=by
 subst hiq;have hmb:zac=140737488355328:=rfl;have g8:zaz x.rows (q:Int)=some x.rows[q]:=zdF hi;have c6:decide ((q:Int)<(x.rows.length:Int))=true:=qdB (by omega);have hw:IntKind.i64.wrap ((q:Int)+1)=((q+1:Nat):Int):=by rw[wrap64 (by omega) (by omega)]; omega
 have hqf:(q+1)* 24<=zac:=by omega
 have hr1:=hrf _ (qao hi);refine EvL.zdT ?_
 conv=>enter [3,1,1]; simp only[zbv,zh3]
 refine zad ?_;refine sXM (anM @zaf (anM (zas (n:=3) (e:=zaa) rfl g3) (anM c6 (anM hw (anM hq (anM (zas (n:=1) (e:=(eL (eI .i64))) rfl g8) (anM (srM (x.rows[q])) (anM hr1 hqf)))))))) ?_;refine EvL.ze4 ?_ hn;exact wm0 [.k,.k,.k,.k,.k,.k,.k,.k,.k,.k,.k,.f] ⟨.same (hb0 _),⟨MB.cs ⟨hg _,qdy,qdy⟩,⟨.same (hb2 _),⟨MB.za1 (Mt.zbD (hes _ (by decide))),⟨MB.same trivial,⟨MB.za1 (Mt.zbD (h5 _ (by decide))),⟨MB.za1 (Mt.zbD (h6 _ (by decide))),⟨MB.za1 (Mt.zbD (h7 _ (by decide))),⟨MB.cs ⟨qdy,rfl,rfl,qdy⟩,⟨MB.gs (eI .i64) true x.parents,⟨MB.za1 (Mt.app (Mt.zbD (hrs _ (by decide))) (.cons (.cons (.fr (ze1 (e:=(eI .i64)) (t:=true) rfl rfl (.inr rfl) rfl rfl (λk h=>nomatch h) (λh=>by cases h<;>rfl))) .nil) .nil)),qdy⟩⟩⟩⟩⟩⟩⟩⟩⟩⟩⟩
theorem zDv{x:S_api_Node}{es:List (List D)}{q:Nat}(hb0:∀ kp,LB.kin kp b0)(hb2:∀ kp,LB.kin kp b2)(hg:∀ kp,D.kin kp g)(hes:KB 4 es)(hrs:KB 7 rs)(g3:zaz nodes (v:Int)=some x)(hq:rs.length=q)(hlen:x.rows.length * 24<=zac)(hrf:∀ r∈x.rows,r.length * 8<=zac)(hi:i<x.rows.length)(hiq:q=i)(hn:EvL mC 0 (.code (.loop zbv):: K0) ⟨323,(h5E m [(6,dI v),(7,.ptr 4 0),(8,dI ((i+1:Nat):Int))]),(h4B b0 g nodes b2 es [.cells [dI x.zap,sN 5 1 x.parents.length,sN 6 1 (i+1)],gP x.parents,.grow 1 (rs ++ [[sN 7 1 x.rows[i].length]]),.grow 1 (x.rows[i].map ((eI .i64).c true))])⟩ Q):
  EvL mC 0 (.code (.loop zbv):: K0) ⟨323,(h5E m [(6,dI v),(7,.ptr 4 0),(8,dI (i:Int))]),(h4B b0 g nodes b2 es [.cells [dI x.zap,sN 5 1 x.parents.length,sN 6 1 i],gP x.parents,.grow 1 rs])⟩ Q:=by
 subst hiq;have hmb:zac=140737488355328:=rfl;have g8:zaz x.rows (q:Int)=some x.rows[q]:=zdF hi;have c6:decide ((q:Int)<(x.rows.length:Int))=true:=qdB (by omega);have hw:IntKind.i64.wrap ((q:Int)+1)=((q+1:Nat):Int):=by rw[wrap64 (by omega) (by omega)]; omega
 have hqf:(q+1)* 24<=zac:=by omega
 have hr1:=hrf _ (qao hi);refine EvL.zdT ?_
 conv=>enter [3,1,1]; simp only[zbv,zh3]
 refine zad ?_;refine sXM (anM @zaf (anM (zas (n:=3) (e:=zaa) rfl g3) (anM c6 (anM hw (anM hq (anM (zas (n:=1) (e:=(eL (eI .i64))) rfl g8) (anM (srM (x.rows[q])) (anM hr1 hqf)))))))) ?_;refine EvL.ze4 ?_ hn;exact wm0 [.k,.k,.k,.k,.k,.k,.k,.k] ⟨.same (hb0 _),⟨MB.cs ⟨hg _,qdy,qdy⟩,⟨.same (hb2 _),⟨MB.za1 (Mt.zbD (hes _ (by decide))),⟨MB.cs ⟨qdy,rfl,rfl,qdy⟩,⟨MB.gs (eI .i64) true x.parents,⟨MB.za1 (Mt.zbD ((KB.app (KB.le hrs (Nat.le_succ _)) (KB.one (c:=[sN 7 1 x.rows[q].length]) λkp hk=>⟨hk 7 (by decide),qdy⟩)) _ (by decide))),⟨MB.gs (eI .i64) true x.rows[q],qdy⟩⟩⟩⟩⟩⟩⟩⟩
theorem zzB{K0:List K}{Q:LX->LSt->Prop}{b0 b2:LB}{g:D}{nodes:List S_api_Node}{x:S_api_Node}{v:Nat}{es:List (List D)}{m j:Nat}(hb0:∀ kp,LB.kin kp b0)(hb2:∀ kp,LB.kin kp b2)(hg:∀ kp,D.kin kp g)(hes:KB 4 es)(g3:zaz nodes (v:Int)=some x)(hlen:x.rows.length * 24<=zac)(hrf:∀ r∈x.rows,r.length * 8<=zac)(hj:j<=x.rows.length):∀(d i:Nat) (rs:List (List D)),j - i=d->i<=j->rs.length=i->KB 7 rs ->
  EvL mC 0 (.code (.loop zbv):: K0) ⟨323,(h5E m [(6,dI v),(7,.ptr 4 0),(8,dI (j:Int))]),(h4B b0 g nodes b2 es [.cells [dI x.zap,sN 5 1 x.parents.length,sN 6 1 j],gP x.parents,.grow 1 (rs ++ ((x.rows.drop i).take (j - i)).map fzR)])⟩ Q ->
  EvL mC 0 (.code (.loop zbv):: K0) ⟨323,(h5E m [(6,dI v),(7,.ptr 4 0),(8,dI (i:Int))]),(h4B b0 g nodes b2 es [.cells [dI x.zap,sN 5 1 x.parents.length,sN 6 1 i],gP x.parents,.grow 1 rs])⟩ Q
 | 0,i,rs,hd,hij,hl,hk,hn=>by
  have:i=j:=by omega
  subst this;rw[qcb,qbt,qb9,qaQ]at hn;exact hn
 | d+1,i,rs,hd,hij,hl,hk,hn=>by
  refine zFD hb0 hb2 hg hes hk g3 hl hlen hrf (show i<x.rows.length by omega) rfl ?_;refine zzB hb0 hb2 hg hes g3 hlen hrf hj d (i+1) _ (by omega) (by omega) (by simp[hl]) (KB.app hk (KB.one λkp _=>⟨qdy,qdy⟩)) ?_;have e:((x.rows.drop i).take (j - i)).map fzR=[fzR (x.rows[i]'(by omega))]++ ((x.rows.drop (i+1)).take (j - (i+1))).map fzR:=by
   rw[qas (show i<x.rows.length by omega),show j - i=(j - (i+1))+1 by omega,qbr];rfl
  rw[e,<- qa5]at hn;exact hn
theorem zCd{x:S_api_Node}{es:List (List D)}(hb0:∀ kp,LB.kin kp b0)(hb2:∀ kp,LB.kin kp b2)(hg:∀ kp,D.kin kp g)(hes:KB 4 es)(hrs:KB 7 rs)(g3:zaz nodes (v:Int)=some x)(hlen:x.rows.length * 24<=zac)(hrf:∀ r∈x.rows,r.length * 8<=zac)(hi:i=x.rows.length):
  EvL mC 0 (.code (.loop zbv):: .blk 2 :: .inv (Jn 0 (λ_:Unit=>⟨323,(h5E m [(6,dI v),(7,.ptr 4 0)]),(h4B b0 g nodes b2 es [.cells [dI x.zap,sN 5 1 x.parents.length,sN 6 1 i],gP x.parents,.grow 1 rs])⟩) (λ_=>True)):: K0) ⟨323,(h5E m [(6,dI v),(7,.ptr 4 0),(8,dI (i:Int))]),(h4B b0 g nodes b2 es [.cells [dI x.zap,sN 5 1 x.parents.length,sN 6 1 i],gP x.parents,.grow 1 rs])⟩ Q:=by
 have c6:decide ((i:Int)<(x.rows.length:Int))=false:=qdC (by omega);refine EvL.zdT ?_
 conv=>enter [3,1,1]; simp only[zbv,zh3]
 refine zad ?_;refine sXM (anM @zaf (anM (zas (n:=3) (e:=zaa) rfl g3) c6)) ?_;exact⟨(),qdy,wm0 [.k,.k,.k,.k,.k,.k,.k] ⟨.same (hb0 _),⟨MB.cs ⟨hg _,qdy,qdy⟩,⟨.same (hb2 _),⟨MB.za1 (Mt.zbD (hes _ (by decide))),⟨MB.cs ⟨qdy,rfl,rfl,qdy⟩,⟨MB.gs (eI .i64) true x.parents,⟨MB.za1 (Mt.zbD (hrs _ (by decide))),qdy⟩⟩⟩⟩⟩⟩⟩⟩
theorem zxu{K0:List K}{Q:LX->LSt->Prop}{b0 b2:LB}{g:D}{nodes:List S_api_Node}{x:S_api_Node}{v:Nat}{P7:List (List D)}{es:List (List D)}{m j:Nat}(hb0:∀ kp,LB.kin kp b0)(hb2:∀ kp,LB.kin kp b2)(hg:∀ kp,D.kin kp g)(hes:KB 4 es)(h7:KB 8 P7)(g3:zaz nodes (v:Int)=some x)(hlen:x.rows.length * 24<=zac)(hrf:∀ r∈x.rows,r.length * 8<=zac)(hj:j<=x.rows.length):∀(d i:Nat) (rs:List (List D)),j - i=d->i<=j->rs.length=i->KB 8 rs ->
  EvL mC 0 (.code (.loop zbv):: K0) ⟨323,(h5E m [(6,dI v),(7,.ptr 4 0),(8,dI (j:Int))]),(h4B b0 g nodes b2 es [.cells [dI x.zap,sN 5 1 x.parents.length,sN 6 1 j],gP x.parents,.grow 1 (rs ++ ((x.rows.drop i).take (j - i)).map fzR),.grow 1 P7])⟩ Q ->
  EvL mC 0 (.code (.loop zbv):: K0) ⟨323,(h5E m [(6,dI v),(7,.ptr 4 0),(8,dI (i:Int))]),(h4B b0 g nodes b2 es [.cells [dI x.zap,sN 5 1 x.parents.length,sN 6 1 i],gP x.parents,.grow 1 rs,.grow 1 P7])⟩ Q
 | 0,i,rs,hd,hij,hl,hk,hn=>by
  have:i=j:=by omega
  subst this;rw[qcb,qbt,qb9,qaQ]at hn;exact hn
 | d+1,i,rs,hd,hij,hl,hk,hn=>by
  refine zDS hb0 hb2 hg hes hk h7 g3 hl hlen hrf (show i<x.rows.length by omega) rfl ?_;refine zxu hb0 hb2 hg hes h7 g3 hlen hrf hj d (i+1) _ (by omega) (by omega) (by simp[hl]) (KB.app hk (KB.one λkp _=>⟨qdy,qdy⟩)) ?_;have e:((x.rows.drop i).take (j - i)).map fzR=[fzR (x.rows[i]'(by omega))]++ ((x.rows.drop (i+1)).take (j - (i+1))).map fzR:=by
   rw[qas (show i<x.rows.length by omega),show j - i=(j - (i+1))+1 by omega,qbr];rfl
  rw[e,<- qa5]at hn;exact hn
theorem zBL{x:S_api_Node}{es:List (List D)}(hb0:∀ kp,LB.kin kp b0)(hb2:∀ kp,LB.kin kp b2)(hg:∀ kp,D.kin kp g)(hes:KB 4 es)(hrs:KB 8 rs)(h7:KB 8 P7)(g3:zaz nodes (v:Int)=some x)(hlen:x.rows.length * 24<=zac)(hrf:∀ r∈x.rows,r.length * 8<=zac)(hi:i=x.rows.length):
  EvL mC 0 (.code (.loop zbv):: .blk 2 :: .inv (Jn 0 (λ_:Unit=>⟨323,(h5E m [(6,dI v),(7,.ptr 4 0)]),(h4B b0 g nodes b2 es [.cells [dI x.zap,sN 5 1 x.parents.length,sN 6 1 i],gP x.parents,.grow 1 rs,.grow 1 P7])⟩) (λ_=>True)):: K0) ⟨323,(h5E m [(6,dI v),(7,.ptr 4 0),(8,dI (i:Int))]),(h4B b0 g nodes b2 es [.cells [dI x.zap,sN 5 1 x.parents.length,sN 6 1 i],gP x.parents,.grow 1 rs,.grow 1 P7])⟩ Q:=by
 have c6:decide ((i:Int)<(x.rows.length:Int))=false:=qdC (by omega);refine EvL.zdT ?_
 conv=>enter [3,1,1]; simp only[zbv,zh3]
 refine zad ?_;refine sXM (anM @zaf (anM (zas (n:=3) (e:=zaa) rfl g3) c6)) ?_;exact⟨(),qdy,wm0 [.k,.k,.k,.k,.k,.k,.k,.k] ⟨.same (hb0 _),⟨MB.cs ⟨hg _,qdy,qdy⟩,⟨.same (hb2 _),⟨MB.za1 (Mt.zbD (hes _ (by decide))),⟨MB.cs ⟨qdy,rfl,rfl,qdy⟩,⟨MB.gs (eI .i64) true x.parents,⟨MB.za1 (Mt.zbD (hrs _ (by decide))),⟨MB.za1 (Mt.zbD (h7 _ (by decide))),qdy⟩⟩⟩⟩⟩⟩⟩⟩⟩
theorem zBs{K0:List K}{Q:LX->LSt->Prop}{b0 b2:LB}{g:D}{nodes:List S_api_Node}{x:S_api_Node}{v:Nat}{P5 P6:List (List D)}{es:List (List D)}{m j:Nat}(hb0:∀ kp,LB.kin kp b0)(hb2:∀ kp,LB.kin kp b2)(hg:∀ kp,D.kin kp g)(hes:KB 7 es)(h5:KB 7 P5)(h6:KB 7 P6)(g3:zaz nodes (v:Int)=some x)(hlen:x.rows.length * 24<=zac)(hrf:∀ r∈x.rows,r.length * 8<=zac)(hj:j<=x.rows.length):∀(d i:Nat) (rs:List (List D)),j - i=d->i<=j->rs.length=i->KB 10 rs ->
  EvL mC 0 (.code (.loop zbv):: K0) ⟨323,(h5E m [(6,dI v),(7,.ptr 7 0),(8,dI (j:Int))]),(h4B b0 g nodes b2 es [.gone,.grow 1 P5,.grow 1 P6,.cells [dI x.zap,sN 8 1 x.parents.length,sN 9 1 j],gP x.parents,.grow 1 (rs ++ ((x.rows.drop i).take (j - i)).map fzR)])⟩ Q ->
  EvL mC 0 (.code (.loop zbv):: K0) ⟨323,(h5E m [(6,dI v),(7,.ptr 7 0),(8,dI (i:Int))]),(h4B b0 g nodes b2 es [.gone,.grow 1 P5,.grow 1 P6,.cells [dI x.zap,sN 8 1 x.parents.length,sN 9 1 i],gP x.parents,.grow 1 rs])⟩ Q
 | 0,i,rs,hd,hij,hl,hk,hn=>by
  have:i=j:=by omega
  subst this;rw[qcb,qbt,qb9,qaQ]at hn;exact hn
 | d+1,i,rs,hd,hij,hl,hk,hn=>by
  refine zEH hb0 hb2 hg hes hk h5 h6 g3 hl hlen hrf (show i<x.rows.length by omega) rfl ?_;refine zBs hb0 hb2 hg hes h5 h6 g3 hlen hrf hj d (i+1) _ (by omega) (by omega) (by simp[hl]) (KB.app hk (KB.one λkp _=>⟨qdy,qdy⟩)) ?_;have e:((x.rows.drop i).take (j - i)).map fzR=[fzR (x.rows[i]'(by omega))]++ ((x.rows.drop (i+1)).take (j - (i+1))).map fzR:=by
   rw[qas (show i<x.rows.length by omega),show j - i=(j - (i+1))+1 by omega,qbr];rfl
  rw[e,<- qa5]at hn;exact hn
theorem zD0{x:S_api_Node}{es:List (List D)}(hb0:∀ kp,LB.kin kp b0)(hb2:∀ kp,LB.kin kp b2)(hg:∀ kp,D.kin kp g)(hes:KB 7 es)(hrs:KB 10 rs)(h5:KB 7 P5)(h6:KB 7 P6)(g3:zaz nodes (v:Int)=some x)(hlen:x.rows.length * 24<=zac)(hrf:∀ r∈x.rows,r.length * 8<=zac)(hi:i=x.rows.length):
  EvL mC 0 (.code (.loop zbv):: .blk 2 :: .inv (Jn 0 (λ_:Unit=>⟨323,(h5E m [(6,dI v),(7,.ptr 7 0)]),(h4B b0 g nodes b2 es [.gone,.grow 1 P5,.grow 1 P6,.cells [dI x.zap,sN 8 1 x.parents.length,sN 9 1 i],gP x.parents,.grow 1 rs])⟩) (λ_=>True)):: K0) ⟨323,(h5E m [(6,dI v),(7,.ptr 7 0),(8,dI (i:Int))]),(h4B b0 g nodes b2 es [.gone,.grow 1 P5,.grow 1 P6,.cells [dI x.zap,sN 8 1 x.parents.length,sN 9 1 i],gP x.parents,.grow 1 rs])⟩ Q:=by
 have c6:decide ((i:Int)<(x.rows.length:Int))=false:=qdC (by omega);refine EvL.zdT ?_
 conv=>enter [3,1,1]; simp only[zbv,zh3]
 refine zad ?_;refine sXM (anM @zaf (anM (zas (n:=3) (e:=zaa) rfl g3) c6)) ?_;exact⟨(),qdy,wm0 [.k,.k,.k,.k,.k,.k,.k,.k,.k,.k] ⟨.same (hb0 _),⟨MB.cs ⟨hg _,qdy,qdy⟩,⟨.same (hb2 _),⟨MB.za1 (Mt.zbD (hes _ (by decide))),⟨MB.same trivial,⟨MB.za1 (Mt.zbD (h5 _ (by decide))),⟨MB.za1 (Mt.zbD (h6 _ (by decide))),⟨MB.cs ⟨qdy,rfl,rfl,qdy⟩,⟨MB.gs (eI .i64) true x.parents,⟨MB.za1 (Mt.zbD (hrs _ (by decide))),qdy⟩⟩⟩⟩⟩⟩⟩⟩⟩⟩⟩
theorem zAT{K0:List K}{Q:LX->LSt->Prop}{b0 b2:LB}{g:D}{nodes:List S_api_Node}{x:S_api_Node}{v:Nat}{P5 P6 P7:List (List D)}{es:List (List D)}{m j:Nat}(hb0:∀ kp,LB.kin kp b0)(hb2:∀ kp,LB.kin kp b2)(hg:∀ kp,D.kin kp g)(hes:KB 8 es)(h5:KB 8 P5)(h6:KB 8 P6)(h7:KB 8 P7)(g3:zaz nodes (v:Int)=some x)(hlen:x.rows.length * 24<=zac)(hrf:∀ r∈x.rows,r.length * 8<=zac)(hj:j<=x.rows.length):∀(d i:Nat) (rs:List (List D)),j - i=d->i<=j->rs.length=i->KB 11 rs ->
  EvL mC 0 (.code (.loop zbv):: K0) ⟨323,(h5E m [(6,dI v),(7,.ptr 8 0),(8,dI (j:Int))]),(h4B b0 g nodes b2 es [.gone,.grow 1 P5,.grow 1 P6,.grow 1 P7,.cells [dI x.zap,sN 9 1 x.parents.length,sN 10 1 j],gP x.parents,.grow 1 (rs ++ ((x.rows.drop i).take (j - i)).map fzR)])⟩ Q ->
  EvL mC 0 (.code (.loop zbv):: K0) ⟨323,(h5E m [(6,dI v),(7,.ptr 8 0),(8,dI (i:Int))]),(h4B b0 g nodes b2 es [.gone,.grow 1 P5,.grow 1 P6,.grow 1 P7,.cells [dI x.zap,sN 9 1 x.parents.length,sN 10 1 i],gP x.parents,.grow 1 rs])⟩ Q
 | 0,i,rs,hd,hij,hl,hk,hn=>by
  have:i=j:=by omega
  subst this;rw[qcb,qbt,qb9,qaQ]at hn;exact hn
 | d+1,i,rs,hd,hij,hl,hk,hn=>by
  refine zEU hb0 hb2 hg hes hk h5 h6 h7 g3 hl hlen hrf (show i<x.rows.length by omega) rfl ?_;refine zAT hb0 hb2 hg hes h5 h6 h7 g3 hlen hrf hj d (i+1) _ (by omega) (by omega) (by simp[hl]) (KB.app hk (KB.one λkp _=>⟨qdy,qdy⟩)) ?_;have e:((x.rows.drop i).take (j - i)).map fzR=[fzR (x.rows[i]'(by omega))]++ ((x.rows.drop (i+1)).take (j - (i+1))).map fzR:=by
   rw[qas (show i<x.rows.length by omega),show j - i=(j - (i+1))+1 by omega,qbr];rfl
  rw[e,<- qa5]at hn;exact hn
theorem zDd{x:S_api_Node}{es:List (List D)}(hb0:∀ kp,LB.kin kp b0)(hb2:∀ kp,LB.kin kp b2)(hg:∀ kp,D.kin kp g)(hes:KB 8 es)(hrs:KB 11 rs)(h5:KB 8 P5)(h6:KB 8 P6)(h7:KB 8 P7)(g3:zaz nodes (v:Int)=some x)(hlen:x.rows.length * 24<=zac)(hrf:∀ r∈x.rows,r.length * 8<=zac)(hi:i=x.rows.length):
  EvL mC 0 (.code (.loop zbv):: .blk 2 :: .inv (Jn 0 (λ_:Unit=>⟨323,(h5E m [(6,dI v),(7,.ptr 8 0)]),(h4B b0 g nodes b2 es [.gone,.grow 1 P5,.grow 1 P6,.grow 1 P7,.cells [dI x.zap,sN 9 1 x.parents.length,sN 10 1 i],gP x.parents,.grow 1 rs])⟩) (λ_=>True)):: K0) ⟨323,(h5E m [(6,dI v),(7,.ptr 8 0),(8,dI (i:Int))]),(h4B b0 g nodes b2 es [.gone,.grow 1 P5,.grow 1 P6,.grow 1 P7,.cells [dI x.zap,sN 9 1 x.parents.length,sN 10 1 i],gP x.parents,.grow 1 rs])⟩ Q:=by
 have c6:decide ((i:Int)<(x.rows.length:Int))=false:=qdC (by omega);refine EvL.zdT ?_
 conv=>enter [3,1,1]; simp only[zbv,zh3]
 refine zad ?_;refine sXM (anM @zaf (anM (zas (n:=3) (e:=zaa) rfl g3) c6)) ?_;exact⟨(),qdy,wm0 [.k,.k,.k,.k,.k,.k,.k,.k,.k,.k,.k] ⟨.same (hb0 _),⟨MB.cs ⟨hg _,qdy,qdy⟩,⟨.same (hb2 _),⟨MB.za1 (Mt.zbD (hes _ (by decide))),⟨MB.same trivial,⟨MB.za1 (Mt.zbD (h5 _ (by decide))),⟨MB.za1 (Mt.zbD (h6 _ (by decide))),⟨MB.za1 (Mt.zbD (h7 _ (by decide))),⟨MB.cs ⟨qdy,rfl,rfl,qdy⟩,⟨MB.gs (eI .i64) true x.parents,⟨MB.za1 (Mt.zbD (hrs _ (by decide))),qdy⟩⟩⟩⟩⟩⟩⟩⟩⟩⟩⟩⟩
theorem kfz{kp:Nat->Bool}{rs:List (List Int)}:∀ cs∈rs.map fzR,D.zbD kp cs:=zk7 (eL (eI .i64)) kp true rs
theorem KB.fz{n:Nat}{rs:List (List Int)}:KB n (rs.map fzR):=λkp _=>kfz
theorem KB.nil:KB n []:=λ_ _ _ h=>nomatch h
structure FitN (x:S_api_Node):Prop where
 ps:(x.parents.length+1)* 8<=zac
 rs:(x.rows.length+1)* 24<=zac
 row:∀ r∈x.rows,(r.length+1)* 8<=zac
theorem FitN.p1{x:S_api_Node}(h:FitN x):x.parents.length * 8<=zac:=by have:=h.ps; omega
theorem FitN.r1{x:S_api_Node}(h:FitN x):x.rows.length * 24<=zac:=by have:=h.rs; omega
theorem FitN.w1{x:S_api_Node}(h:FitN x):∀ r∈x.rows,r.length * 8<=zac:=λr hr=>by have:=h.row r hr; omega
theorem zDf{x:S_api_Node}{es:List (List D)}(hb0:∀ kp,LB.kin kp b0)(hb2:∀ kp,LB.kin kp b2)(hg:∀ kp,D.kin kp g)(hes:KB 4 es)(g3:zaz nodes (v:Int)=some x)(hm:es.length=v)(hv:v<nodes.length)(hn56:(nodes.length+1)* 56<=zac)(hf:FitN x)(hn:EvL mC 0 (.code (.loop zbb):: K0) ⟨323,(h5E (v+1) [(6,dI (((v+1):Nat):Int))]),(h4B b0 g nodes b2 (es ++ [zaa.c true x]) [])⟩ Q):
  EvL mC 0 (.code (.loop zbb):: K0) ⟨323,(h5E v [(6,dI ((v:Nat):Int))]),(h4B b0 g nodes b2 es [])⟩ Q:=by
 have hmb:zac=140737488355328:=rfl;have c1:decide ((v:Int)<(nodes.length:Int))=true:=qdB (by omega);have hw:IntKind.i64.wrap ((v:Int)+1)=((v+1:Nat):Int):=by rw[wrap64 (by omega) (by omega)]; omega
 have hmf:(v+1)* 56<=zac:=by omega
 have hpf:=hf.p1;refine EvL.zdT ?_
 conv=>enter [3,1,1]; simp only[zbb,zh3]
 refine zad ?_;refine sXM (anM @zaf (anM (zas (n:=3) (e:=zaa) rfl g3) (anM c1 (anM hpf (srM x.parents))))) ?_;refine EvL.jn (α:=Unit) (λ_=>⟨323,(h5E v [(6,dI v),(7,.ptr 4 0)]),(h4B b0 g nodes b2 es [.cells [dI x.zap,sN 5 1 x.parents.length,sN 6 1 x.rows.length],gP x.parents,.grow 1 (x.rows.map fzR)])⟩) (λ_=>True) ?_ (λ_ _=>?_)
 .refine wSM ?_;refine EvL.ze4 (zbH.znO (n:=1) (β:=4) (o:=2) (by decide) rfl rfl) ?_;refine EvL.ze4 (S':=⟨323,(h5E v [(6,dI v),(7,.ptr 4 0),(8,dI ((0:Nat):Int))]),(h4B b0 g nodes b2 es [.cells [dI x.zap,sN 5 1 x.parents.length,sN 6 1 0],gP x.parents,.grow 1 []])⟩) (wm0 [.k,.k,.k,.k,.k,.k,.k] ⟨.same (hb0 _),⟨MB.cs ⟨hg _,qdy,qdy⟩,⟨.same (hb2 _),⟨MB.za1 (Mt.zbD (hes _ (by decide))),⟨MB.cs ⟨qdy,rfl,rfl,qdy⟩,⟨MB.gs (eI .i64) true x.parents,⟨MB.gs (eL (eI .i64)) true [],qdy⟩⟩⟩⟩⟩⟩⟩) ?_;refine zzB hb0 hb2 hg hes g3 hf.r1 hf.w1 (qap _) _ 0 [] rfl (qau _) rfl KB.nil ?_;rw[show([]:List (List D))++ ((x.rows.drop 0).take (x.rows.length - 0)).map fzR=x.rows.map fzR by simp];exact zCd hb0 hb2 hg hes KB.fz g3 hf.r1 hf.w1 rfl
 refine zad ?_;refine sXM (anM hm (anM hmf hw)) ?_;refine EvL.ze4 ?_ hn;exact wm0 [.k,.k,.k,.k,.d,.f,.f] ⟨.same (hb0 _),⟨MB.cs ⟨hg _,qdy,qdy⟩,⟨.same (hb2 _),⟨MB.za1 (Mt.app (Mt.zbD (hes _ (by decide))) (.cons (.cons (.same trivial) (.cons (.fr (ze1 (e:=(eI .i64)) (t:=true) rfl rfl (.inr rfl) rfl rfl (λk h=>nomatch h) (λh=>by cases h<;>rfl))) (.cons (.fr (ze1 (e:=(eL (eI .i64))) (t:=true) (xs:=x.rows) rfl rfl (.inr rfl) rfl rfl (λk h=>nomatch h) (λh=>by cases h<;>rfl))) .nil))) .nil)),qdy⟩⟩⟩⟩
theorem zD3{x:S_api_Node}{es:List (List D)}(hb0:∀ kp,LB.kin kp b0)(hb2:∀ kp,LB.kin kp b2)(hg:∀ kp,D.kin kp g)(hes:KB 7 es)(h5:KB 7 P5)(h6:KB 7 P6)(g3:zaz nodes (v:Int)=some x)(hm:es.length=v)(hv:v<nodes.length)(hn56:(nodes.length+1)* 56<=zac)(hf:FitN x)(hn:EvL mC 0 (.code (.loop zbb):: K0) ⟨323,(h5E (v+1) [(6,dI (((v+1):Nat):Int))]),(h4B b0 g nodes b2 (es ++ [zaa.c true x]) [.gone,.grow 1 P5,.grow 1 P6])⟩ Q):
  EvL mC 0 (.code (.loop zbb):: K0) ⟨323,(h5E v [(6,dI ((v:Nat):Int))]),(h4B b0 g nodes b2 es [.gone,.grow 1 P5,.grow 1 P6])⟩ Q:=by
 have hmb:zac=140737488355328:=rfl;have c1:decide ((v:Int)<(nodes.length:Int))=true:=qdB (by omega);have hw:IntKind.i64.wrap ((v:Int)+1)=((v+1:Nat):Int):=by rw[wrap64 (by omega) (by omega)]; omega
 have hmf:(v+1)* 56<=zac:=by omega
 have hpf:=hf.p1;refine EvL.zdT ?_
 conv=>enter [3,1,1]; simp only[zbb,zh3]
 refine zad ?_;refine sXM (anM @zaf (anM (zas (n:=3) (e:=zaa) rfl g3) (anM c1 (anM hpf (srM x.parents))))) ?_;refine EvL.jn (α:=Unit) (λ_=>⟨323,(h5E v [(6,dI v),(7,.ptr 7 0)]),(h4B b0 g nodes b2 es [.gone,.grow 1 P5,.grow 1 P6,.cells [dI x.zap,sN 8 1 x.parents.length,sN 9 1 x.rows.length],gP x.parents,.grow 1 (x.rows.map fzR)])⟩) (λ_=>True) ?_ (λ_ _=>?_)
 .refine wSM ?_;refine EvL.ze4 (zbH.znO (n:=1) (β:=7) (o:=2) (by decide) rfl rfl) ?_;refine EvL.ze4 (S':=⟨323,(h5E v [(6,dI v),(7,.ptr 7 0),(8,dI ((0:Nat):Int))]),(h4B b0 g nodes b2 es [.gone,.grow 1 P5,.grow 1 P6,.cells [dI x.zap,sN 8 1 x.parents.length,sN 9 1 0],gP x.parents,.grow 1 []])⟩) (wm0 [.k,.k,.k,.k,.k,.k,.k,.k,.k,.k] ⟨.same (hb0 _),⟨MB.cs ⟨hg _,qdy,qdy⟩,⟨.same (hb2 _),⟨MB.za1 (Mt.zbD (hes _ (by decide))),⟨MB.same trivial,⟨MB.za1 (Mt.zbD (h5 _ (by decide))),⟨MB.za1 (Mt.zbD (h6 _ (by decide))),⟨MB.cs ⟨qdy,rfl,rfl,qdy⟩,⟨MB.gs (eI .i64) true x.parents,⟨MB.gs (eL (eI .i64)) true [],qdy⟩⟩⟩⟩⟩⟩⟩⟩⟩⟩) ?_;refine zBs hb0 hb2 hg hes h5 h6 g3 hf.r1 hf.w1 (qap _) _ 0 [] rfl (qau _) rfl KB.nil ?_;rw[show([]:List (List D))++ ((x.rows.drop 0).take (x.rows.length - 0)).map fzR=x.rows.map fzR by simp];exact zD0 hb0 hb2 hg hes KB.fz h5 h6 g3 hf.r1 hf.w1 rfl
 refine zad ?_;refine sXM (anM hm (anM hmf hw)) ?_;refine EvL.ze4 ?_ hn;exact wm0 [.k,.k,.k,.k,.k,.k,.k,.d,.f,.f] ⟨.same (hb0 _),⟨MB.cs ⟨hg _,qdy,qdy⟩,⟨.same (hb2 _),⟨MB.za1 (Mt.app (Mt.zbD (hes _ (by decide))) (.cons (.cons (.same trivial) (.cons (.fr (ze1 (e:=(eI .i64)) (t:=true) rfl rfl (.inr rfl) rfl rfl (λk h=>nomatch h) (λh=>by cases h<;>rfl))) (.cons (.fr (ze1 (e:=(eL (eI .i64))) (t:=true) (xs:=x.rows) rfl rfl (.inr rfl) rfl rfl (λk h=>nomatch h) (λh=>by cases h<;>rfl))) .nil))) .nil)),⟨MB.same trivial,⟨MB.za1 (Mt.zbD (h5 _ (by decide))),⟨MB.za1 (Mt.zbD (h6 _ (by decide))),qdy⟩⟩⟩⟩⟩⟩⟩
theorem zDX{x:S_api_Node}{es:List (List D)}(hb0:∀ kp,LB.kin kp b0)(hb2:∀ kp,LB.kin kp b2)(hg:∀ kp,D.kin kp g)(hes:KB 8 es)(h5:KB 8 P5)(h6:KB 8 P6)(h7:KB 8 P7)(g3:zaz nodes (v:Int)=some x)(hm:es.length=v)(hv:v<nodes.length)(hn56:(nodes.length+1)* 56<=zac)(hf:FitN x)(hn:EvL mC 0 (.code (.loop zbb):: K0) ⟨323,(h5E (v+1) [(6,dI (((v+1):Nat):Int))]),(h4B b0 g nodes b2 (es ++ [zaa.c true x]) [.gone,.grow 1 P5,.grow 1 P6,.grow 1 P7])⟩ Q):
  EvL mC 0 (.code (.loop zbb):: K0) ⟨323,(h5E v [(6,dI ((v:Nat):Int))]),(h4B b0 g nodes b2 es [.gone,.grow 1 P5,.grow 1 P6,.grow 1 P7])⟩ Q:=by
 have hmb:zac=140737488355328:=rfl;have c1:decide ((v:Int)<(nodes.length:Int))=true:=qdB (by omega);have hw:IntKind.i64.wrap ((v:Int)+1)=((v+1:Nat):Int):=by rw[wrap64 (by omega) (by omega)]; omega
 have hmf:(v+1)* 56<=zac:=by omega
 have hpf:=hf.p1;refine EvL.zdT ?_
 conv=>enter [3,1,1]; simp only[zbb,zh3]
 refine zad ?_;refine sXM (anM @zaf (anM (zas (n:=3) (e:=zaa) rfl g3) (anM c1 (anM hpf (srM x.parents))))) ?_;refine EvL.jn (α:=Unit) (λ_=>⟨323,(h5E v [(6,dI v),(7,.ptr 8 0)]),(h4B b0 g nodes b2 es [.gone,.grow 1 P5,.grow 1 P6,.grow 1 P7,.cells [dI x.zap,sN 9 1 x.parents.length,sN 10 1 x.rows.length],gP x.parents,.grow 1 (x.rows.map fzR)])⟩) (λ_=>True) ?_ (λ_ _=>?_)
 .refine wSM ?_;refine EvL.ze4 (zbH.znO (n:=1) (β:=8) (o:=2) (by decide) rfl rfl) ?_;refine EvL.ze4 (S':=⟨323,(h5E v [(6,dI v),(7,.ptr 8 0),(8,dI ((0:Nat):Int))]),(h4B b0 g nodes b2 es [.gone,.grow 1 P5,.grow 1 P6,.grow 1 P7,.cells [dI x.zap,sN 9 1 x.parents.length,sN 10 1 0],gP x.parents,.grow 1 []])⟩) (wm0 [.k,.k,.k,.k,.k,.k,.k,.k,.k,.k,.k] ⟨.same (hb0 _),⟨MB.cs ⟨hg _,qdy,qdy⟩,⟨.same (hb2 _),⟨MB.za1 (Mt.zbD (hes _ (by decide))),⟨MB.same trivial,⟨MB.za1 (Mt.zbD (h5 _ (by decide))),⟨MB.za1 (Mt.zbD (h6 _ (by decide))),⟨MB.za1 (Mt.zbD (h7 _ (by decide))),⟨MB.cs ⟨qdy,rfl,rfl,qdy⟩,⟨MB.gs (eI .i64) true x.parents,⟨MB.gs (eL (eI .i64)) true [],qdy⟩⟩⟩⟩⟩⟩⟩⟩⟩⟩⟩) ?_;refine zAT hb0 hb2 hg hes h5 h6 h7 g3 hf.r1 hf.w1 (qap _) _ 0 [] rfl (qau _) rfl KB.nil ?_;rw[show([]:List (List D))++ ((x.rows.drop 0).take (x.rows.length - 0)).map fzR=x.rows.map fzR by simp];exact zDd hb0 hb2 hg hes KB.fz h5 h6 h7 g3 hf.r1 hf.w1 rfl
 refine zad ?_;refine sXM (anM hm (anM hmf hw)) ?_;refine EvL.ze4 ?_ hn;exact wm0 [.k,.k,.k,.k,.k,.k,.k,.k,.d,.f,.f] ⟨.same (hb0 _),⟨MB.cs ⟨hg _,qdy,qdy⟩,⟨.same (hb2 _),⟨MB.za1 (Mt.app (Mt.zbD (hes _ (by decide))) (.cons (.cons (.same trivial) (.cons (.fr (ze1 (e:=(eI .i64)) (t:=true) rfl rfl (.inr rfl) rfl rfl (λk h=>nomatch h) (λh=>by cases h<;>rfl))) (.cons (.fr (ze1 (e:=(eL (eI .i64))) (t:=true) (xs:=x.rows) rfl rfl (.inr rfl) rfl rfl (λk h=>nomatch h) (λh=>by cases h<;>rfl))) .nil))) .nil)),⟨MB.same trivial,⟨MB.za1 (Mt.zbD (h5 _ (by decide))),⟨MB.za1 (Mt.zbD (h6 _ (by decide))),⟨MB.za1 (Mt.zbD (h7 _ (by decide))),qdy⟩⟩⟩⟩⟩⟩⟩⟩
theorem zBp{x:S_api_Node}{es:List (List D)}(hb0:∀ kp,LB.kin kp b0)(hb2:∀ kp,LB.kin kp b2)(hg:∀ kp,D.kin kp g)(hes:KB 4 es)(g3:zaz nodes (v:Int)=some x)(hm:es.length=v)(hv:v<nodes.length)(hn56:(nodes.length+1)* 56<=zac)(hf:FitN x)(h0:x.rows=[])(hn:EvL mC 0 (.code (.loop zbb):: K0) ⟨323,(h5E (v+1) [(6,dI (((v+1):Nat):Int))]),(h4B b0 g nodes b2 (es ++ [[dI x.zap,sN 5 1 x.parents.length,sN 6 1 0]]) [.gone,gP x.parents,.grow 1 []])⟩ Q):
  EvL mC 0 (.code (.loop zbb):: K0) ⟨323,(h5E v [(6,dI ((v:Nat):Int))]),(h4B b0 g nodes b2 es [])⟩ Q:=by
 have hmb:zac=140737488355328:=rfl;have c1:decide ((v:Int)<(nodes.length:Int))=true:=qdB (by omega);have hw:IntKind.i64.wrap ((v:Int)+1)=((v+1:Nat):Int):=by rw[wrap64 (by omega) (by omega)]; omega
 have hmf:(v+1)* 56<=zac:=by omega
 have hpf:=hf.p1;refine EvL.zdT ?_
 conv=>enter [3,1,1]; simp only[zbb,zh3]
 refine zad ?_;refine sXM (anM @zaf (anM (zas (n:=3) (e:=zaa) rfl g3) (anM c1 (anM hpf (srM x.parents))))) ?_;refine EvL.jn (α:=Unit) (λ_=>⟨323,(h5E v [(6,dI v),(7,.ptr 4 0)]),(h4B b0 g nodes b2 es [.cells [dI x.zap,sN 5 1 x.parents.length,sN 6 1 0],gP x.parents,.grow 1 []])⟩) (λ_=>True) ?_ (λ_ _=>?_)
 .refine wSM ?_;refine EvL.ze4 (zbH.znO (n:=1) (β:=4) (o:=2) (by decide) rfl rfl) ?_;refine EvL.ze4 (S':=⟨323,(h5E v [(6,dI v),(7,.ptr 4 0),(8,dI ((0:Nat):Int))]),(h4B b0 g nodes b2 es [.cells [dI x.zap,sN 5 1 x.parents.length,sN 6 1 0],gP x.parents,.grow 1 []])⟩) (wm0 [.k,.k,.k,.k,.k,.k,.k] ⟨.same (hb0 _),⟨MB.cs ⟨hg _,qdy,qdy⟩,⟨.same (hb2 _),⟨MB.za1 (Mt.zbD (hes _ (by decide))),⟨MB.cs ⟨qdy,rfl,rfl,qdy⟩,⟨MB.gs (eI .i64) true x.parents,⟨MB.gs (eL (eI .i64)) true [],qdy⟩⟩⟩⟩⟩⟩⟩) ?_;exact zCd hb0 hb2 hg hes KB.nil g3 hf.r1 hf.w1 (by rw[h0]; rfl)
 refine zad ?_;refine sXM (anM hm (anM hmf hw)) ?_;refine EvL.ze4 ?_ hn;exact wm0 [.k,.k,.k,.k,.d,.k,.k] ⟨.same (hb0 _),⟨MB.cs ⟨hg _,qdy,qdy⟩,⟨.same (hb2 _),⟨MB.za1 (Mt.app (Mt.zbD (hes _ (by decide))) (.cons (Mos.kin ⟨qdy,rfl,rfl,qdy⟩) .nil)),⟨rfl,⟨MB.gs (eI .i64) true x.parents,⟨MB.same (λ_ h=>nomatch h),qdy⟩⟩⟩⟩⟩⟩⟩
variable{w:Nat}
theorem zAJ{x:S_api_Node}{es:List (List D)}(hb0:∀ kp,LB.kin kp b0)(hb2:∀ kp,LB.kin kp b2)(hg:∀ kp,D.kin kp g)(hes:KB 4 es)(g3:zaz nodes (v:Int)=some x)(hm:es.length=v)(hv:v<nodes.length)(hn56:(nodes.length+1)* 56<=zac)(hf:FitN x)(h0:w<x.rows.length)(hn:EvL mC 0 (.code (.loop zbb):: K0) ⟨323,(h5E (v+1) [(6,dI (((v+1):Nat):Int))]),(h4B b0 g nodes b2 (es ++ [[dI x.zap,sN 5 1 x.parents.length,sN 6 1 x.rows.length]]) [.gone,gP x.parents,.grow 1 ((x.rows.take w).map fzR ++ [[sN 7 1 x.rows[w].length]]++ (x.rows.drop (w+1)).map fzR),.grow 1 (x.rows[w].map ((eI .i64).c true))])⟩ Q):
  EvL mC 0 (.code (.loop zbb):: K0) ⟨323,(h5E v [(6,dI ((v:Nat):Int))]),(h4B b0 g nodes b2 es [])⟩ Q:=by
 have hmb:zac=140737488355328:=rfl;have c1:decide ((v:Int)<(nodes.length:Int))=true:=qdB (by omega);have hw:IntKind.i64.wrap ((v:Int)+1)=((v+1:Nat):Int):=by rw[wrap64 (by omega) (by omega)]; omega
 have hmf:(v+1)* 56<=zac:=by omega
 have hpf:=hf.p1;refine EvL.zdT ?_
 conv=>enter [3,1,1]; simp only[zbb,zh3]
 refine zad ?_;refine sXM (anM @zaf (anM (zas (n:=3) (e:=zaa) rfl g3) (anM c1 (anM hpf (srM x.parents))))) ?_;refine EvL.jn (α:=Unit) (λ_=>⟨323,(h5E v [(6,dI v),(7,.ptr 4 0)]),(h4B b0 g nodes b2 es [.cells [dI x.zap,sN 5 1 x.parents.length,sN 6 1 x.rows.length],gP x.parents,.grow 1 ((x.rows.take w).map fzR ++ [[sN 7 1 x.rows[w].length]]++ (x.rows.drop (w+1)).map fzR),.grow 1 (x.rows[w].map ((eI .i64).c true))])⟩) (λ_=>True) ?_ (λ_ _=>?_)
 .refine wSM ?_;refine EvL.ze4 (zbH.znO (n:=1) (β:=4) (o:=2) (by decide) rfl rfl) ?_;refine EvL.ze4 (S':=⟨323,(h5E v [(6,dI v),(7,.ptr 4 0),(8,dI ((0:Nat):Int))]),(h4B b0 g nodes b2 es [.cells [dI x.zap,sN 5 1 x.parents.length,sN 6 1 0],gP x.parents,.grow 1 []])⟩) (wm0 [.k,.k,.k,.k,.k,.k,.k] ⟨.same (hb0 _),⟨MB.cs ⟨hg _,qdy,qdy⟩,⟨.same (hb2 _),⟨MB.za1 (Mt.zbD (hes _ (by decide))),⟨MB.cs ⟨qdy,rfl,rfl,qdy⟩,⟨MB.gs (eI .i64) true x.parents,⟨MB.gs (eL (eI .i64)) true [],qdy⟩⟩⟩⟩⟩⟩⟩) ?_;refine zzB hb0 hb2 hg hes g3 hf.r1 hf.w1 (Nat.le_of_lt h0) _ 0 [] rfl (qau _) rfl KB.nil ?_;rw[show([]:List (List D))++ ((x.rows.drop 0).take (w - 0)).map fzR=(x.rows.take w).map fzR by simp];refine zDv hb0 hb2 hg hes KB.fz g3 (by simp; omega) hf.r1 hf.w1 h0 rfl ?_;refine zxu hb0 hb2 hg hes (KB.map _ _ _) g3 hf.r1 hf.w1 (qap _) _ (w+1) _ rfl h0 (by simp; omega) (KB.app KB.fz (KB.one λkp hk=>⟨hk 7 (by decide),qdy⟩)) ?_;rw[show((x.rows.drop (w+1)).take (x.rows.length - (w+1))).map fzR=(x.rows.drop (w+1)).map fzR by rw[qaO (by simp)]];exact zBL hb0 hb2 hg hes (KB.app (KB.app KB.fz (KB.one λkp hk=>⟨hk 7 (by decide),qdy⟩)) KB.fz) (KB.map _ _ _) g3 hf.r1 hf.w1 rfl
 refine zad ?_;refine sXM (anM hm (anM hmf hw)) ?_;refine EvL.ze4 ?_ hn;exact wm0 [.k,.k,.k,.k,.d,.k,.k,.k] ⟨.same (hb0 _),⟨MB.cs ⟨hg _,qdy,qdy⟩,⟨.same (hb2 _),⟨MB.za1 (Mt.app (Mt.zbD (hes _ (by decide))) (.cons (Mos.kin ⟨qdy,rfl,rfl,qdy⟩) .nil)),⟨rfl,⟨MB.gs (eI .i64) true x.parents,⟨MB.za1 (Mt.app (Mt.app (Mt.zbD kfz) (.cons (Mos.kin ⟨rfl,qdy⟩) .nil)) (Mt.zbD kfz)),⟨MB.gs (eI .i64) true x.rows[w],qdy⟩⟩⟩⟩⟩⟩⟩⟩
theorem zyF{K0:List K}{Q:LX->LSt->Prop}{b0 b2:LB}{g:D}{nodes:List S_api_Node}{j:Nat}(hb0:∀ kp,LB.kin kp b0)(hb2:∀ kp,LB.kin kp b2)(hg:∀ kp,D.kin kp g)(hf:∀ x∈nodes,FitN x)(hj:j<=nodes.length)(hn56:(nodes.length+1)* 56<=zac):∀(d v:Nat) (es:List (List D)),j - v=d->v<=j->es.length=v->KB 4 es ->
  EvL mC 0 (.code (.loop zbb):: K0) ⟨323,(h5E j [(6,dI ((j:Nat):Int))]),(h4B b0 g nodes b2 (es ++ ((nodes.drop v).take (j - v)).map (zaa.c true)) [])⟩ Q ->
  EvL mC 0 (.code (.loop zbb):: K0) ⟨323,(h5E v [(6,dI ((v:Nat):Int))]),(h4B b0 g nodes b2 es [])⟩ Q
 | 0,v,es,hd,hij,hl,hk,hn=>by
  have:v=j:=by omega
  subst this;rw[qcb,qbt,qb9,qaQ]at hn;exact hn
 | d+1,v,es,hd,hij,hl,hk,hn=>by
  have hvl:v<nodes.length:=by omega
  refine zDf hb0 hb2 hg hk (zdF hvl) hl hvl hn56 (hf _ (qao hvl)) ?_;refine zyF hb0 hb2 hg hf hj hn56 d (v+1) _ (by omega) (by omega) (by simp[hl]) (KB.app hk (KB.one λkp _=>zaa.kin kp true _)) ?_;have e:((nodes.drop v).take (j - v)).map (zaa.c true)=[zaa.c true nodes[v]]++ ((nodes.drop (v+1)).take (j - (v+1))).map (zaa.c true):=by
   rw[qas hvl,show j - v=(j - (v+1))+1 by omega,qbr];rfl
  rw[e,<- qa5]at hn;exact hn
theorem zCY{es:List (List D)}(hb0:∀ kp,LB.kin kp b0)(hb2:∀ kp,LB.kin kp b2)(hg:∀ kp,D.kin kp g)(hes:KB 4 es)(hi:v=nodes.length):
  EvL mC 0 (.code (.loop zbb):: .blk 0 :: .inv (Jn 0 (λ_:Unit=>⟨323,(h5E v []),(h4B b0 g nodes b2 es [])⟩) (λ_=>True)):: K0) ⟨323,(h5E v [(6,dI ((v:Nat):Int))]),(h4B b0 g nodes b2 es [])⟩ Q:=by
 have c6:decide ((v:Int)<(nodes.length:Int))=false:=qdC (by omega);refine EvL.zdT ?_
 conv=>enter [3,1,1]; simp only[zbb,zh3]
 refine zad ?_;refine sXM c6 ?_;exact⟨(),qdy,wm0 [.k,.k,.k,.k] ⟨.same (hb0 _),⟨MB.cs ⟨hg _,qdy,qdy⟩,⟨.same (hb2 _),⟨MB.za1 (Mt.zbD (hes _ (by decide))),qdy⟩⟩⟩⟩⟩
theorem zAO{K0:List K}{Q:LX->LSt->Prop}{b0 b2:LB}{g:D}{nodes:List S_api_Node}{P5 P6:List (List D)}{j:Nat}(hb0:∀ kp,LB.kin kp b0)(hb2:∀ kp,LB.kin kp b2)(hg:∀ kp,D.kin kp g)(h5:KB 7 P5)(h6:KB 7 P6)(hf:∀ x∈nodes,FitN x)(hj:j<=nodes.length)(hn56:(nodes.length+1)* 56<=zac):∀(d v:Nat) (es:List (List D)),j - v=d->v<=j->es.length=v->KB 7 es ->
  EvL mC 0 (.code (.loop zbb):: K0) ⟨323,(h5E j [(6,dI ((j:Nat):Int))]),(h4B b0 g nodes b2 (es ++ ((nodes.drop v).take (j - v)).map (zaa.c true)) [.gone,.grow 1 P5,.grow 1 P6])⟩ Q ->
  EvL mC 0 (.code (.loop zbb):: K0) ⟨323,(h5E v [(6,dI ((v:Nat):Int))]),(h4B b0 g nodes b2 es [.gone,.grow 1 P5,.grow 1 P6])⟩ Q
 | 0,v,es,hd,hij,hl,hk,hn=>by
  have:v=j:=by omega
  subst this;rw[qcb,qbt,qb9,qaQ]at hn;exact hn
 | d+1,v,es,hd,hij,hl,hk,hn=>by
  have hvl:v<nodes.length:=by omega
  refine zD3 hb0 hb2 hg hk h5 h6 (zdF hvl) hl hvl hn56 (hf _ (qao hvl)) ?_;refine zAO hb0 hb2 hg h5 h6 hf hj hn56 d (v+1) _ (by omega) (by omega) (by simp[hl]) (KB.app hk (KB.one λkp _=>zaa.kin kp true _)) ?_;have e:((nodes.drop v).take (j - v)).map (zaa.c true)=[zaa.c true nodes[v]]++ ((nodes.drop (v+1)).take (j - (v+1))).map (zaa.c true):=by
   rw[qas hvl,show j - v=(j - (v+1))+1 by omega,qbr];rfl
  rw[e,<- qa5]at hn;exact hn
theorem zC0{es:List (List D)}(hb0:∀ kp,LB.kin kp b0)(hb2:∀ kp,LB.kin kp b2)(hg:∀ kp,D.kin kp g)(hes:KB 7 es)(h5:KB 7 P5)(h6:KB 7 P6)(hi:v=nodes.length):
  EvL mC 0 (.code (.loop zbb):: .blk 0 :: .inv (Jn 0 (λ_:Unit=>⟨323,(h5E v []),(h4B b0 g nodes b2 es [.gone,.grow 1 P5,.grow 1 P6])⟩) (λ_=>True)):: K0) ⟨323,(h5E v [(6,dI ((v:Nat):Int))]),(h4B b0 g nodes b2 es [.gone,.grow 1 P5,.grow 1 P6])⟩ Q:=by
 have c6:decide ((v:Int)<(nodes.length:Int))=false:=qdC (by omega);refine EvL.zdT ?_
 conv=>enter [3,1,1]; simp only[zbb,zh3]
 refine zad ?_;refine sXM c6 ?_;exact⟨(),qdy,wm0 [.k,.k,.k,.k,.k,.k,.k] ⟨.same (hb0 _),⟨MB.cs ⟨hg _,qdy,qdy⟩,⟨.same (hb2 _),⟨MB.za1 (Mt.zbD (hes _ (by decide))),⟨MB.same trivial,⟨MB.za1 (Mt.zbD (h5 _ (by decide))),⟨MB.za1 (Mt.zbD (h6 _ (by decide))),qdy⟩⟩⟩⟩⟩⟩⟩⟩
theorem zCr{K0:List K}{Q:LX->LSt->Prop}{b0 b2:LB}{g:D}{nodes:List S_api_Node}{P5 P6 P7:List (List D)}{j:Nat}(hb0:∀ kp,LB.kin kp b0)(hb2:∀ kp,LB.kin kp b2)(hg:∀ kp,D.kin kp g)(h5:KB 8 P5)(h6:KB 8 P6)(h7:KB 8 P7)(hf:∀ x∈nodes,FitN x)(hj:j<=nodes.length)(hn56:(nodes.length+1)* 56<=zac):∀(d v:Nat) (es:List (List D)),j - v=d->v<=j->es.length=v->KB 8 es ->
  EvL mC 0 (.code (.loop zbb):: K0) ⟨323,(h5E j [(6,dI ((j:Nat):Int))]),(h4B b0 g nodes b2 (es ++ ((nodes.drop v).take (j - v)).map (zaa.c true)) [.gone,.grow 1 P5,.grow 1 P6,.grow 1 P7])⟩ Q ->
  EvL mC 0 (.code (.loop zbb):: K0) ⟨323,(h5E v [(6,dI ((v:Nat):Int))]),(h4B b0 g nodes b2 es [.gone,.grow 1 P5,.grow 1 P6,.grow 1 P7])⟩ Q
 | 0,v,es,hd,hij,hl,hk,hn=>by
  have:v=j:=by omega
  subst this;rw[qcb,qbt,qb9,qaQ]at hn;exact hn
 | d+1,v,es,hd,hij,hl,hk,hn=>by
  have hvl:v<nodes.length:=by omega
  refine zDX hb0 hb2 hg hk h5 h6 h7 (zdF hvl) hl hvl hn56 (hf _ (qao hvl)) ?_;refine zCr hb0 hb2 hg h5 h6 h7 hf hj hn56 d (v+1) _ (by omega) (by omega) (by simp[hl]) (KB.app hk (KB.one λkp _=>zaa.kin kp true _)) ?_;have e:((nodes.drop v).take (j - v)).map (zaa.c true)=[zaa.c true nodes[v]]++ ((nodes.drop (v+1)).take (j - (v+1))).map (zaa.c true):=by
   rw[qas hvl,show j - v=(j - (v+1))+1 by omega,qbr];rfl
  rw[e,<- qa5]at hn;exact hn
theorem zC2{es:List (List D)}(hb0:∀ kp,LB.kin kp b0)(hb2:∀ kp,LB.kin kp b2)(hg:∀ kp,D.kin kp g)(hes:KB 8 es)(h5:KB 8 P5)(h6:KB 8 P6)(h7:KB 8 P7)(hi:v=nodes.length):
  EvL mC 0 (.code (.loop zbb):: .blk 0 :: .inv (Jn 0 (λ_:Unit=>⟨323,(h5E v []),(h4B b0 g nodes b2 es [.gone,.grow 1 P5,.grow 1 P6,.grow 1 P7])⟩) (λ_=>True)):: K0) ⟨323,(h5E v [(6,dI ((v:Nat):Int))]),(h4B b0 g nodes b2 es [.gone,.grow 1 P5,.grow 1 P6,.grow 1 P7])⟩ Q:=by
 have c6:decide ((v:Int)<(nodes.length:Int))=false:=qdC (by omega);refine EvL.zdT ?_
 conv=>enter [3,1,1]; simp only[zbb,zh3]
 refine zad ?_;refine sXM c6 ?_;exact⟨(),qdy,wm0 [.k,.k,.k,.k,.k,.k,.k,.k] ⟨.same (hb0 _),⟨MB.cs ⟨hg _,qdy,qdy⟩,⟨.same (hb2 _),⟨MB.za1 (Mt.zbD (hes _ (by decide))),⟨MB.same trivial,⟨MB.za1 (Mt.zbD (h5 _ (by decide))),⟨MB.za1 (Mt.zbD (h6 _ (by decide))),⟨MB.za1 (Mt.zbD (h7 _ (by decide))),qdy⟩⟩⟩⟩⟩⟩⟩⟩⟩
variable{xs:List α}
theorem zgA{y:α}(h:i<xs.length):xs.take i ++ [y]++ xs.drop (i+1)=xs.set i y:=by
 rw[List.set_eq_take_append_cons_drop,if_pos h,qa5]; rfl
def swL:Nat->Int->Int->List Int->Option (List Int)
 | 0,_,_,_=>none
 | n+1,i,k,r=>bif decide (i<k)then(zaz r i).bind λx=>(zaz r k).bind λy=>(zeU r i y).bind λr1=>(zeU r1 k x).bind λr2=>swL n (w64 (i+1)) (w64 (k - 1)) r2 else some r
def zwb(b:S_haruspexref05_Bend)(n:S_api_Net)(x:S_api_Node)(t:Nat):Nat->Option S_api_Net
 | 0=>some ⟨b.n,n.nodes⟩
 | 1=>some ⟨n.grain,n.nodes.set t ⟨b.n,x.parents,x.rows⟩⟩
 | 2=>some ⟨n.grain,n.nodes.set t ⟨x.zap,x.parents ++ [b.n],x.rows⟩⟩
 | 3=>some ⟨n.grain,n.nodes.set t ⟨x.zap,[],x.rows⟩⟩
 | 4=>some ⟨n.grain,n.nodes.set t ⟨x.zap,x.parents,x.rows ++ [[b.n]]⟩⟩
 | 10=>some ⟨n.grain,n.nodes ++ [⟨1,[],[[n.grain]]⟩]⟩
 | 11=>some ⟨n.grain,n.nodes.take (n.nodes.length - 1)⟩
 | _=>none
def zsi(b:S_haruspexref05_Bend)(n:S_api_Net)(x:S_api_Node)(t w:Nat)(row:List Int):Nat->Option S_api_Net
 | 5=>some ⟨n.grain,n.nodes.set t ⟨x.zap,x.parents,x.rows.take w⟩⟩
 | 6=>some (bif row.isEmpty then n else⟨n.grain,n.nodes.set t ⟨x.zap,x.parents,x.rows.set w (row.set 0 b.n)⟩⟩)
 | 7=>some ⟨n.grain,n.nodes.set t ⟨x.zap,x.parents,x.rows.set w (row ++ [0])⟩⟩
 | 8=>some (bif row.isEmpty then n else⟨n.grain,n.nodes.set t ⟨x.zap,x.parents,x.rows.set w ((List.replicate row.length 0).set 0 n.grain)⟩⟩)
 | 9=>(swL (row.length+2) 0 (w64 ((row.length:Int) - 1)) row).map λr2=>⟨n.grain,n.nodes.set t ⟨x.zap,x.parents,x.rows.set w r2⟩⟩
 | k=>zwb b n x t k
def zy9(b:S_haruspexref05_Bend)(n:S_api_Net)(k:Nat):Option S_api_Net:=
 match n.nodes[b.at_.toNat % n.nodes.length]? with
 | none=>some n
 | some x=>match x.rows[b.row.toNat % x.rows.length]? with
  | none=>bif decide (5<=k) && decide (k<=9)then some n else zwb b n x (b.at_.toNat % n.nodes.length) k
  | some row=>zsi b n x (b.at_.toNat % n.nodes.length) (b.row.toNat % x.rows.length) row k
instance (x:S_api_Node):Decidable (FitN x):=decidable_of_iff ((x.parents.length+1)* 8<=zac/\(x.rows.length+1)* 24<=zac/\∀ r∈x.rows,(r.length+1)* 8<=zac) ⟨λh=>⟨h.1,h.2.1,h.2.2⟩,λh=>⟨h.ps,h.rs,h.row⟩⟩
def znQ(b:S_haruspexref05_Bend)(n:S_api_Net):Option S_api_Net:=
 if(0<=b.what/\b.what<=255)/\(0<=b.at_/\b.at_<=255)/\(0<=b.row/\b.row<=255)/\(n.nodes.length+2)* 56<=zac/\∀ x∈n.nodes,FitN x then zy9 b n (b.what.toNat % 12)else none
theorem zzd:zuD mC 29=some (323,zB5,[.cell 4 (some 2)],false):=zjp (by kernel_rfl)
variable{L:List LB}{op:List D}
theorem zeC{t:Nat}{y:S_api_Node}(hop:Snps L true op (zaa.c true y)):
  Pw (Snp L true) ((nodes.map (zaa.c true)).set t op) ((nodes.set t y).map (zaa.c true)):=by
 rw[qdh];exact Pw.set (Pw.map (λx=>⟨(zaa.snp (L:=L) x λh=>h).len,(zaa.snp (L:=L) x λh=>h).get⟩) nodes) hop.len hop.get _
variable{rows:List (List Int)}
theorem zjN{y:List Int}(hop:Snps L true op (fzR y)):
  Pw (Snp L true) ((rows.map fzR).set w op) ((rows.set w y).map ((eL (eI .i64)).c true)):=by
 rw[qdh];exact Pw.set (Pw.map (λx=>⟨((eL (eI .i64)).snp (L:=L) x λh=>h).len,((eL (eI .i64)).snp (L:=L) x λh=>h).get⟩) rows) hop.len hop.get _
theorem zdz{t:Nat}(h:t<nodes.length)(hop:Snps L true op (zaa.c true nodes[t])):
  Pw (Snp L true) ((nodes.map (zaa.c true)).set t op) (nodes.map (zaa.c true)):=by
 have:=zeC hop (nodes:=nodes) (t:=t)
 rwa [List.set_getElem_self]at this
theorem zdM(h:w<rows.length)(hop:Snps L true op (fzR rows[w])):
  Pw (Snp L true) ((rows.map fzR).set w op) (rows.map ((eL (eI .i64)).c true)):=by
 have:=zjN hop (rows:=rows) (w:=w)
 rwa [List.set_getElem_self]at this
variable{P:D->D->Prop}
theorem ztU{c d:List (List D)}(h1:Pw P a b)(h2:Pw P c d):Pw P (a ++ c) (b ++ d):=by
 induction h1 with
 | nil=>exact h2
 | cons g1 g2 _ ih=>exact .cons g1 g2 ih
theorem zog(h:Pw P a b):∀ n:Nat,Pw P (a.take n) (b.take n):=by
 induction h with
 | nil=>intro n; simp; exact .nil
 | cons g1 g2 _ ih=>
  intro n;cases n with
  | zero=>exact .nil
  | succ n=>exact .cons g1 g2 (ih n)
theorem zjK{t':Bool}{β len st:Nat}{cap:Option Nat}{e:En α}{els:List (List D)}(hn:n=e.n)(he:L[β]? = some (.els n els)\/L[β]? = some (.grow n els))(hs:st=els.length)(hl:len<=els.length)(hc:∀ k,cap=some k->len<=k)(h:Pw (Snp L t') (els.take len) (xs.map (e.c t'))):Snp L t' (.sl β 0 n len cap st) (fzE t' e xs):=by
 subst hn;have hlen:=h.len;rw[qbD,qb6 hl]at hlen;have hget:∀(i:Nat) (cells cells':List D),els[0+i]? = some cells->(xs.map (e.c t'))[i]? = some cells'->(els.take len)[i]? = some cells:=by
  intro i cells cells' h1 h2;have hi:=(qab.1 h2).1;rw[qaD,if_pos (by omega),<- h1,qaR]
 refine .sl (zmb he hs) (by simp[hl]) hc hlen (λi cells cells' h1 h2=>(h.get i _ _ (hget i _ _ h1 h2) h2).1) λi k cells cells' d d' h1 h2 h3 h4=>(h.get i _ _ (hget i _ _ h1 h2) h2).2 k d d' h3 h4
theorem ztj{es:List (List D)}{c:List D}(h:KB n es)(hc:∀ kp:Nat->Bool,(∀ j,j<n->kp j=true)->D.zbD kp c):KB n (es.set i c):=by
 intro kp hk cs hm;rcases qbF hm with hm | hm
 .exact h kp hk cs hm
 rw[hm]; exact hc kp hk
theorem zAd{p0:S_haruspexref05_Bend}{p1 r:S_api_Net}(h:znQ p0 p1=some r):Lx.Fn mC 29 [(.agg [(dU8 p0.what),(dU8 p0.at_),(dU8 p0.row),(dI p0.n)]),(.agg [(dI p1.grain),(fzE false zaa p1.nodes)])] (.agg [(dI r.grain),(fzE true zaa r.nodes)]):=by
 refine Fn.of zzd (zfu rfl) (qal rfl) ?_;unfold znQ at h;split at h
 case isFalse=>cases h
 rename_i hg;obtain⟨⟨hw0,hw1⟩,⟨ha0,ha1⟩,⟨hr0,hr1⟩,hn2,hfit⟩:=hg;have hmb:zac=140737488355328:=rfl;have hn56:(p1.nodes.length+1)* 56<=zac:=by omega
 have hb0:∀ kp,LB.kin kp (.cells [dU8 p0.what,dU8 p0.at_,dU8 p0.row,dI p0.n]):=λkp=>⟨qdy,qdy,qdy,qdy,qdy⟩
 have hb2:∀ kp,LB.kin kp (.cells [dI 0,zhT]):=λkp=>⟨qdy,qdy,qdy⟩
 have hgk:∀ kp,D.kin kp (dI p1.grain):=λkp=>trivial
 have hat:IntKind.i64.wrap p0.at_=p0.at_:=wrap64 (by omega) (by omega);have hrow:IntKind.i64.wrap p0.row=p0.row:=wrap64 (by omega) (by omega);obtain⟨k,hk12,hkl⟩:∃ k:Nat,p0.what.tmod 12=(k:Int)/\k<12/\p0.what.toNat % 12=k:=by
  refine⟨p0.what.toNat % 12,?_,qbk _ (by decide),rfl⟩;rw[qc4 hw0]; omega
 rw[hkl.2]at h;simp only[zB5,zh3];refine wSM ?_;unfold zy9 at h;by_cases hnil:p1.nodes.length=0
 .have hnl:p1.nodes=[]:=qaA hnil;have hri:some p1=some r:=by rw[hnl]at h; exact h
  have hri:=qaf hri;subst hri;refine EvL.jn (α:=Unit) (λ_=>⟨323,[(2,.ptr 0 0),(3,.ptr 1 0),(4,.ptr 2 0),(5,sN 3 3 0)],[.cells [dU8 p0.what,dU8 p0.at_,dU8 p0.row,dI p0.n],.cells [dI p1.grain,fzE false zaa p1.nodes],.cells [dI 0,zhT],.grow 3 []]⟩) (λ_=>True) ?_ (λ_ _=>?_)
  .refine wSM ?_;refine EvL.ze4 (zbH.ghost (n:=3) (k:=5) (by decide) rfl) ?_;refine EvL.ze4 (S':=⟨323,[(2,.ptr 0 0),(3,.ptr 1 0),(4,.ptr 2 0),(5,sN 3 3 0),(6,dI ((0:Nat):Int))],[.cells [dU8 p0.what,dU8 p0.at_,dU8 p0.row,dI p0.n],.cells [dI p1.grain,fzE false zaa p1.nodes],.cells [dI 0,zhT],.grow 3 []]⟩) (wm0 [.k,.k,.k,.k] ⟨.same (hb0 _),MB.cs ⟨qdy,qdy,qdy⟩,.same (hb2 _),MB.gs zaa true [],qdy⟩) ?_;exact zCY hb0 hb2 hgk KB.nil hnil.symm
  refine zad ?_;refine sXM (show(((0:Nat):Int)== 0)=true from rfl) ?_;rw[hnl];exact zeJ.ret rfl (.zga (.cons (.lit _) (.cons (zar (cap:=none) (β:=3) (e:=zaa) (t:=true) (xs:=[]) rfl (.inr rfl) rfl rfl (by intro k h; cases h) (λ_=>rfl)) .nil)))
 have htl:p0.at_.toNat % p1.nodes.length<p1.nodes.length:=qbk _ (by omega);have hrem:p0.at_.tmod (p1.nodes.length:Int)=((p0.at_.toNat % p1.nodes.length:Nat):Int):=by
  rw[qc4 ha0,Int.natCast_emod,qb0 ha0]
 generalize ht:p0.at_.toNat % p1.nodes.length=t at htl hrem h;rw[qac htl]at h;simp only at h;obtain⟨x,hx⟩:∃ x,p1.nodes[t]=x:=⟨_,rfl⟩;rw[hx]at h;have hxm:x∈p1.nodes:=by rw[<- hx]; exact qao _
 have hf:=hfit x hxm;have g3:zaz p1.nodes (t:Int)=some x:=by rw[zdF htl,hx]
 by_cases hrl:x.rows.length=0
 .have hr:x.rows=[]:=qaA hrl;have h:(bif decide (5<=k) && decide (k<=9)then some p1 else zwb p0 p1 x t k)=some r:=by
   rw[hr]at h;exact h
  refine EvL.jn (α:=Unit) (λ_=>⟨323,[(2,.ptr 0 0),(3,.ptr 1 0),(4,.ptr 2 0),(5,sN 3 3 p1.nodes.length)],[.cells [dU8 p0.what,dU8 p0.at_,dU8 p0.row,dI p0.n],.cells [dI p1.grain,fzE false zaa p1.nodes],.cells [dI 0,zhT],.grow 3 ((p1.nodes.map (zaa.c true)).set t [dI x.zap,sN 5 1 x.parents.length,sN 6 1 0]),.gone,gP x.parents,.grow 1 []]⟩) (λ_=>True) ?_ (λ_ _=>?_)
  .refine wSM ?_;refine EvL.ze4 (zbH.ghost (n:=3) (k:=5) (by decide) rfl) ?_;refine EvL.ze4 (S':=⟨323,[(2,.ptr 0 0),(3,.ptr 1 0),(4,.ptr 2 0),(5,sN 3 3 0),(6,dI ((0:Nat):Int))],[.cells [dU8 p0.what,dU8 p0.at_,dU8 p0.row,dI p0.n],.cells [dI p1.grain,fzE false zaa p1.nodes],.cells [dI 0,zhT],.grow 3 []]⟩) (wm0 [.k,.k,.k,.k] ⟨.same (hb0 _),MB.cs ⟨qdy,qdy,qdy⟩,.same (hb2 _),MB.gs zaa true [],qdy⟩) ?_;refine zyF hb0 hb2 hgk hfit (Nat.le_of_lt htl) hn56 _ 0 [] rfl (qau _) rfl KB.nil ?_;rw[show([]:List (List D))++ ((p1.nodes.drop 0).take (t - 0)).map (zaa.c true)=(p1.nodes.take t).map (zaa.c true) by simp];refine zBp hb0 hb2 hgk (KB.map _ _ _) g3 (by simp; omega) htl hn56 hf hr ?_;have hES:KB 7 ((p1.nodes.map (zaa.c true)).set t [dI x.zap,sN 5 1 x.parents.length,sN 6 1 0]):=ztj (KB.map _ _ _) λkp hk=>⟨qdy,hk 5 (by decide),hk 6 (by decide),qdy⟩
   refine zAO hb0 hb2 hgk (KB.map _ _ _) KB.nil hfit (qap _) hn56 _ (t+1) _ rfl htl (by simp; omega) (KB.app (KB.map _ _ _) (KB.one λkp hk=>⟨qdy,hk 5 (by decide),hk 6 (by decide),qdy⟩)) ?_;rw[show(p1.nodes.take t).map (zaa.c true)++ [[dI x.zap,sN 5 1 x.parents.length,sN 6 1 0]]++ ((p1.nodes.drop (t+1)).take (p1.nodes.length - (t+1))).map (zaa.c true)=(p1.nodes.map (zaa.c true)).set t [dI x.zap,sN 5 1 x.parents.length,sN 6 1 0] by rw[qaO (l:=p1.nodes.drop (t+1)) (by simp),qc0,List.map_drop]; exact zgA (by simpa using htl)];exact zC0 hb0 hb2 hgk hES (KB.map _ _ _) KB.nil rfl
  have hne:(((p1.nodes.length:Nat):Int)== 0)=false:=by rw[qdE]; omega
  have hlt0:(0:Int)<=(t:Int):=by omega
  have hlt1:(t:Int)<((p1.nodes.length:Nat):Int):=by omega
  have hgs3:∀ C:List D,((p1.nodes.map (zaa.c true)).set t C)[t]? = some C:=λC=>by rw[qaE (by simpa using htl)]
  have hz1:decide ((0:Int)<((0:Nat):Int))=false:=rfl;have hm1:decide ((0:Int)<=-1)=false:=rfl;have h24:1 * 24<=zac:=by decide
  have hwn:IntKind.i64.wrap (((p1.nodes.length:Nat):Int) - 1)=((p1.nodes.length - 1:Nat):Int):=by rw[wrap64 (by omega) (by omega)]; try omega
  have h11:((p1.nodes.length - 1:Nat):Int)<=((p1.nodes.length:Nat):Int):=by omega
  have hb11:bounds p1.nodes.length none none (some ((p1.nodes.length - 1:Nat):Int)) none=some (0,p1.nodes.length - 1,none):=by simp[bounds,zeD,h11]
  have hfn1:(p1.nodes.length+1)* 56<=zac:=hn56;refine zad ?_;simp only[rnA,Nat.reduceEqDiff,Nat.reduceLT,Nat.reduceAdd,Nat.reduceLeDiff,hat,hrem,hlt0,hlt1,hne,hgs3,qat,qaG];simp only[zlH,zh3];refine EvL.scope (zad ?_);refine sXM hz1 ?_;obtain rfl | rfl | rfl | rfl | rfl | rfl | rfl | rfl | rfl | rfl | rfl | rfl:k=0\/k=1\/k=2\/k=3\/k=4\/k=5\/k=6\/k=7\/k=8\/k=9\/k=10\/k=11:=by omega
  .have hk:p0.what.tmod 12=0:=hk12;obtain rfl:=qaf h;refine EvL.scope (zad ?_);refine sXM hk ?_;exact zeJ.ret rfl (.zga (.cons (.lit _) (.cons (zau (e:=zaa) rfl (.inr rfl) (by simp) (by simp) (λk h=>nomatch h) (zdz htl (by rw[hx,zaf,hr]; exact(.cons (.lit _) (.cons (zar (e:=(eI .i64)) (t:=true) rfl (.inr rfl) rfl rfl (λk h=>nomatch h) (λ_=>rfl)) (.cons (zar (e:=(eL (eI .i64))) (t:=true) (xs:=[]) rfl (.inr rfl) rfl rfl (λk h=>nomatch h) (λ_=>rfl)) .nil)))))) .nil)))
  .have hk:p0.what.tmod 12=1:=hk12;obtain rfl:=qaf h;refine EvL.scope (zad ?_);simp only[rnA,Nat.reduceEqDiff,Nat.reduceLT,Nat.reduceAdd,Nat.reduceLeDiff,Int.reduceBEq,hgs3,qat,qb3,hk];exact zeJ.ret rfl (.zga (.cons (.lit _) (.cons (zau (e:=zaa) rfl (.inr rfl) (by simp) (by simp) (λk h=>nomatch h) (zeC (by rw[zaf]; simp only[hr]; exact(.cons (.lit _) (.cons (zar (e:=(eI .i64)) (t:=true) rfl (.inr rfl) rfl rfl (λk h=>nomatch h) (λ_=>rfl)) (.cons (zar (e:=(eL (eI .i64))) (t:=true) (xs:=[]) rfl (.inr rfl) rfl rfl (λk h=>nomatch h) (λ_=>rfl)) .nil)))))) .nil)))
  .have hk:p0.what.tmod 12=2:=hk12;obtain rfl:=qaf h;refine EvL.scope (zad ?_);simp only[rnA,Nat.reduceEqDiff,Nat.reduceLT,Nat.reduceAdd,Nat.reduceLeDiff,Int.reduceBEq,hgs3,qat,qb3,hk,hf.ps];exact zeJ.ret rfl (.zga (.cons (.lit _) (.cons (zau (e:=zaa) rfl (.inr rfl) (by simp) (by simp) (λk h=>nomatch h) (zeC (by rw[zaf]; simp only[hr]; exact(.cons (.lit _) (.cons (zar (e:=(eI .i64)) (t:=true) (xs:=x.parents ++ [p0.n]) rfl (.inr (by simp; rfl)) (by simp) (by simp) (λk h=>nomatch h) (λ_=>rfl)) (.cons (zar (e:=(eL (eI .i64))) (t:=true) (xs:=[]) rfl (.inr rfl) rfl rfl (λk h=>nomatch h) (λ_=>rfl)) .nil)))))) .nil)))
  .have hk:p0.what.tmod 12=3:=hk12;obtain rfl:=qaf h;refine EvL.scope (zad ?_);simp only[rnA,Nat.reduceEqDiff,Nat.reduceLT,Nat.reduceAdd,Nat.reduceLeDiff,Int.reduceBEq,hgs3,qat,qb3,hk];exact zeJ.ret rfl (.zga (.cons (.lit _) (.cons (zau (e:=zaa) rfl (.inr rfl) (by simp) (by simp) (λk h=>nomatch h) (zeC (by rw[zaf]; simp only[hr]; exact(.cons (.lit _) (.cons (zgB (eI .i64)) (.cons (zar (e:=(eL (eI .i64))) (t:=true) (xs:=[]) rfl (.inr rfl) rfl rfl (λk h=>nomatch h) (λ_=>rfl)) .nil)))))) .nil)))
  .have hk:p0.what.tmod 12=4:=hk12;obtain rfl:=qaf h;refine EvL.scope (zad ?_);simp only[rnA,Nat.reduceEqDiff,Nat.reduceLT,Nat.reduceAdd,Nat.reduceLeDiff,Nat.reduceMul,Int.reduceBEq,hgs3,qat,qb3,hk,h24];exact zeJ.ret rfl (.zga (.cons (.lit _) (.cons (zau (e:=zaa) rfl (.inr rfl) (by simp) (by simp) (λk h=>nomatch h) (zeC (by rw[zaf]; simp only[hr,qbe]; exact(.cons (.lit _) (.cons (zar (e:=(eI .i64)) (t:=true) rfl (.inr rfl) rfl rfl (λk h=>nomatch h) (λ_=>rfl)) (.cons (zau (e:=(eL (eI .i64))) (xs:=[[p0.n]]) rfl (.inr rfl) rfl rfl (λk h=>nomatch h) (zhF (.cons (zar (e:=(eI .i64)) (t:=true) (xs:=[p0.n]) rfl (.inl rfl) rfl rfl (λk h=>by cases h; exact qap _) (λ_=>rfl)) .nil) .nil)) .nil)))))) .nil)))
  .have hk:p0.what.tmod 12=5:=hk12;obtain rfl:=qaf h;refine EvL.scope (zad ?_);refine sXM hk ?_;exact zeJ.ret rfl (.zga (.cons (.lit _) (.cons (zau (e:=zaa) rfl (.inr rfl) (by simp) (by simp) (λk h=>nomatch h) (zdz htl (by rw[hx,zaf,hr]; exact(.cons (.lit _) (.cons (zar (e:=(eI .i64)) (t:=true) rfl (.inr rfl) rfl rfl (λk h=>nomatch h) (λ_=>rfl)) (.cons (zar (e:=(eL (eI .i64))) (t:=true) (xs:=[]) rfl (.inr rfl) rfl rfl (λk h=>nomatch h) (λ_=>rfl)) .nil)))))) .nil)))
  .have hk:p0.what.tmod 12=6:=hk12;obtain rfl:=qaf h;refine EvL.scope (zad ?_);refine sXM hk ?_;refine EvL.scope (zad ?_);refine sSM ?_;exact zeJ.ret rfl (.zga (.cons (.lit _) (.cons (zau (e:=zaa) rfl (.inr rfl) (by simp) (by simp) (λk h=>nomatch h) (zdz htl (by rw[hx,zaf,hr]; exact(.cons (.lit _) (.cons (zar (e:=(eI .i64)) (t:=true) rfl (.inr rfl) rfl rfl (λk h=>nomatch h) (λ_=>rfl)) (.cons (zar (e:=(eL (eI .i64))) (t:=true) (xs:=[]) rfl (.inr rfl) rfl rfl (λk h=>nomatch h) (λ_=>rfl)) .nil)))))) .nil)))
  .have hk:p0.what.tmod 12=7:=hk12;obtain rfl:=qaf h;refine EvL.scope (zad ?_);refine sXM hk ?_;exact zeJ.ret rfl (.zga (.cons (.lit _) (.cons (zau (e:=zaa) rfl (.inr rfl) (by simp) (by simp) (λk h=>nomatch h) (zdz htl (by rw[hx,zaf,hr]; exact(.cons (.lit _) (.cons (zar (e:=(eI .i64)) (t:=true) rfl (.inr rfl) rfl rfl (λk h=>nomatch h) (λ_=>rfl)) (.cons (zar (e:=(eL (eI .i64))) (t:=true) (xs:=[]) rfl (.inr rfl) rfl rfl (λk h=>nomatch h) (λ_=>rfl)) .nil)))))) .nil)))
  .have hk:p0.what.tmod 12=8:=hk12;obtain rfl:=qaf h;refine EvL.scope (zad ?_);refine sXM hk ?_;refine EvL.scope (zad ?_);refine sSM ?_;exact zeJ.ret rfl (.zga (.cons (.lit _) (.cons (zau (e:=zaa) rfl (.inr rfl) (by simp) (by simp) (λk h=>nomatch h) (zdz htl (by rw[hx,zaf,hr]; exact(.cons (.lit _) (.cons (zar (e:=(eI .i64)) (t:=true) rfl (.inr rfl) rfl rfl (λk h=>nomatch h) (λ_=>rfl)) (.cons (zar (e:=(eL (eI .i64))) (t:=true) (xs:=[]) rfl (.inr rfl) rfl rfl (λk h=>nomatch h) (λ_=>rfl)) .nil)))))) .nil)))
  .have hk:p0.what.tmod 12=9:=hk12;obtain rfl:=qaf h;refine EvL.scope (zad ?_);refine sXM hk ?_;exact zeJ.ret rfl (.zga (.cons (.lit _) (.cons (zau (e:=zaa) rfl (.inr rfl) (by simp) (by simp) (λk h=>nomatch h) (zdz htl (by rw[hx,zaf,hr]; exact(.cons (.lit _) (.cons (zar (e:=(eI .i64)) (t:=true) rfl (.inr rfl) rfl rfl (λk h=>nomatch h) (λ_=>rfl)) (.cons (zar (e:=(eL (eI .i64))) (t:=true) (xs:=[]) rfl (.inr rfl) rfl rfl (λk h=>nomatch h) (λ_=>rfl)) .nil)))))) .nil)))
  .have hk:p0.what.tmod 12=10:=hk12;obtain rfl:=qaf h;refine EvL.scope (zad ?_);simp only[rnA,Nat.reduceEqDiff,Nat.reduceLT,Nat.reduceAdd,Nat.reduceLeDiff,Int.reduceBEq,qat,hk,hfn1];exact zeJ.ret rfl (.zga (.cons (.lit _) (.cons (zau (e:=zaa) (xs:=p1.nodes ++ [⟨1,[],[[p1.grain]]⟩]) rfl (.inr rfl) (by simp) (by simp) (by intro k h; cases h) (by rw[qbw]; refine ztU (zdz htl ?_) ?_; (exact(by rw[hx,zaf,hr]; exact(.cons (.lit _) (.cons (zar (e:=(eI .i64)) (t:=true) rfl (.inr rfl) rfl rfl (λk h=>nomatch h) (λ_=>rfl)) (.cons (zar (e:=(eL (eI .i64))) (t:=true) (xs:=[]) rfl (.inr rfl) rfl rfl (λk h=>nomatch h) (λ_=>rfl)) .nil))))); exact(zhF (.cons (.lit _) (.cons (zgB (eI .i64)) (.cons (zau (e:=(eL (eI .i64))) (xs:=[[p1.grain]]) rfl (.inl rfl) rfl rfl (λk h=>by cases h; exact qap _) (zhF (.cons (zar (e:=(eI .i64)) (t:=true) (xs:=[p1.grain]) rfl (.inl rfl) rfl rfl (λk h=>by cases h; exact qap _) (λ_=>rfl)) .nil) .nil)) .nil))) .nil))) .nil)))
  have hk:p0.what.tmod 12=11:=hk12;obtain rfl:=qaf h;refine EvL.scope (zad ?_);simp only[rnA,Nat.reduceEqDiff,Nat.reduceLT,Nat.reduceAdd,Nat.reduceLeDiff,Int.reduceBEq,qat,hk,hb11,hwn];exact zeJ.ret rfl (.zga (.cons (.lit _) (.cons (zjK (e:=zaa) (xs:=p1.nodes.take (p1.nodes.length - 1)) rfl (.inr rfl) (by simp) (by simp) (by intro k h; cases h) (by rw[qc0]; refine zog (zdz htl ?_) _; exact(by rw[hx,zaf,hr]; exact(.cons (.lit _) (.cons (zar (e:=(eI .i64)) (t:=true) rfl (.inr rfl) rfl rfl (λk h=>nomatch h) (λ_=>rfl)) (.cons (zar (e:=(eL (eI .i64))) (t:=true) (xs:=[]) rfl (.inr rfl) rfl rfl (λk h=>nomatch h) (λ_=>rfl)) .nil)))))) .nil)))
 have hwl:p0.row.toNat % x.rows.length<x.rows.length:=qbk _ (by omega);have hrr:p0.row.tmod (x.rows.length:Int)=((p0.row.toNat % x.rows.length:Nat):Int):=by
  rw[qc4 hr0,Int.natCast_emod,qb0 hr0]
 generalize hwg:p0.row.toNat % x.rows.length=w at hwl hrr h;rw[qac hwl]at h;simp only at h;refine EvL.jn (α:=Unit) (λ_=>⟨323,[(2,.ptr 0 0),(3,.ptr 1 0),(4,.ptr 2 0),(5,sN 3 3 p1.nodes.length)],[.cells [dU8 p0.what,dU8 p0.at_,dU8 p0.row,dI p0.n],.cells [dI p1.grain,fzE false zaa p1.nodes],.cells [dI 0,zhT],.grow 3 ((p1.nodes.map (zaa.c true)).set t [dI x.zap,sN 5 1 x.parents.length,sN 6 1 x.rows.length]),.gone,gP x.parents,.grow 1 ((x.rows.map fzR).set w [sN 7 1 x.rows[w].length]),.grow 1 (x.rows[w].map ((eI .i64).c true))]⟩) (λ_=>True) ?_ (λ_ _=>?_)
 .refine wSM ?_;refine EvL.ze4 (zbH.ghost (n:=3) (k:=5) (by decide) rfl) ?_;refine EvL.ze4 (S':=⟨323,[(2,.ptr 0 0),(3,.ptr 1 0),(4,.ptr 2 0),(5,sN 3 3 0),(6,dI ((0:Nat):Int))],[.cells [dU8 p0.what,dU8 p0.at_,dU8 p0.row,dI p0.n],.cells [dI p1.grain,fzE false zaa p1.nodes],.cells [dI 0,zhT],.grow 3 []]⟩) (wm0 [.k,.k,.k,.k] ⟨.same (hb0 _),MB.cs ⟨qdy,qdy,qdy⟩,.same (hb2 _),MB.gs zaa true [],qdy⟩) ?_;refine zyF hb0 hb2 hgk hfit (Nat.le_of_lt htl) hn56 _ 0 [] rfl (qau _) rfl KB.nil ?_;rw[show([]:List (List D))++ ((p1.nodes.drop 0).take (t - 0)).map (zaa.c true)=(p1.nodes.take t).map (zaa.c true) by simp];refine zAJ hb0 hb2 hgk (KB.map _ _ _) g3 (by simp; omega) htl hn56 hf hwl ?_;rw[show((x.rows.take w).map fzR ++ [[sN 7 1 x.rows[w].length]]++ (x.rows.drop (w+1)).map fzR)=(x.rows.map fzR).set w [sN 7 1 x.rows[w].length] by rw[qc0,List.map_drop]; exact zgA (by simpa using hwl)];have hP6:KB 8 ((x.rows.map fzR).set w [sN 7 1 x.rows[w].length]):=ztj KB.fz λkp hk=>⟨hk 7 (by decide),qdy⟩
  have hES:KB 8 ((p1.nodes.map (zaa.c true)).set t [dI x.zap,sN 5 1 x.parents.length,sN 6 1 x.rows.length]):=ztj (KB.map _ _ _) λkp hk=>⟨qdy,hk 5 (by decide),hk 6 (by decide),qdy⟩
  refine zCr hb0 hb2 hgk (KB.map _ _ _) hP6 (KB.map _ _ _) hfit (qap _) hn56 _ (t+1) _ rfl htl (by simp; omega) (KB.app (KB.map _ _ _) (KB.one λkp hk=>⟨qdy,hk 5 (by decide),hk 6 (by decide),qdy⟩)) ?_;rw[show(p1.nodes.take t).map (zaa.c true)++ [[dI x.zap,sN 5 1 x.parents.length,sN 6 1 x.rows.length]]++ ((p1.nodes.drop (t+1)).take (p1.nodes.length - (t+1))).map (zaa.c true)=(p1.nodes.map (zaa.c true)).set t [dI x.zap,sN 5 1 x.parents.length,sN 6 1 x.rows.length] by rw[qaO (l:=p1.nodes.drop (t+1)) (by simp),qc0,List.map_drop]; exact zgA (by simpa using htl)];exact zC2 hb0 hb2 hgk hES (KB.map _ _ _) hP6 (KB.map _ _ _) rfl
 have hne:(((p1.nodes.length:Nat):Int)== 0)=false:=by rw[qdE]; omega
 have hlt0:(0:Int)<=(t:Int):=by omega
 have hlt1:(t:Int)<((p1.nodes.length:Nat):Int):=by omega
 have hw0:(0:Int)<=(w:Int):=by omega
 have hw1:(w:Int)<((x.rows.length:Nat):Int):=by omega
 have hnr:(((x.rows.length:Nat):Int)== 0)=false:=by rw[qdE]; omega
 have hpos:decide ((0:Int)<((x.rows.length:Nat):Int))=true:=qdB (by omega);have hgs3:∀ C:List D,((p1.nodes.map (zaa.c true)).set t C)[t]? = some C:=λC=>by rw[qaE (by simpa using htl)]
 have hgs6:∀ C:List D,((x.rows.map fzR).set w C)[w]? = some C:=λC=>by rw[qaE (by simpa using hwl)]
 refine zad ?_;simp only[rnA,Nat.reduceEqDiff,Nat.reduceLT,Nat.reduceAdd,Nat.reduceLeDiff,hat,hrem,hlt0,hlt1,hne,hgs3,qat,qaG];simp only[zlH,zh3];have hw00:(0:Int)<=((x.rows[w].length:Nat):Int):=qbL _;have hwr:((x.rows[w].length:Nat):Int)* ((8:Nat):Int)<=((zac:Nat):Int):=by have:=hf.row _ (qao hwl); omega
 have hrep:∀ n:Nat,(((n:Nat):Int)).toNat=n:=λn=>qaG n
 have hrow7:=hf.row _ (qao hwl);have hwn:IntKind.i64.wrap (((p1.nodes.length:Nat):Int) - 1)=((p1.nodes.length - 1:Nat):Int):=by rw[wrap64 (by omega) (by omega)]; try omega
 have h11:((p1.nodes.length - 1:Nat):Int)<=((p1.nodes.length:Nat):Int):=by omega
 have hb11:bounds p1.nodes.length none none (some ((p1.nodes.length - 1:Nat):Int)) none=some (0,p1.nodes.length - 1,none):=by simp[bounds,zeD,h11]
 have hfn1:(p1.nodes.length+1)* 56<=zac:=hn56;have hw01:decide ((0:Int)<=(w:Int))=true:=qdB (by omega);have h55:(w:Int)<=((x.rows.length:Nat):Int):=by omega
 have hb5:bounds x.rows.length none none (some (w:Int)) none=some (0,w,none):=by simp[bounds,zeD,h55]
 refine EvL.scope (zad ?_);simp only[rnA,Nat.reduceEqDiff,Nat.reduceLT,Int.reduceBEq,hgs3,qat,hpos,hrow,hrr,hnr];obtain rfl | rfl | rfl | rfl | rfl | rfl | rfl | rfl | rfl | rfl | rfl | rfl:k=0\/k=1\/k=2\/k=3\/k=4\/k=5\/k=6\/k=7\/k=8\/k=9\/k=10\/k=11:=by omega
 .have hk:p0.what.tmod 12=0:=hk12;replace h:=qaf h; subst h;refine EvL.scope (zad ?_);refine sXM hk ?_;exact zeJ.ret rfl (.zga (.cons (.lit _) (.cons (zau (e:=zaa) rfl (.inr rfl) (by simp) (by simp) (λk h=>nomatch h) (zdz htl (by rw[hx]; exact(.cons (.lit _) (.cons (zar (e:=(eI .i64)) (t:=true) rfl (.inr rfl) rfl rfl (λk h=>nomatch h) (λ_=>rfl)) (.cons (zau (e:=(eL (eI .i64))) rfl (.inr rfl) (by simp) (by simp) (λk h=>nomatch h) (zdM hwl (.cons (zar (e:=(eI .i64)) (t:=true) rfl (.inr rfl) rfl rfl (λk h=>nomatch h) (λ_=>rfl)) .nil))) .nil)))))) .nil)))
 .have hk:p0.what.tmod 12=1:=hk12;obtain rfl:=qaf h;refine EvL.scope (zad ?_);simp only[rnA,Nat.reduceEqDiff,Nat.reduceLT,Nat.reduceAdd,Nat.reduceLeDiff,Int.reduceBEq,hgs3,qat,qb3,hk];exact zeJ.ret rfl (.zga (.cons (.lit _) (.cons (zau (e:=zaa) rfl (.inr rfl) (by simp) (by simp) (λk h=>nomatch h) (zeC (.cons (.lit _) (.cons (zar (e:=(eI .i64)) (t:=true) rfl (.inr rfl) rfl rfl (λk h=>nomatch h) (λ_=>rfl)) (.cons (zau (e:=(eL (eI .i64))) rfl (.inr rfl) (by simp) (by simp) (λk h=>nomatch h) (zdM hwl (.cons (zar (e:=(eI .i64)) (t:=true) rfl (.inr rfl) rfl rfl (λk h=>nomatch h) (λ_=>rfl)) .nil))) .nil))))) .nil)))
 .have hk:p0.what.tmod 12=2:=hk12;obtain rfl:=qaf h;refine EvL.scope (zad ?_);simp only[rnA,Nat.reduceEqDiff,Nat.reduceLT,Nat.reduceAdd,Nat.reduceLeDiff,Int.reduceBEq,hgs3,qat,qb3,hk,hf.ps];exact zeJ.ret rfl (.zga (.cons (.lit _) (.cons (zau (e:=zaa) rfl (.inr rfl) (by simp) (by simp) (λk h=>nomatch h) (zeC (.cons (.lit _) (.cons (zar (e:=(eI .i64)) (t:=true) (xs:=x.parents ++ [p0.n]) rfl (.inr (by simp; rfl)) (by simp) (by simp) (λk h=>nomatch h) (λ_=>rfl)) (.cons (zau (e:=(eL (eI .i64))) rfl (.inr rfl) (by simp) (by simp) (λk h=>nomatch h) (zdM hwl (.cons (zar (e:=(eI .i64)) (t:=true) rfl (.inr rfl) rfl rfl (λk h=>nomatch h) (λ_=>rfl)) .nil))) .nil))))) .nil)))
 .have hk:p0.what.tmod 12=3:=hk12;obtain rfl:=qaf h;refine EvL.scope (zad ?_);simp only[rnA,Nat.reduceEqDiff,Nat.reduceLT,Nat.reduceAdd,Nat.reduceLeDiff,Int.reduceBEq,hgs3,qat,qb3,hk];exact zeJ.ret rfl (.zga (.cons (.lit _) (.cons (zau (e:=zaa) rfl (.inr rfl) (by simp) (by simp) (λk h=>nomatch h) (zeC (.cons (.lit _) (.cons (zgB (eI .i64)) (.cons (zau (e:=(eL (eI .i64))) rfl (.inr rfl) (by simp) (by simp) (λk h=>nomatch h) (zdM hwl (.cons (zar (e:=(eI .i64)) (t:=true) rfl (.inr rfl) rfl rfl (λk h=>nomatch h) (λ_=>rfl)) .nil))) .nil))))) .nil)))
 .have hk:p0.what.tmod 12=4:=hk12;obtain rfl:=qaf h;refine EvL.scope (zad ?_);simp only[rnA,Nat.reduceEqDiff,Nat.reduceLT,Nat.reduceAdd,Nat.reduceLeDiff,Int.reduceBEq,hgs3,qat,qb3,hk,hf.rs];exact zeJ.ret rfl (.zga (.cons (.lit _) (.cons (zau (e:=zaa) rfl (.inr rfl) (by simp) (by simp) (λk h=>nomatch h) (zeC (.cons (.lit _) (.cons (zar (e:=(eI .i64)) (t:=true) rfl (.inr rfl) rfl rfl (λk h=>nomatch h) (λ_=>rfl)) (.cons (zau (e:=(eL (eI .i64))) (xs:=x.rows ++ [[p0.n]]) rfl (.inr rfl) (by simp) (by simp) (λk h=>nomatch h) (by rw[qbw]; exact ztU (zdM hwl (.cons (zar (e:=(eI .i64)) (t:=true) rfl (.inr rfl) rfl rfl (λk h=>nomatch h) (λ_=>rfl)) .nil)) (zhF (.cons (zar (e:=(eI .i64)) (t:=true) (xs:=[p0.n]) rfl (.inl rfl) rfl rfl (λk h=>by cases h; exact qap _) (λ_=>rfl)) .nil) .nil))) .nil))))) .nil)))
 .have hk:p0.what.tmod 12=5:=hk12;obtain rfl:=qaf h;refine EvL.scope (zad ?_);simp only[rnA,Nat.reduceEqDiff,Nat.reduceLT,Nat.reduceAdd,Nat.reduceLeDiff,Int.reduceBEq,hgs3,hw0,qat,qb3,hk,hb5];exact zeJ.ret rfl (.zga (.cons (.lit _) (.cons (zau (e:=zaa) rfl (.inr rfl) (by simp) (by simp) (λk h=>nomatch h) (zeC (.cons (.lit _) (.cons (zar (e:=(eI .i64)) (t:=true) rfl (.inr rfl) rfl rfl (λk h=>nomatch h) (λ_=>rfl)) (.cons (zjK (e:=(eL (eI .i64))) (xs:=x.rows.take w) rfl (.inr rfl) (by simp) (by simp<;>omega) (λk h=>nomatch h) (by rw[qc0]; refine zog (zdM hwl ?_) w; exact(.cons (zar (e:=(eI .i64)) (t:=true) rfl (.inr rfl) rfl rfl (λk h=>nomatch h) (λ_=>rfl)) .nil))) .nil))))) .nil)))
 .have hk:p0.what.tmod 12=6:=hk12;simp only[zsi]at h;have hgt:∀ b:Bool,x.rows[w].isEmpty=b->decide ((0:Int)<((x.rows[w].length:Nat):Int))=!b:=by
   intro b hb;cases hxr:x.rows[w]with
   | nil=>rw[hxr]at hb; subst hb; rfl
   | cons a l=>rw[hxr]at hb; subst hb; simp<;>omega
  refine EvL.scope (zad ?_);cases he:x.rows[w].isEmpty with
  | true=>
   rw[he,qdz]at h;obtain rfl:=qaf h;have hd:=hgt _ he;refine sXM hk ?_;refine EvL.scope (zad ?_);simp only[rnA,Nat.reduceEqDiff,Nat.reduceLT,Nat.reduceAdd,Nat.reduceLeDiff,hgs3,hgs6,hw0,hw1,qat,qaG,hd];exact zeJ.ret rfl (.zga (.cons (.lit _) (.cons (zau (e:=zaa) rfl (.inr rfl) (by simp) (by simp) (λk h=>nomatch h) (zdz htl (by rw[hx]; exact(.cons (.lit _) (.cons (zar (e:=(eI .i64)) (t:=true) rfl (.inr rfl) rfl rfl (λk h=>nomatch h) (λ_=>rfl)) (.cons (zau (e:=(eL (eI .i64))) rfl (.inr rfl) (by simp) (by simp) (λk h=>nomatch h) (zdM hwl (.cons (zar (e:=(eI .i64)) (t:=true) rfl (.inr rfl) rfl rfl (λk h=>nomatch h) (λ_=>rfl)) .nil))) .nil)))))) .nil)))
  | false=>
   rw[he,qdA]at h;obtain rfl:=qaf h;have hd:=hgt _ he;have hrl0:(0:Int)<((x.rows[w].length:Nat):Int):=by simpa using hd
   have hrp0:(List.replicate x.rows[w].length [D.lit (.int .i64 0)])[0]? = some [D.lit (.int .i64 0)]:=by rw[qbT,if_pos (by omega)]
   have hr0:(x.rows[w].map ((eI .i64).c true))[0]? = some [dI (x.rows[w].headD 0)]:=by
    cases hxr:x.rows[w]with
    | nil=>rw[hxr]at he; cases he
    | cons a l=>rfl
   refine sXM hk ?_;refine EvL.scope (zad ?_);simp only[rnA,Nat.reduceEqDiff,Nat.reduceLT,Nat.reduceAdd,Nat.reduceLeDiff,hgs3,hgs6,hw0,hw1,qat,hrl0,hr0,qdp,hrep,qcV];exact zeJ.ret rfl (.zga (.cons (.lit _) (.cons (zau (e:=zaa) rfl (.inr rfl) (by simp) (by simp) (λk h=>nomatch h) (zeC (.cons (.lit _) (.cons (zar (e:=(eI .i64)) (t:=true) rfl (.inr rfl) rfl rfl (λk h=>nomatch h) (λ_=>rfl)) (.cons (zau (e:=(eL (eI .i64))) (xs:=x.rows.set w (x.rows[w].set 0 p0.n)) rfl (.inr rfl) (by simp) (by simp) (λk h=>nomatch h) (zjN (.cons (zar (e:=(eI .i64)) (t:=true) (xs:=x.rows[w].set 0 p0.n) rfl (.inr (by rw[qdh]; rfl)) (by simp) (by simp) (by intro k h; cases h) (λ_=>rfl)) .nil))) .nil))))) .nil)))
 .have hk:p0.what.tmod 12=7:=hk12;obtain rfl:=qaf h;refine EvL.scope (zad ?_);simp only[rnA,Nat.reduceEqDiff,Nat.reduceLT,Nat.reduceAdd,Nat.reduceLeDiff,Int.reduceBEq,Nat.reduceBEq,hgs3,hgs6,hw0,hw1,qat,qaG,qb3,hk,hrow7];exact zeJ.ret rfl (.zga (.cons (.lit _) (.cons (zau (e:=zaa) rfl (.inr rfl) (by simp) (by simp) (λk h=>nomatch h) (zeC (.cons (.lit _) (.cons (zar (e:=(eI .i64)) (t:=true) rfl (.inr rfl) rfl rfl (λk h=>nomatch h) (λ_=>rfl)) (.cons (zau (e:=(eL (eI .i64))) (xs:=x.rows.set w (x.rows[w]++ [0])) rfl (.inr rfl) (by simp) (by simp) (λk h=>nomatch h) (zjN (.cons (zar (e:=(eI .i64)) (t:=true) (xs:=x.rows[w]++ [0]) rfl (.inr (by simp; rfl)) (by simp) (by simp) (λk h=>nomatch h) (λ_=>rfl)) .nil))) .nil))))) .nil)))
 .have hk:p0.what.tmod 12=8:=hk12;simp only[zsi]at h;have hgt:∀ b:Bool,x.rows[w].isEmpty=b->decide ((0:Int)<((x.rows[w].length:Nat):Int))=!b:=by
   intro b hb;cases hxr:x.rows[w]with
   | nil=>rw[hxr]at hb; subst hb; rfl
   | cons a l=>rw[hxr]at hb; subst hb; simp<;>omega
  refine EvL.scope (zad ?_);cases he:x.rows[w].isEmpty with
  | true=>
   rw[he,qdz]at h;obtain rfl:=qaf h;have hd:=hgt _ he;refine sXM hk ?_;refine EvL.scope (zad ?_);simp only[rnA,Nat.reduceEqDiff,Nat.reduceLT,Nat.reduceAdd,Nat.reduceLeDiff,hgs3,hgs6,hw0,hw1,qat,qaG,hd];exact zeJ.ret rfl (.zga (.cons (.lit _) (.cons (zau (e:=zaa) rfl (.inr rfl) (by simp) (by simp) (λk h=>nomatch h) (zdz htl (by rw[hx]; exact(.cons (.lit _) (.cons (zar (e:=(eI .i64)) (t:=true) rfl (.inr rfl) rfl rfl (λk h=>nomatch h) (λ_=>rfl)) (.cons (zau (e:=(eL (eI .i64))) rfl (.inr rfl) (by simp) (by simp) (λk h=>nomatch h) (zdM hwl (.cons (zar (e:=(eI .i64)) (t:=true) rfl (.inr rfl) rfl rfl (λk h=>nomatch h) (λ_=>rfl)) .nil))) .nil)))))) .nil)))
  | false=>
   rw[he,qdA]at h;obtain rfl:=qaf h;have hd:=hgt _ he;have hrl0:(0:Int)<((x.rows[w].length:Nat):Int):=by simpa using hd
   have hrp0:(List.replicate x.rows[w].length [D.lit (.int .i64 0)])[0]? = some [D.lit (.int .i64 0)]:=by rw[qbT,if_pos (by omega)]
   have hr0:(x.rows[w].map ((eI .i64).c true))[0]? = some [dI (x.rows[w].headD 0)]:=by
    cases hxr:x.rows[w]with
    | nil=>rw[hxr]at he; cases he
    | cons a l=>rfl
   refine sXM hk ?_;refine EvL.scope (zad ?_);simp only[rnA,Nat.reduceEqDiff,Nat.reduceLT,Nat.reduceAdd,Nat.reduceLeDiff,hgs3,hgs6,hw0,hw1,qat,qb3,hrl0,hwr,qdp,hrep,hw00,qcV,qcW,hrp0];exact zeJ.ret rfl (.zga (.cons (.lit _) (.cons (zau (e:=zaa) rfl (.inr rfl) (by simp) (by simp) (λk h=>nomatch h) (zeC (.cons (.lit _) (.cons (zar (e:=(eI .i64)) (t:=true) rfl (.inr rfl) rfl rfl (λk h=>nomatch h) (λ_=>rfl)) (.cons (zau (e:=(eL (eI .i64))) (xs:=x.rows.set w ((List.replicate x.rows[w].length 0).set 0 p1.grain)) rfl (.inr rfl) (by simp) (by simp) (λk h=>nomatch h) (zjN (.cons (zar (e:=(eI .i64)) (t:=true) (xs:=(List.replicate x.rows[w].length 0).set 0 p1.grain) rfl (.inl (by rw[qdh,qcT]; rfl)) (by simp) (by simp) (λk h=>by cases h; exact qap _) (λ_=>rfl)) .nil))) .nil))))) .nil)))
 .have hk:p0.what.tmod 12=9:=hk12;simp only[zsi]at h;obtain⟨r2,hsw,rfl⟩:=qaj.1 h;have hP6:KB 8 ((x.rows.map fzR).set w [sN 7 1 x.rows[w].length]):=ztj KB.fz λkp hk=>⟨hk 7 (by decide),qdy⟩
  have hES:KB 8 ((p1.nodes.map (zaa.c true)).set t [dI x.zap,sN 5 1 x.parents.length,sN 6 1 x.rows.length]):=ztj (KB.map _ _ _) λkp hk=>⟨qdy,hk 5 (by decide),hk 6 (by decide),qdy⟩
  refine EvL.scope (zad ?_);simp only[rnA,Nat.reduceEqDiff,Nat.reduceLT,Int.reduceBEq,hgs3,hgs6,hw0,hw1,qat,qaG,hk];refine EvL.jn (α:=Unit) (λ_=>⟨323,[(2,.ptr 0 0),(3,.ptr 1 0),(4,.ptr 2 0)],[.cells [dU8 p0.what,dU8 p0.at_,dU8 p0.row,dI p0.n],.cells [dI p1.grain,sN 3 3 p1.nodes.length],.cells [dI 0,zhT],.grow 3 ((p1.nodes.map (zaa.c true)).set t [dI x.zap,sN 5 1 x.parents.length,sN 6 1 x.rows.length]),.gone,gP x.parents,.grow 1 ((x.rows.map fzR).set w [sN 7 1 x.rows[w].length]),.grow 1 (r2.map ((eI .i64).c true))]⟩) (λ_=>r2.length=x.rows[w].length) ?_ ?_
  .refine wSM ?_;obtain⟨T,hT⟩:∃ T:Int×Int×List Int->LSt,T=(λa=>⟨323,[(2,.ptr 0 0),(3,.ptr 1 0),(4,.ptr 2 0),(10,.eptr 3 3 t 0 p1.nodes.length),(11,dI w),(12,dI a.1),(13,dI a.2.1)],[.cells [dU8 p0.what,dU8 p0.at_,dU8 p0.row,dI p0.n],.cells [dI p1.grain,sN 3 3 p1.nodes.length],.cells [dI 0,zhT],.grow 3 ((p1.nodes.map (zaa.c true)).set t [dI x.zap,sN 5 1 x.parents.length,sN 6 1 x.rows.length]),.gone,gP x.parents,.grow 1 ((x.rows.map fzR).set w [sN 7 1 x.rows[w].length]),.grow 1 (a.2.2.map ((eI .i64).c true))]⟩):=⟨_,rfl⟩;refine EvL.rounds T (λn a=>swL n a.1 a.2.1 a.2.2=some r2/\a.2.2.length=x.rows[w].length) (x.rows[w].length+2) (0,w64 (((x.rows[w].length:Nat):Int) - 1),x.rows[w]) (by rw[hT]; exact wm0 [.k,.k,.k,.k,.k,.k,.k,.k] ⟨.same (hb0 _),⟨MB.cs ⟨qdy,rfl,qdy⟩,⟨.same (hb2 _),⟨MB.za1 (Mt.zbD (hES _ (by decide))),⟨MB.same trivial,⟨MB.gs (eI .i64) true x.parents,⟨MB.za1 (Mt.zbD (hP6 _ (by decide))),⟨MB.gs (eI .i64) true x.rows[w],qdy⟩⟩⟩⟩⟩⟩⟩⟩) ⟨hsw,rfl⟩ (λ_ h=>nomatch h.1) ?_;rintro n ⟨i,k,a⟩ ⟨h1,hal⟩;simp only at h1 hal;rw[congrFun hT (i,k,a)]
   conv=>enter [3,1,1]; simp only[zxQ,zh3]
   simp only[swL]at h1;refine zad ?_;cases c1:decide (i<k)with
   | false=>
    rw[c1,qdA]at h1;cases h1;refine sXM c1 ?_;exact⟨(),hal,wm0 [.k,.k,.k,.k,.k,.k,.k,.k] ⟨.same (hb0 _),⟨MB.cs ⟨qdy,rfl,qdy⟩,⟨.same (hb2 _),⟨MB.za1 (Mt.zbD (hES _ (by decide))),⟨MB.same trivial,⟨MB.gs (eI .i64) true x.parents,⟨MB.za1 (Mt.zbD (hP6 _ (by decide))),⟨MB.gs (eI .i64) true r2,qdy⟩⟩⟩⟩⟩⟩⟩⟩⟩
   | true=>
    rw[c1,qdz]at h1;obtain⟨x1,g1,h1⟩:=bsM h1;obtain⟨y1,g2,h1⟩:=bsM h1;obtain⟨r1,g3',h1⟩:=bsM h1;obtain⟨r3,g4,h1⟩:=bsM h1;have g2r:zaz r1 k=some y1:=by
     have hi0:=zbp g1;have hik:=qdG c1;rw[(zl7 g3').2];unfold zaz at g2 ⊢;rw[if_pos (by omega)]at g2 ⊢;rw[qar (by omega)];exact g2
    have l1:r1.length=x.rows[w].length:=(zbU g3').trans hal;have l3:r3.length=x.rows[w].length:=(zbU g4).trans l1;simp only[rnA,Nat.reduceEqDiff,Nat.reduceLT,Nat.reduceLeDiff,hgs3,hgs6,hw0,hw1,qat,qaG,c1,hal,l1,zbp g1,zbp g2,(ltM hal g1),(ltM hal g2),giM g1,giM g2,giM g2r,(show(a.map ((eI .i64).c true)).set i.toNat [dI y1]=r1.map ((eI .i64).c true)from zf8 g3' ((eI .i64).c true)),(siM g4)];exact⟨(w64 (i+1),w64 (k - 1),r3),⟨h1,l3⟩,by rw[hT]; exact wm0 [.k,.k,.k,.k,.k,.k,.k,.k] ⟨.same (hb0 _),⟨MB.cs ⟨qdy,rfl,qdy⟩,⟨.same (hb2 _),⟨MB.za1 (Mt.zbD (hES _ (by decide))),⟨MB.same trivial,⟨MB.gs (eI .i64) true x.parents,⟨MB.za1 (Mt.zbD (hP6 _ (by decide))),⟨MB.gs (eI .i64) true r3,qdy⟩⟩⟩⟩⟩⟩⟩⟩⟩
  rintro _ hl2;refine wSM ?_;exact zeJ.ret rfl (.zga (.cons (.lit _) (.cons (zau (e:=zaa) rfl (.inr rfl) (by simp) (by simp) (λk h=>nomatch h) (zeC (.cons (.lit _) (.cons (zar (e:=(eI .i64)) (t:=true) rfl (.inr rfl) rfl rfl (λk h=>nomatch h) (λ_=>rfl)) (.cons (zau (e:=(eL (eI .i64))) (xs:=x.rows.set w (r2)) rfl (.inr rfl) (by simp) (by simp) (λk h=>nomatch h) (zjN (.cons (zar (e:=(eI .i64)) (t:=true) (xs:=r2) rfl (.inr rfl) (by rw[hl2]) (by rw[hl2]) (λk h=>nomatch h) (λ_=>rfl)) .nil))) .nil))))) .nil)))
 .have hk:p0.what.tmod 12=10:=hk12;obtain rfl:=qaf h;refine EvL.scope (zad ?_);simp only[rnA,Nat.reduceEqDiff,Nat.reduceLT,Nat.reduceAdd,Nat.reduceLeDiff,Int.reduceBEq,qat,hk,hfn1];exact zeJ.ret rfl (.zga (.cons (.lit _) (.cons (zau (e:=zaa) (xs:=p1.nodes ++ [⟨1,[],[[p1.grain]]⟩]) rfl (.inr rfl) (by simp) (by simp) (by intro k h; cases h) (by rw[qbw]; refine ztU (zdz htl ?_) ?_; (rw[hx]; exact(.cons (.lit _) (.cons (zar (e:=(eI .i64)) (t:=true) rfl (.inr rfl) rfl rfl (λk h=>nomatch h) (λ_=>rfl)) (.cons (zau (e:=(eL (eI .i64))) rfl (.inr rfl) (by simp) (by simp) (λk h=>nomatch h) (zdM hwl (.cons (zar (e:=(eI .i64)) (t:=true) rfl (.inr rfl) rfl rfl (λk h=>nomatch h) (λ_=>rfl)) .nil))) .nil)))); exact(zhF (.cons (.lit _) (.cons (zgB (eI .i64)) (.cons (zau (e:=(eL (eI .i64))) (xs:=[[p1.grain]]) rfl (.inl rfl) rfl rfl (λk h=>by cases h; exact qap _) (zhF (.cons (zar (e:=(eI .i64)) (t:=true) (xs:=[p1.grain]) rfl (.inl rfl) rfl rfl (λk h=>by cases h; exact qap _) (λ_=>rfl)) .nil) .nil)) .nil))) .nil))) .nil)))
 have hk:p0.what.tmod 12=11:=hk12;obtain rfl:=qaf h;refine EvL.scope (zad ?_);simp only[rnA,Nat.reduceEqDiff,Nat.reduceLT,Nat.reduceAdd,Nat.reduceLeDiff,Int.reduceBEq,qat,hk,hb11,hwn];exact zeJ.ret rfl (.zga (.cons (.lit _) (.cons (zjK (e:=zaa) (xs:=p1.nodes.take (p1.nodes.length - 1)) rfl (.inr rfl) (by simp) (by simp) (by intro k h; cases h) (by rw[qc0]; refine zog (zdz htl ?_) _; rw[hx]; exact(.cons (.lit _) (.cons (zar (e:=(eI .i64)) (t:=true) rfl (.inr rfl) rfl rfl (λk h=>nomatch h) (λ_=>rfl)) (.cons (zau (e:=(eL (eI .i64))) rfl (.inr rfl) (by simp) (by simp) (λk h=>nomatch h) (zdM hwl (.cons (zar (e:=(eI .i64)) (t:=true) rfl (.inr rfl) rfl rfl (λk h=>nomatch h) (λ_=>rfl)) .nil))) .nil))))) .nil)))
def zdZ(zaK steps:List Int):Option (List Int×List Int):=some (zaK,steps)
end Go.Dc
