/-
 What r02_Size computes. Conditions: none.
-/
import Derived.Test.YtbjogdohfhdaiaaGreatETDm
set_option linter.unusedSimpArgs false
set_option linter.unusedVariables false
set_option maxRecDepth 100000
set_option maxHeartbeats 4000000
namespace Go.Dc
open Go Go.Mx Go.Lx Go.Proofs
def zdW(p0:(List Int)):Nat->Int->Int->Option Int
 | 0,_,_=>none
 | n+1,v3,v4=>(
bif (decide (v4<(p0.length:Int)))then(
(zaO p0 v4).bind λx2=>
zdW p0 n (w64 (v3 * x2)) (w64 (v4+1)))
else(
some v3))
def zfm(p0:(List Int)):Option Int:=
((zdW p0 ((p0.length:Int) - 0+2:Int).toNat 1 0:Option Int)).bind λv3=>
some v3
variable{p0:(List Int)}
theorem zoX{r:Int}(h:zfm p0=some r):Lx.Fn mC 36 [(fzE false (eI .i64) p0)] (dI r):=by
 refine gnO ?_;unfold zfm at h;refine wSM ?_;obtain⟨o1,j1,h⟩:=bsM h;obtain⟨T1,hT1⟩:=mkT λa:Int=>⟨18,[(3,(dI a))],[]⟩
 refine EvL.jn T1 (λa=>a=o1) ?_ ?_
 .refine wSM ?_;obtain⟨T2,hT2⟩:=mkT λa:(Int×Int)=>⟨18,[(0,(fzE false (eI .i64) p0)),(3,(dI a.1)),(4,(dI a.2))],[]⟩
  refine rdM hT2 (λn a=>zdW p0 n a.1 a.2=some o1) (1,0) j1 ?_;rintro n ⟨v3,v4⟩ j1;simp only[zdW]at j1;refine wTM hT2 ?_;refine cBM j1 (λ_ j1=>?_) λ_ j1=>?_
  .exact zef j1 hT1
  obtain⟨x2,g3,j1⟩:=bsM j1;refine sXM (ixM g3) ?_;exact zda hT2 ((w64 (v3 * x2)),(w64 (v4+1))) j1
 rintro v3 rfl;refine wTM hT1 ?_;exact rHM h
def zfd(p1:(List Int))(p0:(List Int)):Nat->Int->(List Int)->Option (List Int)
 | 0,_,_=>none
 | n+1,v6,l0=>(
bif (decide (v6<(p1.length:Int)))then(
(zaO p1 v6).bind λx2=>
(zaO p0 x2).bind λx4=>
(zdi 8 l0 [x4]).bind λy6=>
zfd p1 p0 n (w64 (v6+1)) y6)
else(
some l0))
def zhE(p0:(List Int))(p1:(List Int)):Option (List Int):=
((zfd p1 p0 ((p1.length:Int) - 0+2:Int).toNat 0 []:Option (List Int))).bind λl0=>
some l0
variable{r:(List Int)}
theorem zuD{p1:(List Int)}(h:zhE p0 p1=some r):Lx.Fn mC 65 [(fzE false (eI .i64) p0),(fzE false (eI .i64) p1)] (fzE true (eI .i64) r):=by
 refine gnO ?_;unfold zhE at h;refine wSM ?_;obtain⟨o1,j1,h⟩:=bsM h;obtain⟨T1,hT1⟩:=mkT λa:(List Int)=>⟨24,[(5,(.sl 0 0 1 a.length none a.length))],[.grow 1 (a.map ((eI .i64).c true))]⟩
 refine EvL.jn T1 (λa=>a=o1) ?_ ?_
 .refine wSM ?_;obtain⟨T2,hT2⟩:=mkT λa:(Int×(List Int))=>⟨24,[(0,(fzE false (eI .i64) p0)),(1,(fzE false (eI .i64) p1)),(5,(.sl 0 0 1 a.2.length none a.2.length)),(6,(dI a.1))],[.grow 1 (a.2.map ((eI .i64).c true))]⟩
  refine EvL.zgK (za8.ghost (n:=1) (k:=5) (by decide) rfl) ?_;refine EvL.rounds (α:=(Int×(List Int))) T2 (λn a=>zfd p1 p0 n a.1 a.2=some o1) ((p1.length:Int) - 0+2:Int).toNat (0,[]) (by rw[hT2]; exact wm0 [.k] ⟨MB.gs (eI .i64) true [],qdv⟩) j1 (λ_ h=>nomatch (show(none:Option (List Int))=some o1 from h)) ?_;rintro n ⟨v6,l0⟩ j1;simp only[zfd]at j1;refine wTM hT2 ?_;refine cBM j1 (λ_ j1=>?_) λ_ j1=>?_
  .exact zef j1 hT1
  obtain⟨x2,g3,j1⟩:=bsM j1;obtain⟨x4,g5,j1⟩:=bsM j1;obtain⟨y6,g7,j1⟩:=bsM j1;refine sXM (anM (ixM g3) (anM (ixM g5) (anM (zbN g7) (anM (plM g7) (piM g7))))) ?_;exact zda hT2 ((w64 (v6+1)),y6) j1
 rintro l0 rfl;refine wTM hT1 ?_;exact rHM h
def zdt(p0:S_api_Net):Nat->Int->(List Int)->Option (List Int)
 | 0,_,_=>none
 | n+1,v4,l1=>(
bif (decide (v4<(p0.nodes.length:Int)))then(
(zaO p0.nodes v4).bind λx2=>
(zdi 8 l1 [x2.zaC]).bind λy4=>
zdt p0 n (w64 (v4+1)) y4)
else(
some l1))
def zeH(p0:S_api_Net):Option (List Int):=
((zdt p0 ((p0.nodes.length:Int) - 0+2:Int).toNat 0 []:Option (List Int))).bind λl1=>
some l1
theorem zn6{p0:S_api_Net}(h:zeH p0=some r):Lx.Fn mC 66 [(.agg [(dI p0.grain),(fzE false zac p0.nodes)])] (fzE true (eI .i64) r):=by
 refine gnO ?_;unfold zeH at h;refine wSM ?_;obtain⟨o1,j1,h⟩:=bsM h;obtain⟨T1,hT1⟩:=mkT λa:(List Int)=>⟨22,[(3,(.sl 1 0 1 a.length none a.length))],[.gone,.grow 1 (a.map ((eI .i64).c true))]⟩
 refine EvL.jn T1 (λa=>a=o1) ?_ ?_
 .refine wSM ?_;obtain⟨T2,hT2⟩:=mkT λa:(Int×(List Int))=>⟨22,[(1,(.ptr 0 0)),(3,(.sl 1 0 1 a.2.length none a.2.length)),(4,(dI a.1))],[.cells [(dI p0.grain),(fzE false zac p0.nodes)],.grow 1 (a.2.map ((eI .i64).c true))]⟩
  refine EvL.zgK (za8.ghost (n:=1) (k:=3) (by decide) rfl) ?_;refine EvL.rounds (α:=(Int×(List Int))) T2 (λn a=>zdt p0 n a.1 a.2=some o1) ((p0.nodes.length:Int) - 0+2:Int).toNat (0,[]) (by rw[hT2]; exact wm0 [.k,.k] ⟨MB.cs ⟨qdv,qdv,qdv⟩,⟨MB.gs (eI .i64) true [],qdv⟩⟩) j1 (λ_ h=>nomatch (show(none:Option (List Int))=some o1 from h)) ?_;rintro n ⟨v4,l1⟩ j1;simp only[zdt]at j1;refine wTM hT2 ?_;refine cBM j1 (λ_ j1=>?_) λ_ j1=>?_
  .exact zef j1 hT1
  obtain⟨x2,g3,j1⟩:=bsM j1;obtain⟨y4,g5,j1⟩:=bsM j1;refine sXM (anM @zaM (anM (zbo (n:=3) (e:=zac) rfl g3) (anM (zbN g5) (anM (plM g5) (piM g5))))) ?_;exact zda hT2 ((w64 (v4+1)),y4) j1
 rintro l1 rfl;refine wTM hT1 ?_;exact rHM h
def zds(p1:Int)(p2:(List Int))(p3:Int):Nat->Int->Int->(List Int)->Option (Int×(List Int))
 | 0,_,_,_=>none
 | n+1,v10,v11,l0=>(
bif (decide (v11<p1))then(
((bif (decide (0<(p2.length:Int)))then(
(zqt (w64 (p3+v11)) (p2.length:Int)).bind λq5=>
(zaO p2 q5).bind λx7=>
(zaO l0 v11).bind λx9=>
(ze5 l0 v11 (w64 (x7.tmod 8))).bind λy11=>
some y11)
else(
some l0):Option (List Int))).bind λl0'=>
(zaO l0' v11).bind λx13=>
zds p1 p2 p3 n (w64 (v10+x13)) (w64 (v11+1)) l0')
else(
some (v10,l0)))
def zdN(p1:Int)(p0:Int)(v10:Int):Nat->Int->Int->Int->(List Int)->Option (Int×Int×(List Int))
 | 0,_,_,_,_=>none
 | n+1,v12,v13,v14,l0'=>(
bif (decide (v14<p1))then(
(zaO l0' v14).bind λx16=>
((bif (decide (0<x16))then(
(zrD .i64 (w64 (p0 * x16)) v10).bind λq19=>
(ze5 l0' v14 q19).bind λy21=>
some (v14,y21))
else(
some (v13,l0')):Option ((Int×(List Int))))).bind λo=>match o with
|(v13',l0'')=>(
(zaO l0'' v14).bind λx23=>
zdN p1 p0 v10 n (w64 (v12 - x23)) v13' (w64 (v14+1)) l0''))
else(
some (v12,v13,l0')))
def zf6(p0:Int)(p1:Int)(p2:(List Int))(p3:Int):Option (List Int):=
(zeh 8 p1 0).bind λy1=>
((zds p1 p2 p3 (p1 - 0+2:Int).toNat 0 0 y1:Option ((Int×(List Int))))).bind λo=>match o with
|(v10,l0)=>(
((zdN p1 p0 v10 (p1 - 0+2:Int).toNat p0 0 0 l0:Option ((Int×Int×(List Int))))).bind λo=>match o with
|(v12,v13,l0')=>(
(zaO l0' v13).bind λx25=>
(ze5 l0' v13 (w64 (x25+v12))).bind λy27=>
some y27))
theorem zrH{p0:Int}{p1:Int}{p2:(List Int)}{p3:Int}(h:zf6 p0 p1 p2 p3=some r):Lx.Fn mC 38 [(dI p0),(dI p1),(fzE false (eI .u8) p2),(dI p3)] (fzE true (eI .i64) r):=by
 refine gnO ?_;unfold zf6 at h;refine zag ?_;obtain⟨y1,g2,h⟩:=bsM h;refine sXM (anM ((zav g2).1.1) (anM ((zav g2).1.2) (anM @qbU (miM g2)))) ?_;obtain⟨o4,j4,h⟩:=bsM h;obtain⟨T4,hT4⟩:=mkT λa:(Int×(List Int))=>⟨84,[(0,(dI p0)),(1,(dI p1)),(9,(.sl 0 0 1 (Int.toNat p1) (some (Int.toNat p1)) (Int.toNat p1))),(10,(dI a.1))],[.els 1 (a.2.map ((eI .i64).c true))]⟩
 refine EvL.jn T4 (λa=>a=o4/\a.2.length=(Int.toNat p1)) ?_ ?_
 .refine wSM ?_;obtain⟨T7,hT7⟩:=mkT λa:(Int×Int×(List Int))=>⟨84,[(0,(dI p0)),(1,(dI p1)),(2,(fzE false (eI .u8) p2)),(3,(dI p3)),(9,(.sl 0 0 1 (Int.toNat p1) (some (Int.toNat p1)) (Int.toNat p1))),(10,(dI a.1)),(11,(dI a.2.1))],[.els 1 (a.2.2.map ((eI .i64).c true))]⟩
  refine rdM hT7 (λn a=>zds p1 p2 p3 n a.1 a.2.1 a.2.2=some o4/\a.2.2.length=(Int.toNat p1)) (0,0,y1) ⟨j4,zbp g2⟩ ?_;rintro n ⟨v10,v11,l0⟩ ⟨j4,el0⟩;simp only[zds]at j4;refine wTM hT7 ?_;refine cBM j4 (λ_ j4=>?_) λ_ j4=>?_
  .obtain rfl:=qaj j4;exact zda hT4 _ ⟨rfl,el0⟩
  obtain⟨o8,j8,j4⟩:=bsM j4;obtain⟨T8,hT8⟩:=zey hT7 λa:(List Int)=>uDM (T7 (v10,v11,l0)) [] [] [(0,.els 1 (a.map ((eI .i64).c true)))] []
  refine EvL.jn T8 (λa=>a=o8/\a.length=(Int.toNat p1)) ?_ ?_
  .refine wSM ?_;refine cBM j8 (λ_ j8=>?_) λ_ j8=>?_
   .obtain rfl:=qaj j8;exact zda hT8 _ ⟨rfl,el0⟩
   obtain⟨q5,g6,j8⟩:=bsM j8;obtain⟨x7,g8,j8⟩:=bsM j8;obtain⟨x9,g10,j8⟩:=bsM j8;obtain⟨y11,g12,j8⟩:=bsM j8;refine sXM (anM (zif g6) (anM (zii g6) (anM (zbo (n:=1) (e:=(eI .u8)) rfl g8) (anM el0 (anM (za4 g10) (anM (ltM el0 g10) (anM (giM g10) (siM g12)))))))) ?_;obtain rfl:=qaj j8;exact zda hT8 _ ⟨rfl,(zaZ g12).trans el0⟩
  rintro l0' ⟨rfl,el0'⟩;refine wTM hT8 ?_;obtain⟨x13,g14,j4⟩:=bsM j4;refine sXM (anM el0' (anM (za4 g14) (anM (ltM el0' g14) (giM g14)))) ?_;exact zda hT7 ((w64 (v10+x13)),(w64 (v11+1)),l0') ⟨j4,el0'⟩
 rintro⟨v10,l0⟩ ⟨rfl,el0⟩;dsimp only at h;refine wTM hT4 ?_;obtain⟨o13,j13,h⟩:=bsM h;obtain⟨T13,hT13⟩:=zey hT4 λa:(Int×Int×(List Int))=>uKM (T4 (v10,l0)) [9] [(12,(dI a.1)),(13,(dI a.2.1))] [(0,.els 1 (a.2.2.map ((eI .i64).c true)))] []
 refine EvL.jn T13 (λa=>a=o13/\a.2.2.length=(Int.toNat p1)) ?_ ?_
 .refine wSM ?_;obtain⟨T17,hT17⟩:=zey hT4 λa:(Int×Int×Int×(List Int))=>uDM (T4 (v10,l0)) [] [(12,(dI a.1)),(13,(dI a.2.1)),(14,(dI a.2.2.1))] [(0,.els 1 (a.2.2.2.map ((eI .i64).c true)))] []
  refine rdM hT17 (λn a=>zdN p1 p0 v10 n a.1 a.2.1 a.2.2.1 a.2.2.2=some o13/\a.2.2.2.length=(Int.toNat p1)) (p0,0,0,l0) ⟨j13,el0⟩ ?_;rintro n ⟨v12,v13,v14,l0'⟩ ⟨j13,el0'⟩;simp only[zdN]at j13;refine wTM hT17 ?_;refine cBM j13 (λ_ j13=>?_) λ_ j13=>?_
  .obtain rfl:=qaj j13;exact zda hT13 _ ⟨rfl,el0'⟩
  obtain⟨x16,g17,j13⟩:=bsM j13;refine sXM (anM el0' (anM (za4 g17) (anM (ltM el0' g17) (giM g17)))) ?_;obtain⟨o18,j18,j13⟩:=bsM j13;obtain⟨T18,hT18⟩:=zey hT17 λa:(Int×(List Int))=>uDM (T17 (v12,v13,v14,l0')) [13] [(13,(dI a.1))] [(0,.els 1 (a.2.map ((eI .i64).c true)))] []
  refine EvL.jn T18 (λa=>a=o18/\a.2.length=(Int.toNat p1)) ?_ ?_
  .refine wSM ?_;refine cBM j18 (λ_ j18=>?_) λ_ j18=>?_
   .obtain rfl:=qaj j18;exact zda hT18 _ ⟨rfl,el0'⟩
   obtain⟨q19,g20,j18⟩:=bsM j18;obtain⟨y21,g22,j18⟩:=bsM j18;refine sXM (anM el0' (anM (za4 g17) (anM (ltM el0' g17) (anM (giM g17) (anM (zl1 g20) (anM (zpQ g20) (siM g22))))))) ?_;obtain rfl:=qaj j18;exact zda hT18 _ ⟨rfl,(zaZ g22).trans el0'⟩
  rintro⟨v13',l0''⟩ ⟨rfl,el0''⟩;dsimp only at j13;refine wTM hT18 ?_;obtain⟨x23,g24,j13⟩:=bsM j13;refine sXM (anM el0'' (anM (za4 g24) (anM (ltM el0'' g24) (giM g24)))) ?_;exact zda hT17 ((w64 (v12 - x23)),v13',(w64 (v14+1)),l0'') ⟨j13,el0''⟩
 rintro⟨v12,v13,l0'⟩ ⟨rfl,el0'⟩;dsimp only at h;refine wTM hT13 ?_;obtain⟨x25,g26,h⟩:=bsM h;obtain⟨y27,g28,h⟩:=bsM h;refine sXM (anM el0' (anM (za4 g26) (anM (ltM el0' g26) (anM (giM g26) (siM g28))))) ?_;exact rHM h
def zwF(num:List Int)(ps8 u k:Int)(ps:List Int):Option Bool:=
 (zaO num k).bind λx=>bif x == u then((zki .u8 ps8 (IntKind.u64.wrap k)).bind λq=>bif zkX .u8 q 1 == 1 then some (decide ((ps.length:Int)<3))else some false)else some false
def zpA(num:List Int)(i ps8 u:Int):Nat->Int->List Int->Option (List Int)
 | 0,_,_=>none
 | n+1,k,ps=>bif decide (k<i)then((zwF num ps8 u k ps).bind λb=>bif b then((zdi 8 ps [u]).bind λps2=>zpA num i ps8 u n (w64 (k+1)) ps2)else zpA num i ps8 u n (w64 (k+1)) ps)else some ps
def zrM(num:List Int)(i ps8 count:Int):Nat->Int->List Int->Option (List Int)
 | 0,_,_=>none
 | n+1,u,ps=>bif decide (u<count)then((zpA num i ps8 u (i.toNat+2) 0 ps).bind λps2=>zrM num i ps8 count n (w64 (u+1)) ps2)else some ps
def zo3(num:List Int)(i v count ps8:Int)(nodes:List S_api_Node):Option (List S_api_Node):=
 (zaO nodes v).bind λx=>bif x.parents.isEmpty then((zrM num i ps8 count (count.toNat+2) 0 []).bind λps=>ze5 nodes v ⟨x.zaC,ps,x.rows⟩)else none
def zyx:C:=
 (.seq (.seq (rg [oM 101 14,
 oM 102 10,
 oB 103 .lss 101 102])
 (.cond (.s 103) (.skip)
 (.exit 6)))
 (.seq (.block 7 (.seq (.scope (rg [oM 106 5,
 oM 107 14,
 oI 108 1 106 107,
 oL 109 108,
 oM 110 13,
 oB 111 .eql 109 110,
 oM 112 111,
 oFg 113 1 11 112 true,
 oLg 114 113 112 true,
 oMg 115 14 112 true,
 ⟨some 116,.conv .u64 (.s 115),some (112,true)⟩,
 ⟨some 117,.bin .shr (.s 114) (.s 116),some (112,true)⟩,
 ⟨some 118,.bin .and (.s 117) (.c (.int .u8 1)),some (112,true)⟩,
 ⟨some 119,.bin .eql (.s 118) (.c (.int .u8 1)),some (112,true)⟩,
 ⟨some 120,.pick (.s 112) (.s 119) (.c (.bool false)),none⟩,
 oM 121 120,
 oFg 122 1 4 121 true,
 oLg 123 122 121 true,
 oMg 124 12 121 true,
 ⟨some 125,.idxS 3 (.s 123) (.s 124),some (121,true)⟩,
 oFg 126 1 125 121 true,
 oLg 127 126 121 true,
 ⟨some 128,.len (.s 127),some (121,true)⟩,
 oDg 129 .lss 128 3 121 true,
 ⟨some 130,.pick (.s 121) (.s 129) (.c (.bool false)),none⟩]))
 (.scope (.cond (.s 130) (.reg true false [oF 131 1 4,
 oL 132 131,
 oM 133 12,
 oF 134 1 4,
 oL 135 134,
 oM 136 12,
 oI 137 3 135 136,
 oF 138 1 137,
 oL 139 138,
 oM 140 13,
 ⟨some 141,.bsl 1 1 [(.int .i64 0)] [(0,(.s 140))],none⟩,
 ⟨none,.avo [(.s 131)] (.s 139),none⟩,
 oT 142 1 8 139 141,
 oI 143 3 132 133,
 oF 144 1 143,
 oS 1 144 142])
 (.skip)))))
 (rg [oM 104 14,
 oD 105 .add 104 1,
 oM 14 105])))
def zya:C:=
 (.seq (.seq (rg [oM 96 13,
 oM 97 3,
 oB 98 .lss 96 97])
 (.cond (.s 98) (.skip)
 (.exit 4)))
 (.seq (.block 5 (.seq (rg [oK 14 0])
 (.scope (.block 6 (.loop zyx)))))
 (rg [oM 99 13,
 oD 100 .add 99 1,
 oM 13 100])))
section
variable (b0 b1:LB) (c40 c42:D) (num:List Int) (i v count ps8 grain:Int) (cnt:Nat) (nodes:List S_api_Node) (x:S_api_Node)
end
variable{Q:LX->LSt->Prop}{nodes':List S_api_Node}
theorem zC5{k:List K}{b0 b1:LB}{c40 c42:D}{num:List Int}{i v count ps8 grain:Int}{cnt:Nat}{nodes:List S_api_Node}(g:zo3 num i v count ps8 nodes=some nodes')(hb0:∀ kp,LB.kin kp b0)(hb1:∀ kp,LB.kin kp b1)(hc0:∀ kp,D.kin kp c40)(hc2:∀ kp,D.kin kp c42)(hl:nodes.length=cnt)(hk:EvL mC 0 k ⟨187,[(1,.ptr 0 0),(2,.ptr 1 0),(3,dI count),(4,.ptr 3 0),(5,fzE true (eI .i64) num),(10,dI i),(11,.ptr 4 0),(12,dI v)],[b0,b1,.els 3 (nodes'.map (zam.c true)),.cells [dI grain,.sl 2 0 3 cnt (some cnt) cnt],.cells [c40,dU8 ps8,c42]]⟩ Q):
  EvL mC 0 (.code (.scope (.block 4 (.loop zya))):: k) ⟨187,[(1,.ptr 0 0),(2,.ptr 1 0),(3,dI count),(4,.ptr 3 0),(5,fzE true (eI .i64) num),(10,dI i),(11,.ptr 4 0),(12,dI v),(13,dI 0)],[b0,b1,.els 3 (nodes.map (zam.c true)),.cells [dI grain,.sl 2 0 3 cnt (some cnt) cnt],.cells [c40,dU8 ps8,c42]]⟩ Q:=by
 unfold zo3 at g;obtain⟨x,gx,g⟩:=bsM g;cases hp:x.parents.isEmpty with
 | false=>rw[hp]at g; cases g
 | true=>
 rw[hp,qdw]at g;obtain⟨ps,gu,g⟩:=bsM g;have hv0:=za4 gx;have hv1:v<((cnt:Nat):Int):=hl ▸ zfy gx;have hxe:=zcW gx (zam.c true);have hxl:=(qab.1 (zlE gx)).1;have hgs:∀ C:List D,((nodes.map (zam.c true)).set v.toNat C)[v.toNat]? = some C:=λC=>by rw[qaG (by simpa using hxl)]
 obtain⟨HP,hHP⟩:∃ HP:List Int->List LB,HP=(λa=>[b0,b1,.els 3 ((nodes.map (zam.c true)).set v.toNat [dI x.zaC,.sl 5 0 1 a.length none a.length,nE true (eL (eI .i64)) x.rows]),.cells [dI grain,.sl 2 0 3 cnt (some cnt) cnt],.cells [c40,dU8 ps8,c42],.grow 1 (a.map ((eI .i64).c true))]):=⟨_,rfl⟩;refine EvL.jn (α:=Unit) (λ_=>⟨187,[(1,.ptr 0 0),(2,.ptr 1 0),(3,dI count),(4,.ptr 3 0),(5,fzE true (eI .i64) num),(10,dI i),(11,.ptr 4 0),(12,dI v)],[b0,b1,.els 3 (nodes'.map (zam.c true)),.cells [dI grain,.sl 2 0 3 cnt (some cnt) cnt],.cells [c40,dU8 ps8,c42]]⟩) (λ_=>True) ?_ (λ_ _=>hk);refine wSM ?_;refine EvL.zgK (za8.zyK (n:=1) (b:=2) (i:=v.toNat) (o:=1) (by decide) rfl hxe (by rw[zeY,zym _ _ hp]; rfl)) ?_;obtain⟨T,hT⟩:∃ T:Int×List Int->LSt,T=(λa=>⟨187,[(1,.ptr 0 0),(2,.ptr 1 0),(3,dI count),(4,.ptr 3 0),(5,fzE true (eI .i64) num),(10,dI i),(11,.ptr 4 0),(12,dI v),(13,dI a.1)],HP a.2⟩):=⟨_,rfl⟩;refine EvL.rounds T (λn a=>zrM num i ps8 count n a.1 a.2=some ps) (count.toNat+2) (0,[]) (by rw[hT,hHP]; exact za8.sub ⟨rfl,rfl,rfl,rfl,rfl,rfl,rfl,rfl,rfl,qdv⟩) gu (λ_ h=>nomatch h) ?_;rintro n ⟨u,a⟩ h;simp only[zrM]at h;rw[congrFun hT (u,a),congrFun hHP a];simp only[zya,zBa];refine zag ?_;cases c1:decide (u<count)with
 | false=>
  rw[c1,qdx]at h;cases h;refine sXM c1 ?_;exact⟨(),qdv,wm0 [.k,.k,.k,.k,.k,.f] ⟨.same (hb0 _),.same (hb1 _),MB.close g (.cons (.same trivial) (.cons (.fr (zvh (t:=true) rfl rfl rfl rfl (λh=>by cases h<;>rfl))) (.cons (.same (znw _ _ _ _)) .nil))),MB.cs ⟨qdv,rfl,qdv⟩,MB.cs ⟨hc0 _,qdv,hc2 _,qdv⟩,qdv⟩⟩
 | true=>
  rw[c1,qdw]at h;obtain⟨a2,gk,h⟩:=bsM h;refine sXM c1 ?_;refine EvL.scope (zag ?_);refine sSM ?_;obtain⟨TK,hTK⟩:∃ TK:Int×List Int->LSt,TK=(λa=>⟨187,[(1,.ptr 0 0),(2,.ptr 1 0),(3,dI count),(4,.ptr 3 0),(5,fzE true (eI .i64) num),(10,dI i),(11,.ptr 4 0),(12,dI v),(13,dI u),(14,dI a.1)],HP a.2⟩):=⟨_,rfl⟩;refine EvL.rounds TK (λn a=>zpA num i ps8 u n a.1 a.2=some a2) (i.toNat+2) (0,a) (by rw[hTK,hHP]; exact za8.sub ⟨rfl,rfl,rfl,rfl,rfl,rfl,rfl,rfl,rfl,rfl,qdv⟩) gk (λ_ h=>nomatch h) ?_;rintro m ⟨kk,b⟩ hk2;simp only[zpA]at hk2;rw[congrFun hTK (kk,b),congrFun hHP b];simp only[zyx,zBa];refine zag ?_;cases c2:decide (kk<i)with
  | false=>
   rw[c2,qdx]at hk2;obtain rfl:=qaj hk2;refine sXM c2 ?_;exact⟨(w64 (u+1),b),h,by rw[hT,hHP]; exact za8.sub ⟨rfl,rfl,rfl,rfl,rfl,rfl,rfl,rfl,rfl,qdv⟩⟩
  | true=>
   rw[c2,qdw]at hk2;obtain⟨t,gc,hk2⟩:=bsM hk2;unfold zwF at gc;obtain⟨y,gy,gc⟩:=bsM gc;refine sXM c2 ?_;refine EvL.scope (zag ?_);cases c3:(y == u)with
   | false=>
    rw[c3,qdx]at gc;obtain rfl:=qaj gc;rw[qdx]at hk2;refine sXM (anM c3 (ixM gy)) ?_;refine EvL.scope (zag ?_);refine sSM ?_;exact⟨(w64 (kk+1),b),hk2,by rw[hTK,hHP]; exact za8.sub ⟨rfl,rfl,rfl,rfl,rfl,rfl,rfl,rfl,rfl,rfl,qdv⟩⟩
   | true=>
    rw[c3,qdw]at gc;obtain⟨q,gq,gc⟩:=bsM gc;cases c4:(zkX .u8 q 1 == 1)with
    | false=>
     rw[c4,qdx]at gc;obtain rfl:=qaj gc;rw[qdx]at hk2;refine sXM (anM c3 (anM c4 (anM (ixM gy) (anM ((zbw gq).1) ((zbw gq).2))))) ?_;refine EvL.scope (zag ?_);refine sSM ?_;exact⟨(w64 (kk+1),b),hk2,by rw[hTK,hHP]; exact za8.sub ⟨rfl,rfl,rfl,rfl,rfl,rfl,rfl,rfl,rfl,rfl,qdv⟩⟩
    | true=>
     rw[c4,qdw]at gc;obtain rfl:=qaj gc;simp only[rnA,Nat.reduceEqDiff,Nat.reduceLT,c3,c4,zbo (n:=1) (e:=(eI .i64)) rfl gy,(zbw gq).1,(zbw gq).2,hv0,hv1,qaQ,hl,hgs];refine EvL.scope (zag ?_);cases c5:decide ((b.length:Int)<3)with
     | false=>
      rw[c5,qdx]at hk2;refine sSM ?_;exact⟨(w64 (kk+1),b),hk2,by rw[hTK,hHP]; exact za8.sub ⟨rfl,rfl,rfl,rfl,rfl,rfl,rfl,rfl,rfl,rfl,qdv⟩⟩
     | true=>
      rw[c5,qdw]at hk2;obtain⟨b2,gb,hk2⟩:=bsM hk2;simp only[rnA,Nat.reduceEqDiff,Nat.reduceLT,Nat.reduceAdd,Nat.reduceLeDiff,Nat.reduceBEq,hv0,hv1,qaQ,hl,hgs,List.set_set,zbN gb,(plM gb),(piM gb)];exact⟨(w64 (kk+1),b2),hk2,by rw[hTK,hHP]; exact wm0 [.k,.k,.k,.k,.k,.k] ⟨.same (hb0 _),.same (hb1 _),MB.opn ⟨qdv,rfl,znw _ _ _ _,qdv⟩,MB.cs ⟨qdv,rfl,qdv⟩,MB.cs ⟨hc0 _,qdv,hc2 _,qdv⟩,MB.gs (eI .i64) true b2,qdv⟩⟩
theorem zkO{num:List Int}{i v count ps8:Int}{nodes:List S_api_Node}(g:zo3 num i v count ps8 nodes=some nodes'):nodes'.length=nodes.length:=by
 unfold zo3 at g;obtain⟨x,gx,g⟩:=bsM g;cases hp:x.parents.isEmpty with
 | false=>rw[hp]at g; cases g
 | true=>
 rw[hp,qdw]at g;obtain⟨ps,gu,g⟩:=bsM g;exact zaZ g
def zbG(p0:S_api_Net)(p1:Int):Option (List Int):=
(zaO p0.nodes p1).bind λx1=>
(zeH p0).bind λr3=>
(zhE r3 x1.parents).bind λr5=>
some r5
theorem zhO{p0:S_api_Net}{p1:Int}{r:(List Int)}(h:zbG p0 p1=some r):Lx.Fn mC 37 [(.agg [(dI p0.grain),(fzE false zac p0.nodes)]),(dI p1)] (fzE true (eI .i64) r):=by
 refine gnO ?_;unfold zbG at h;refine zag ?_;obtain⟨x1,g2,h⟩:=bsM h;obtain⟨r3,g4,h⟩:=bsM h;refine sXM (anM @zaM (zbo (n:=3) (e:=zac) rfl g2)) ?_;refine fCM (zn6 g4) ?_;obtain⟨r5,g6,h⟩:=bsM h;refine sSM ?_;refine fCM (zuD g6) ?_;exact rHM h
def zsC(grain v:Int)(W:List Int)(nodes:List S_api_Node)(x:S_api_Node):Nat->Int->List (List Int)->Option (List (List Int))
 | 0,_,_=>none
 | n+1,r,rows=>(ze5 nodes v ⟨x.zaC,x.parents,rows⟩).bind λcur=>
   (zbG ⟨grain,cur⟩ v).bind λpc=>(zfm pc).bind λsz=>
   bif decide (r<sz)then((zf6 grain x.zaC W (w64 (r * w64 (x.zaC+1)))).bind λy=>(zdi 24 rows [y]).bind λrows2=>zsC grain v W nodes x n (w64 (r+1)) rows2)else some rows
def zpF(N:Nat)(grain v:Int)(W:List Int)(nodes:List S_api_Node):Option (List S_api_Node):=
 (zaO nodes v).bind λx=>bif x.rows.isEmpty then((zsC grain v W nodes x N 0 []).bind λrows=>ze5 nodes v ⟨x.zaC,x.parents,rows⟩)else none
def zyb:C:=
 (.seq (.seq (rg [oM 145 15,
 oN 146 2 4,
 oM 147 12,
 oV 148 37 146 147,
 oU 149 36 148,
 oB 150 .lss 145 149])
 (.cond (.s 150) (.skip)
 (.exit 8)))
 (.seq (.block 9 (.reg true true [oF 153 1 4,
 oL 154 153,
 oM 155 12,
 oF 156 1 4,
 oL 157 156,
 oM 158 12,
 oI 159 3 157 158,
 oF 160 2 159,
 oL 161 160,
 oF 162 0 4,
 oL 163 162,
 oF 164 1 4,
 oL 165 164,
 oM 166 12,
 oI 167 3 165 166,
 oF 168 0 167,
 oL 169 168,
 oF 170 2 11,
 oL 171 170,
 oM 172 15,
 oF 173 1 4,
 oL 174 173,
 oM 175 12,
 oI 176 3 174 175,
 oF 177 0 176,
 oL 178 177,
 oD 179 .add 178 1,
 oB 180 .mul 172 179,
 ⟨some 181,.call 38 [(.s 163),(.s 169),(.s 171),(.s 180)],none⟩,
 ⟨some 182,.bsl 1 1 [(.slice none 0 0)] [(0,(.s 181))],none⟩,
 ⟨none,.avo [(.s 153)] (.s 161),none⟩,
 oT 183 1 24 161 182,
 oI 184 3 154 155,
 oF 185 2 184,
 oS 1 185 183]))
 (rg [oM 151 15,
 oD 152 .add 151 1,
 oM 15 152])))
variable{L:List LB}
theorem zC3{nodes cur:List S_api_Node}{v:Int}{y:S_api_Node}{c:List D}(g:ze5 nodes v y=some cur)(hc:Snps L false c (zac.c false y)):
  Pw (Snp L false) ((nodes.map (zam.c true)).set v.toNat c) (cur.map (zac.c false)):=by
 rw[<- zeT g (zac.c false)];exact Pw.set (Pw.map (λx=>⟨(zdx (L:=L) (t:=true) (u:=false) (λh=>nomatch h) x).len,(zdx (L:=L) (t:=true) (u:=false) (λh=>nomatch h) x).get⟩) nodes) hc.len hc.get _
variable{W:List Int}
theorem zDc{k:List K}{b0 b1:LB}{c40 c41:D}{num:List Int}{i v count grain:Int}{cnt N:Nat}{nodes:List S_api_Node}(g:zpF N grain v W nodes=some nodes')(hb0:∀ kp,LB.kin kp b0)(hb1:∀ kp,LB.kin kp b1)(hc0:∀ kp,D.kin kp c40)(hc1:∀ kp,D.kin kp c41)(hl:nodes.length=cnt)(hk:EvL mC 0 k ⟨187,[(1,.ptr 0 0),(2,.ptr 1 0),(3,dI count),(4,.ptr 3 0),(5,fzE true (eI .i64) num),(10,dI i),(11,.ptr 4 0),(12,dI v)],[b0,b1,.els 3 (nodes'.map (zam.c true)),.cells [dI grain,.sl 2 0 3 cnt (some cnt) cnt],.cells [c40,c41,fzE false (eI .u8) W]]⟩ Q):
  EvL mC 0 (.code (.scope (.block 8 (.loop zyb))):: k) ⟨187,[(1,.ptr 0 0),(2,.ptr 1 0),(3,dI count),(4,.ptr 3 0),(5,fzE true (eI .i64) num),(10,dI i),(11,.ptr 4 0),(12,dI v),(15,dI 0)],[b0,b1,.els 3 (nodes.map (zam.c true)),.cells [dI grain,.sl 2 0 3 cnt (some cnt) cnt],.cells [c40,c41,fzE false (eI .u8) W]]⟩ Q:=by
 unfold zpF at g;obtain⟨x,gx,g⟩:=bsM g;cases hp:x.rows.isEmpty with
 | false=>rw[hp]at g; cases g
 | true=>
 rw[hp,qdw]at g;obtain⟨rows,gu,g⟩:=bsM g;have hv0:=za4 gx;have hv1:v<((cnt:Nat):Int):=hl ▸ zfy gx;have hxe:=zcW gx (zam.c true);have hxl:=(qab.1 (zlE gx)).1;have hgs:∀ C:List D,((nodes.map (zam.c true)).set v.toNat C)[v.toNat]? = some C:=λC=>by rw[qaG (by simpa using hxl)]
 refine EvL.jn (α:=Unit) (λ_=>⟨187,[(1,.ptr 0 0),(2,.ptr 1 0),(3,dI count),(4,.ptr 3 0),(5,fzE true (eI .i64) num),(10,dI i),(11,.ptr 4 0),(12,dI v)],[b0,b1,.els 3 (nodes'.map (zam.c true)),.cells [dI grain,.sl 2 0 3 cnt (some cnt) cnt],.cells [c40,c41,fzE false (eI .u8) W]]⟩) (λ_=>True) ?_ (λ_ _=>hk);refine wSM ?_;refine EvL.zgK (za8.zyK (n:=1) (b:=2) (i:=v.toNat) (o:=2) (by decide) rfl hxe (by rw[zeY,zym _ _ hp]; rfl)) ?_;obtain⟨T,hT⟩:∃ T:Int×List (List Int)->LSt,T=(λa=>⟨187,[(1,.ptr 0 0),(2,.ptr 1 0),(3,dI count),(4,.ptr 3 0),(5,fzE true (eI .i64) num),(10,dI i),(11,.ptr 4 0),(12,dI v),(15,dI a.1)],[b0,b1,.els 3 ((nodes.map (zam.c true)).set v.toNat [dI x.zaC,nE true (eI .i64) x.parents,.sl 5 0 1 a.2.length none a.2.length]),.cells [dI grain,.sl 2 0 3 cnt (some cnt) cnt],.cells [c40,c41,fzE false (eI .u8) W],.grow 1 (a.2.map ((eL (eI .i64)).c true))]⟩):=⟨_,rfl⟩;refine EvL.rounds T (λn a=>zsC grain v W nodes x n a.1 a.2=some rows) N (0,[]) (by rw[hT]; exact za8.sub ⟨rfl,rfl,rfl,rfl,rfl,rfl,rfl,rfl,rfl,qdv⟩) gu (λ_ h=>nomatch h) ?_;rintro n ⟨r,a⟩ h;simp only[zsC]at h;obtain⟨cur,gcur,h⟩:=bsM h;obtain⟨pc,gpc,h⟩:=bsM h;obtain⟨sz,gsz,h⟩:=bsM h;rw[congrFun hT (r,a)];simp only[zyb,zBa];refine wSM ?_;refine EvL.fn (zhO gpc) rfl rfl (.cons (.zAQ (.cons (.lit _) (.cons (zrl (e:=zac) rfl (.inl rfl) (by rw[qaQ,qar]; exact hl.symm) (by rw[qaQ,qar]; exact hl.symm) (λk h=>by cases h; exact qao _) (zC3 gcur (.cons (.lit _) (.cons (zpl _ _ (λh=>nomatch h)) (.cons (zpi (e:=(eL (eI .i64))) (t:=true) rfl (.inr rfl) rfl rfl (λk h=>nomatch h) (λh=>nomatch h)) .nil))))) .nil))) (.cons (.lit _) .nil)) ?_;refine sSM ?_;refine fCM (zoX gsz) ?_;cases c1:decide (r<sz)with
 | false=>
  rw[c1,qdx]at h;obtain rfl:=qaj h;refine sXM c1 ?_;exact⟨(),qdv,wm0 [.k,.k,.k,.k,.k,.f] ⟨.same (hb0 _),.same (hb1 _),MB.close g (.cons (.same trivial) (.cons (.same (znw _ _ _ _)) (.cons (.fr (zvh (t:=true) rfl rfl rfl rfl (λh=>by cases h<;>rfl))) .nil))),MB.cs ⟨qdv,rfl,qdv⟩,MB.cs ⟨hc0 _,hc1 _,qdv,qdv⟩,qdv⟩⟩
 | true=>
  rw[c1,qdw]at h;obtain⟨y,gy,h⟩:=bsM h;obtain⟨b2,gb,h⟩:=bsM h;simp only[rnA,Nat.reduceEqDiff,Nat.reduceLT,c1,hv0,hv1,qaQ,hl,hgs];refine EvL.fn (zrH gy) rfl rfl (.cons (.lit _) (.cons (.lit _) (.cons (zdQ _ _ (λh=>nomatch h)) (.cons (.lit _) .nil)))) ?_;simp only[rnA,Nat.reduceEqDiff,Nat.reduceLT,Nat.reduceAdd,Nat.reduceLeDiff,Nat.reduceBEq,hv0,hv1,qaQ,hl,hgs,List.set_set,zbN gb,(plM gb),(show a.map ((eL (eI .i64)).c true)++ [[fzE true (eI .i64) y]]=b2.map ((eL (eI .i64)).c true)from zdz gb ((eL (eI .i64)).c true))];exact⟨(w64 (r+1),b2),h,by rw[hT]; exact wm0 [.k,.k,.k,.k,.k,.k] ⟨.same (hb0 _),.same (hb1 _),MB.opn ⟨qdv,znw _ _ _ _,rfl,qdv⟩,MB.cs ⟨qdv,rfl,qdv⟩,MB.cs ⟨hc0 _,hc1 _,qdv,qdv⟩,MB.gs (eL (eI .i64)) true b2,qdv⟩⟩
theorem zr7{N:Nat}{grain v:Int}{nodes:List S_api_Node}(g:zpF N grain v W nodes=some nodes'):nodes'.length=nodes.length:=by
 unfold zpF at g;obtain⟨x,gx,g⟩:=bsM g;cases hp:x.rows.isEmpty with
 | false=>rw[hp]at g; cases g
 | true=>
 rw[hp,qdw]at g;obtain⟨ps,gu,g⟩:=bsM g;exact zaZ g
def ze8(x:S_api_Node):Option S_api_Node:=some x
theorem zjL{x r:S_api_Node}(h:ze8 x=some r):Lx.FnA mC 114 [.agg (zac.c false x)] (.clo 129 [] [.fptr false (zac.c false r)]):=by
 cases h;refine zzO ?_;refine zag ?_;refine sXM @zaM ?_;refine zuT.ret rfl (.clo rfl rfl (λi d d' h1 h2=>by simp at h1) λi d d' h1 h2=>?_);cases i with
 | zero=>
  simp only[qcb,qad]at h1 h2;subst h1;subst h2;exact .ptr rfl (qao _) λk d d' h3 h4=>by
   rw[qaR]at h3;exact(zac.snp (L:=_) (t:=false) (t':=false) x id).get k d d' h3 h4
 | succ i=>simp at h1
def zn2:C:=
 (.seq (rg [oB 9 .lss 8 7])
 (.seq (.cond (.s 9) (.skip)
 (.exit 0))
 (.seq (.block 1 (.seq (rg [oM 10 8,
 oI 11 1 6 8,
 oL 12 11,
 oM 3 10,
 oM 4 12])
 (.seq (rg [oM 13 0,
 oM 14 3,
 oM 15 4,
 ⟨some 16,.zdE (.s 13) [(.s 14),(.s 15)],none⟩,
 ⟨some 17,.un .not (.s 16),none⟩])
 (.cond (.s 17) (.ret)
 (.skip)))))
 (rg [oD 18 .add 8 1,
 oM 8 18]))))
def zyE:C:=
 .seq (rg [oF 5 2 1,
 oL 6 5,
 oE 7 6,
 oK 8 0])
 (.scope (.block 0 (.loop zn2)))
theorem zwC:zsJ mC 129=some (19,zyE,[],false):=zhR (by kernel_rfl)
variable{α:Type}
theorem zxN{xs:List α}{i:Nat}{x:α}(h:xs[i]? = some x):(zuk xs)[i]? = some ((i:Int),x):=by
 simp[zuk,h]
theorem zxu(xs:List α):(zuk xs).length=xs.length:=by simp[zuk]
theorem zsw{L1:List LB}(h:L=L1 ++ []):L=L1:=by simpa using h
theorem ziG(x:S_api_Node){u:Unit}(hu:zeR x.rows=some u):Gen mC 129 [] [.fptr false (zac.c false x)] (zuk x.rows) (λy n0 args G=>args=[dI y.1,fzE false (eI .i64) y.2]/\G=[]):=by
 intro n0 β P Ps hβ hlen hround L hP;refine zdu.ofM zwC (ze9 rfl) (qae rfl) ?_;simp only[zyE,zBa];refine zag ?_;refine sXM @zaM ?_;refine EvL.scope (zag ?_);refine sSM ?_;have hw:∀(i:Nat),(i:Int)<x.rows.length->IntKind.i64.wrap ((i:Int)+1)=((i+1:Nat):Int):=by
  intro i hi;have:=zhF hu;rw[wrap64 (by omega) (by omega)];omega
 refine EvL.loop (α:=Nat×List LB) (λa=>⟨19,[(0,.yld β),(6,fzE false (eL (eI .i64)) x.rows),(7,dI x.rows.length),(8,dI a.1)],a.2⟩) (λa=>P a.1 a.2/\a.1<=x.rows.length) (λa=>x.rows.length - a.1) (0,L) (za8.sub ⟨rfl,rfl,rfl,rfl,qdv⟩) ⟨hP,qaz _⟩ ?_;rintro⟨i,L'⟩ ⟨hPi,hi⟩;simp only[zn2,zBa];refine zag ?_;cases hc:decide ((i:Int)<(x.rows.length:Int))with
 | false=>
  refine sXM hc ?_;refine⟨[],rfl,L',[],by simp,hlen _ _ hPi,.inl ?_⟩;rw[zxu];have h1:=qdF hc;have h2:i=x.rows.length:=by omega
  rw[<- h2];exact hPi
 | true=>
  have h1:=of_decide_eq_true hc;have h2:i<x.rows.length:=by omega
  have hg:zaO x.rows (i:Int)=some x.rows[i]:=zxQ h2;refine sXM (anM hc (zbo (n:=1) (e:=eL (eI .i64)) rfl hg)) ?_;refine EvL.yield rfl rfl rfl (hround i ((i:Int),x.rows[i]) L' _ [] (zxN (qac h2)) hPi ⟨rfl,rfl⟩|> λh=>by rw[qaZ]at h; exact h) ?_;rintro b L2 ⟨L1,hL2,hl1,hb⟩;have:=zsw hL2;subst this;cases b with
  | true=>
   refine sSM ?_;refine⟨(i+1,L2),⟨hb,h2⟩,?_,za8.sub ⟨rfl,rfl,rfl,?_,qdv⟩⟩
   .show x.rows.length - (i+1)<x.rows.length - i; omega
   .simp only[lk,if_true];rw[hw i h1]
  | false=>
   refine sSM ?_;exact⟨[],rfl,L2,[],by simp,hl1,.inr hb⟩
theorem zvJ{β:Nat}(e:En α)(x:α)(h:L[β]? = some (.cells (e.c false x))):Snp L false (.ptr β 0) (.fptr false (e.c false x)):=
 .ptr h (by omega) λk d d' h3 h4=>by
  rw[qaR]at h3;exact(e.snp (L:=L) (t:=false) (t':=false) x id).get k d d' h3 h4
end Go.Dc
set_option maxRecDepth 100000
set_option maxHeartbeats 4000000
namespace Go.Dc
open Go Go.Mx Go.Lx Go.Proofs
abbrev KB(n:Nat)(es:List (List D)):Prop:=∀ kp:Nat->Bool,(∀ j,j<n->kp j=true)->∀ cs∈es,D.zie kp cs
theorem Mt.zie{L:List LB}{F kp:Nat->Bool}:∀ {es:List (List D)},(∀ cs∈es,D.zie kp cs)->Mt L F kp es es
 | [],_=>.nil
 | x :: r,h=>.cons (Mos.kin (h x qam)) (Mt.zie λcs hc=>h cs (qag _ hc))
variable{n:Nat}
theorem KB.map{α:Type}(e:En α)(t:Bool)(xs:List α):KB n (xs.map (e.c t)):=λkp _=>zei e kp t xs
theorem KB.one{c:List D}(h:∀ kp:Nat->Bool,(∀ j,j<n->kp j=true)->D.zie kp c):KB n [c]:=λkp hk cs hm=>by rw[qaP.1 hm]; exact h kp hk
theorem KB.le{m:Nat}{a:List (List D)}(ha:KB n a)(h:n<=m):KB m a:=λkp hk=>ha kp λj hj=>hk j (qbx hj h)
abbrev fzR(r:List Int):List D:=[fzE true (eI .i64) r]
theorem kfz{kp:Nat->Bool}{rs:List (List Int)}:∀ cs∈rs.map fzR,D.zie kp cs:=zei (eL (eI .i64)) kp true rs
theorem KB.fz{n:Nat}{rs:List (List Int)}:KB n (rs.map fzR):=λkp _=>kfz
theorem KB.nil:KB n []:=λ_ _ _ h=>nomatch h
structure FitN (x:S_api_Node):Prop where
 ps:(x.parents.length+1)* 8<=zah
 rs:(x.rows.length+1)* 24<=zah
 row:∀ r∈x.rows,(r.length+1)* 8<=zah
variable{x:S_api_Node}
theorem FitN.p1(h:FitN x):x.parents.length * 8<=zah:=by have:=h.ps; omega
theorem FitN.r1(h:FitN x):x.rows.length * 24<=zah:=by have:=h.rs; omega
theorem FitN.w1{x:S_api_Node}(h:FitN x):∀ r∈x.rows,r.length * 8<=zah:=λr hr=>by have:=h.row r hr; omega
instance (x:S_api_Node):Decidable (FitN x):=decidable_of_iff ((x.parents.length+1)* 8<=zah/\(x.rows.length+1)* 24<=zah/\∀ r∈x.rows,(r.length+1)* 8<=zah) ⟨λh=>⟨h.1,h.2.1,h.2.2⟩,λh=>⟨h.ps,h.rs,h.row⟩⟩
def zbO(zae steps:List Int):Option (List Int×List Int):=some (zae,steps)
theorem zcZ{zae steps:List Int}{r:List Int×List Int}(h:zbO zae steps=some r):
  Lx.FnA mC 110 [fzE false (eI .i64) zae,fzE false (eI .i64) steps] (.clo 125 [] [.fptr false ((eL (eI .i64)).c false r.1),.fptr false ((eL (eI .i64)).c false r.2)]):=by
 cases h;refine zzO ?_;refine wSM ?_;exact zuT.ret rfl (.clo rfl rfl (Snps.get .nil) (Snps.get (.cons (zvJ (eL (eI .i64)) zae rfl) (.cons (zvJ (eL (eI .i64)) steps rfl) .nil))))
end Go.Dc
