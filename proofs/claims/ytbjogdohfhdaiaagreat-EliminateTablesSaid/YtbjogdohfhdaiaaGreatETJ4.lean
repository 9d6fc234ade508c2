/-
 What r02_Draft_Cards computes. Conditions: none.
-/
import Derived.Test.YtbjogdohfhdaiaaGreatETJ3
set_option linter.unusedSimpArgs false
set_option linter.unusedVariables false
set_option maxRecDepth 100000
set_option maxHeartbeats 4000000
namespace Go.Dc
open Go Go.Mx Go.Lx Go.Proofs
def zbx(p0:S_haruspexref02_Draft):Nat->Int->(List Int)->Option (List Int)
 | 0,_,_=>none
 | n+1,v4,l1=>(
((bif (decide (v4<(p0.c.length:Int)))then(
some (decide (v4<5)))
else(
some false):Option Bool)).bind λv13=>
bif v13 then(
(zaO p0.c v4).bind λx3=>
(zdi 8 l1 [(w64 (1+(w64 (x3.tmod 4))))]).bind λy5=>
zbx p0 n (w64 (v4+1)) y5)
else(
some l1))
def zcb(N:Nat)(p0:S_haruspexref02_Draft):Option (List Int):=
((zbx p0 N 0 []:Option (List Int))).bind λl1=>
some l1
variable{N:Nat}{p0:S_haruspexref02_Draft}{r:(List Int)}
theorem zhT(h:zcb N p0=some r):Lx.Fn mC 64 [(.agg [(fzE false (eI .u8) p0.c),(.lit (.int .u16 p0.which)),(fzE false (eI .u8) p0.order)])] (fzE true (eI .i64) r):=by
 refine gnO ?_;unfold zcb at h;refine wSM ?_;obtain⟨o5,j5,h⟩:=bsM h;obtain⟨T5,hT5⟩:=mkT λa:(List Int)=>⟨28,[(3,(.sl 1 0 1 a.length none a.length))],[.gone,.grow 1 (a.map ((eI .i64).c true))]⟩
 refine EvL.jn T5 (λa=>a=o5) ?_ ?_
 .refine wSM ?_;obtain⟨T9,hT9⟩:=mkT λa:(Int×(List Int))=>⟨28,[(1,(.ptr 0 0)),(3,(.sl 1 0 1 a.2.length none a.2.length)),(4,(dI a.1))],[.cells [(fzE false (eI .u8) p0.c),(.lit (.int .u16 p0.which)),(fzE false (eI .u8) p0.order)],.grow 1 (a.2.map ((eI .i64).c true))]⟩
  refine EvL.zgK (za8.ghost (n:=1) (k:=3) (by decide) rfl) ?_;refine EvL.rounds (α:=(Int×(List Int))) T9 (λn a=>zbx p0 n a.1 a.2=some o5) N (0,[]) (by rw[hT9]; exact wm0 [.k,.k] ⟨MB.cs ⟨qdv,qdv,qdv,qdv⟩,⟨MB.gs (eI .i64) true [],qdv⟩⟩) j5 (λ_ h=>nomatch (show(none:Option (List Int))=some o5 from h)) ?_;rintro n ⟨v4,l1⟩ j5;simp only[zbx]at j5;refine wTM hT9 ?_;obtain⟨o10,j10,j5⟩:=bsM j5;obtain⟨T10,hT10⟩:=zey hT9 λa:Bool=>uDM (T9 (v4,l1)) [] [(13,(dB a))] [] []
  refine EvL.jn T10 _ (bJM j10 hT10) ?_;rintro v13 rfl;refine wTM hT10 ?_;refine cBM j5 (λ_ j5=>?_) λ_ j5=>?_
  .exact zef j5 hT5
  obtain⟨x3,g4,j5⟩:=bsM j5;obtain⟨y5,g6,j5⟩:=bsM j5;refine sXM (anM (zbo (n:=1) (e:=(eI .u8)) rfl g4) (anM (zbN g6) (anM (plM g6) (piM g6)))) ?_;exact zda hT9 ((w64 (v4+1)),y5) j5
 rintro l1 rfl;refine wTM hT5 ?_;exact rHM h
def zaG(N:Nat)(p0:S_haruspexref02_Draft):Nat->Int->(List Int)->Option (List Int)
 | 0,_,_=>none
 | n+1,v4,l1=>(
(zcb N p0).bind λr1=>
bif (decide (v4<(r1.length:Int)))then(
((bif (decide (v4<(p0.order.length:Int)))then(
(zaO p0.order v4).bind λx5=>
(zqt (w64 x5) (w64 (v4+1))).bind λq7=>
some q7)
else(
some 0):Option Int)).bind λv5=>
(zd1 l1 0 v5).bind λy9=>
(zd5 8 y9).bind λy11=>
(zdi 8 y9 [v4]).bind λy13=>
(zd1 l1 v5 l1.length).bind λy15=>
(zdi 8 y13 y15).bind λy17=>
zaG N p0 n (w64 (v4+1)) y17)
else(
some l1))
def zbj(N:Nat)(p0:S_haruspexref02_Draft):Option (List Int):=
((zaG N p0 N 0 []:Option (List Int))).bind λl1=>
some l1
theorem ze7(h:zbj N p0=some r):Lx.Fn mC 35 [(.agg [(fzE false (eI .u8) p0.c),(.lit (.int .u16 p0.which)),(fzE false (eI .u8) p0.order)])] (fzE true (eI .i64) r):=by
 refine gnO ?_;unfold zbj at h;refine wSM ?_;obtain⟨o5,j5,h⟩:=bsM h;obtain⟨T5,hT5⟩:=mkT λa:(List Int)=>⟨42,[(3,(.sl 1 0 1 a.length none a.length))],[.gone,.grow 1 (a.map ((eI .i64).c true))]⟩
 refine EvL.jn T5 (λa=>a=o5) ?_ ?_
 .refine wSM ?_;obtain⟨T9,hT9⟩:=mkT λa:(Int×(List Int))=>⟨42,[(1,(.ptr 0 0)),(3,(.sl 1 0 1 a.2.length none a.2.length)),(4,(dI a.1))],[.cells [(fzE false (eI .u8) p0.c),(.lit (.int .u16 p0.which)),(fzE false (eI .u8) p0.order)],.grow 1 (a.2.map ((eI .i64).c true))]⟩
  refine EvL.zgK (za8.ghost (n:=1) (k:=3) (by decide) rfl) ?_;refine EvL.rounds (α:=(Int×(List Int))) T9 (λn a=>zaG N p0 n a.1 a.2=some o5) N (0,[]) (by rw[hT9]; exact wm0 [.k,.k] ⟨MB.cs ⟨qdv,qdv,qdv,qdv⟩,⟨MB.gs (eI .i64) true [],qdv⟩⟩) j5 (λ_ h=>nomatch (show(none:Option (List Int))=some o5 from h)) ?_;rintro n ⟨v4,l1⟩ j5;simp only[zaG]at j5;refine wTM hT9 ?_;obtain⟨r1,g2,j5⟩:=bsM j5;refine sSM ?_;refine fCM (zhT g2) ?_;refine cBM j5 (λ_ j5=>?_) λ_ j5=>?_
  .exact zef j5 hT5
  obtain⟨o10,j10,j5⟩:=bsM j5;obtain⟨T10,hT10⟩:=zey hT9 λa:Int=>uDM (T9 (v4,l1)) [] [(5,(dI a))] [] []
  refine EvL.jn T10 (λa=>a=o10) ?_ ?_
  .refine wSM ?_;refine cBM j10 (λ_ j10=>?_) λ_ j10=>?_
   .exact zef j10 hT10
   obtain⟨x5,g6,j10⟩:=bsM j10;obtain⟨q7,g8,j10⟩:=bsM j10;refine sXM (anM (zbo (n:=1) (e:=(eI .u8)) rfl g6) (anM (zif g8) (zii g8))) ?_;exact zef j10 hT10
  rintro v5 rfl;rw[congrFun hT10 v5];refine EvL.zgK (S':=⟨42,[(1,(.ptr 0 0)),(3,(fzE true (eI .i64) l1)),(4,(dI v4)),(5,(dI v5))],[.cells [(fzE false (eI .u8) p0.c),(.lit (.int .u16 p0.which)),(fzE false (eI .u8) p0.order)]]⟩) (za8.m0 [.k,.f] rfl (msq (mf rfl (zni (e:=(eI .i64)) (t:=true) rfl rfl (.inr rfl) rfl rfl (λk h=>nomatch h) (λh=>by cases h<;>rfl)) (msq (msq trivial)))) ⟨MB.cs ⟨qdv,qdv,qdv,qdv⟩,qdv⟩) (zag ?_);obtain⟨y9,g10,j5⟩:=bsM j5;obtain⟨y11,g12,j5⟩:=bsM j5;obtain⟨y13,g14,j5⟩:=bsM j5;obtain⟨y15,g16,j5⟩:=bsM j5;obtain⟨y17,g18,j5⟩:=bsM j5;refine sXM (anM (zyH (n:=1) (e:=(eI .i64)) rfl g10) (anM (zpt (n:=1) (e:=(eI .i64)) rfl) (anM (zke g12) (anM (zbN g14) (anM (plM g14) (anM (piM g14) (anM (zx9 (n:=1) (e:=(eI .i64)) rfl g16) (anM (zbN g18) (anM (show y13.length+y15.length=y17.length from zfb g18) (show y13.map ((eI .i64).c true)++ y15.map ((eI .i64).c true)=y17.map ((eI .i64).c true)from zdz g18 ((eI .i64).c true))))))))))) ?_;exact zda hT9 ((w64 (v4+1)),y17) j5
 rintro l1 rfl;refine wTM hT5 ?_;exact rHM h
def zbA(p0:S_haruspexref05_Draft)(r5:(List Int)):Nat->Int->Int->(List S_api_Node)->Option (List S_api_Node)
 | 0,_,_,_=>none
 | n+1,v6,v7,l2=>(
bif (decide (v7<(zfT (ze6 (p0.nodes.length:Int) 1) 5)))then(
((bif (decide (v7<(p0.nodes.length:Int)))then(
(zaO p0.nodes v7).bind λx9=>
some (x9.zaC,x9.parents,x9.w))
else(
some (0,0,[])):Option ((Int×Int×(List Int))))).bind λo=>match o with
|(b4_0,b4_1,b4_2)=>(
(zsN .i64 (w64 (v6 * (w64 (2+(w64 (b4_0.tmod 2)))))) (IntKind.u64.wrap (w64 ((w64 ((zfT (ze6 (p0.nodes.length:Int) 1) 5) - 1)) - v7)))).bind λq11=>
((bif (decide (100<q11))then(
some 2)
else(
some (w64 (2+(w64 (b4_0.tmod 2))))):Option Int)).bind λv9=>
(zaO r5 v7).bind λx14=>
(zaO l2 x14).bind λx16=>
(ze5 l2 x14 (S_api_Node.mk v9 x16.parents x16.rows)).bind λy18=>
zbA p0 r5 n (w64 (v6 * v9)) (w64 (v7+1)) y18))
else(
some l2))
def zbP(N:Nat)(p0:S_haruspexref05_Draft)(r5:(List Int)):Nat->Int->(List S_api_Node)->Option (List S_api_Node)
 | 0,_,_=>none
 | n+1,v10,l2'=>(
bif (decide (v10<(zfT (ze6 (p0.nodes.length:Int) 1) 5)))then(
((bif (decide (v10<(p0.nodes.length:Int)))then(
(zaO p0.nodes v10).bind λx22=>
some (x22.zaC,x22.parents,x22.w))
else(
some (0,0,[])):Option ((Int×Int×(List Int))))).bind λo=>match o with
|(b4_0,b4_1,b4_2)=>(
(zaO r5 v10).bind λx24=>
(zo3 r5 v10 x24 (zfT (ze6 (p0.nodes.length:Int) 1) 5) b4_1 l2').bind λy26=>
(zpF N (w64 (1+(w64 (p0.grain.tmod 60)))) x24 b4_2 y26).bind λy28=>
zbP N p0 r5 n (w64 (v10+1)) y28))
else(
some l2'))
def zcL(N:Nat)(p0:S_haruspexref05_Draft):Option S_api_Net:=
(zeh 56 (zfT (ze6 (p0.nodes.length:Int) 1) 5) (S_api_Node.mk 0 [] [])).bind λy1=>
(zeh 1 (zfT (ze6 (p0.nodes.length:Int) 1) 5) 0).bind λy3=>
(zbj N (S_haruspexref02_Draft.mk y3 0 p0.order)).bind λr5=>
((zbA p0 r5 ((zfT (ze6 (p0.nodes.length:Int) 1) 5) - 0+2:Int).toNat 1 0 y1:Option (List S_api_Node))).bind λl2=>
((zbP N p0 r5 ((zfT (ze6 (p0.nodes.length:Int) 1) 5) - 0+2:Int).toNat 0 l2:Option (List S_api_Node))).bind λl2'=>
some (S_api_Net.mk (w64 (1+(w64 (p0.grain.tmod 60)))) l2')
theorem ziI{p0:S_haruspexref05_Draft}{r:S_api_Net}(h:zcL N p0=some r):Lx.Fn mC 13 [(.agg [(dU8 p0.grain),(fzE false zan p0.nodes),(fzE false (eI .u8) p0.order)])] (.agg [(dI r.grain),(fzE true zac r.nodes)]):=by
 refine gnP (List.range 30) [30,31,32,33] ?_;unfold zcL at h;refine zag ?_;obtain⟨y1,g2,h⟩:=bsM h;obtain⟨y3,g4,h⟩:=bsM h;obtain⟨r5,g6,h⟩:=bsM h;refine sXM (anM ((zav g2).1.1) (anM ((zav g2).1.2) (anM @qbU (anM (show List.replicate (Int.toNat (zfT (ze6 (p0.nodes.length:Int) 1) 5)) [(dI 0),zbU,zbU]=y1.map (zam.c true)from zf3 g2 (zam.c true)) (anM ((zav g4).1.2) (mbM g4)))))) ?_;refine fCM (ze7 g6) ?_;obtain⟨o7,j7,h⟩:=bsM h;obtain⟨T7,hT7⟩:=mkT λa:(List S_api_Node)=>⟨187,[(1,(.ptr 0 0)),(2,(.ptr 1 0)),(3,(dI (zfT (ze6 (p0.nodes.length:Int) 1) 5))),(4,(.ptr 3 0)),(5,(fzE true (eI .i64) r5))],[.cells [(dU8 p0.grain),(fzE false zan p0.nodes),(fzE false (eI .u8) p0.order)],.cells [(dI 0),zbU],.els 3 (a.map (zam.c true)),.cells [(dI (w64 (1+(w64 (p0.grain.tmod 60))))),(.sl 2 0 3 (Int.toNat (zfT (ze6 (p0.nodes.length:Int) 1) 5)) (some (Int.toNat (zfT (ze6 (p0.nodes.length:Int) 1) 5))) (Int.toNat (zfT (ze6 (p0.nodes.length:Int) 1) 5)))]]⟩
 refine EvL.jn T7 (λa=>a=o7/\a.length=(Int.toNat (zfT (ze6 (p0.nodes.length:Int) 1) 5))) ?_ ?_
 .refine wSM ?_;obtain⟨T12,hT12⟩:=mkT λa:(Int×Int×(List S_api_Node))=>⟨187,[(1,(.ptr 0 0)),(2,(.ptr 1 0)),(3,(dI (zfT (ze6 (p0.nodes.length:Int) 1) 5))),(4,(.ptr 3 0)),(5,(fzE true (eI .i64) r5)),(6,(dI a.1)),(7,(dI a.2.1))],[.cells [(dU8 p0.grain),(fzE false zan p0.nodes),(fzE false (eI .u8) p0.order)],.cells [(dI 0),zbU],.els 3 (a.2.2.map (zam.c true)),.cells [(dI (w64 (1+(w64 (p0.grain.tmod 60))))),(.sl 2 0 3 (Int.toNat (zfT (ze6 (p0.nodes.length:Int) 1) 5)) (some (Int.toNat (zfT (ze6 (p0.nodes.length:Int) 1) 5))) (Int.toNat (zfT (ze6 (p0.nodes.length:Int) 1) 5)))]]⟩
  refine rdM hT12 (λn a=>zbA p0 r5 n a.1 a.2.1 a.2.2=some o7/\a.2.2.length=(Int.toNat (zfT (ze6 (p0.nodes.length:Int) 1) 5))) (1,0,y1) ⟨j7,zbp g2⟩ ?_;rintro n ⟨v6,v7,l2⟩ ⟨j7,el2⟩;simp only[zbA]at j7;refine wTM hT12 ?_;refine cBM j7 (λ_ j7=>?_) λ_ j7=>?_
  .obtain rfl:=qaj j7;exact zda hT7 _ ⟨rfl,el2⟩
  obtain⟨o13,j13,j7⟩:=bsM j7;obtain⟨T13,hT13⟩:=zey hT12 λa:(Int×Int×(List Int))=>uDM (T12 (v6,v7,l2)) [] [(8,(.ptr 4 0))] [] [.cells [(dU8 a.1),(dU8 a.2.1),(fzE false (eI .u8) a.2.2)]]
  refine EvL.jn T13 (λa=>a=o13) ?_ ?_
  .refine wSM ?_;refine cBM j13 (λ_ j13=>?_) λ_ j13=>?_
   .obtain rfl:=qaj j13;exact lfj hT13 rfl (wm0 [.k,.k,.k,.k,.k] ⟨MB.cs ⟨qdv,qdv,qdv,qdv⟩,⟨MB.cs ⟨qdv,qdv,qdv⟩,⟨MB.es zam true l2,⟨MB.cs ⟨qdv,rfl,qdv⟩,⟨MB.zCh (.cons (.same trivial) (.cons (.same trivial) (.cons (.fr (zjN (eI .u8))) .nil))),qdv⟩⟩⟩⟩⟩)
   obtain⟨x9,g10,j13⟩:=bsM j13;refine sXM (anM @zdq (zbo (n:=3) (e:=zan) rfl g10)) ?_;exact zef j13 hT13
  rintro⟨b4_0,b4_1,b4_2⟩ rfl;dsimp only at j7;refine wTM hT13 ?_;obtain⟨q11,g12,j7⟩:=bsM j7;refine sXM (anM ((zdd g12).1) ((zdd g12).2)) ?_;obtain⟨o14,j14,j7⟩:=bsM j7;obtain⟨T14,hT14⟩:=zey hT12 λa:Int=>uDM (T12 (v6,v7,l2)) [] [(9,(dI a))] [] []
  refine EvL.jn T14 _ (bJM j14 hT14) ?_;rintro v9 rfl;refine wTM hT14 ?_;obtain⟨x14,g15,j7⟩:=bsM j7;obtain⟨x16,g17,j7⟩:=bsM j7;obtain⟨y18,g19,j7⟩:=bsM j7;refine sXM (anM @zeY (anM (ixM g15) (anM el2 (anM (za4 g17) (anM (ltM el2 g17) (anM (zcW g17 (zam.c true)) (show(l2.map (zam.c true)).set x14.toNat [(dI v9),(nE true (eI .i64) x16.parents),(nE true (eL (eI .i64)) x16.rows)]=y18.map (zam.c true)from zeT g19 (zam.c true)))))))) ?_;exact zda hT12 ((w64 (v6 * v9)),(w64 (v7+1)),y18) ⟨j7,(zaZ g19).trans el2⟩
 rintro l2 ⟨rfl,el2⟩;refine wTM hT7 ?_;obtain⟨o18,j18,h⟩:=bsM h;obtain⟨T18,hT18⟩:=zey hT7 λa:(List S_api_Node)=>uKM (T7 l2) [2,4] [] [(0,.gone),(2,.els 3 (a.map (zam.c true)))] []
 refine EvL.jn T18 (λa=>a=o18/\a.length=(Int.toNat (zfT (ze6 (p0.nodes.length:Int) 1) 5))) ?_ ?_
 .refine wSM ?_;obtain⟨T21,hT21⟩:=zey hT7 λa:(Int×(List S_api_Node))=>uDM (T7 l2) [] [(10,(dI a.1))] [(2,.els 3 (a.2.map (zam.c true)))] []
  refine rdM hT21 (λn a=>zbP N p0 r5 n a.1 a.2=some o18/\a.2.length=(Int.toNat (zfT (ze6 (p0.nodes.length:Int) 1) 5))) (0,l2) ⟨j18,el2⟩ ?_;rintro n ⟨v10,l2'⟩ ⟨j18,el2'⟩;simp only[zbP]at j18;refine wTM hT21 ?_;refine cBM j18 (λ_ j18=>?_) λ_ j18=>?_
  .obtain rfl:=qaj j18;exact zda hT18 _ ⟨rfl,el2'⟩
  obtain⟨o22,j22,j18⟩:=bsM j18;obtain⟨T22,hT22⟩:=zey hT21 λa:(Int×Int×(List Int))=>uDM (T21 (v10,l2')) [] [(11,(.ptr 4 0))] [] [.cells [(dU8 a.1),(dU8 a.2.1),(fzE false (eI .u8) a.2.2)]]
  refine EvL.jn T22 (λa=>a=o22) ?_ ?_
  .refine wSM ?_;refine cBM j22 (λ_ j22=>?_) λ_ j22=>?_
   .obtain rfl:=qaj j22;exact lfj hT22 rfl (wm0 [.k,.k,.k,.k,.k] ⟨MB.cs ⟨qdv,qdv,qdv,qdv⟩,⟨MB.cs ⟨qdv,qdv,qdv⟩,⟨MB.es zam true l2',⟨MB.cs ⟨qdv,rfl,qdv⟩,⟨MB.zCh (.cons (.same trivial) (.cons (.same trivial) (.cons (.fr (zjN (eI .u8))) .nil))),qdv⟩⟩⟩⟩⟩)
   obtain⟨x22,g23,j22⟩:=bsM j22;refine sXM (anM @zdq (zbo (n:=3) (e:=zan) rfl g23)) ?_;exact zef j22 hT22
  rintro⟨b4_0,b4_1,b4_2⟩ rfl;dsimp only at j18;refine wTM hT22 ?_;obtain⟨x24,g25,j18⟩:=bsM j18;refine sXM (ixM g25) ?_;obtain⟨y26,g27,j18⟩:=bsM j18;refine EvL.zgK (S':=⟨187,[(1,(.ptr 0 0)),(2,(.ptr 1 0)),(3,(dI (zfT (ze6 (p0.nodes.length:Int) 1) 5))),(4,(.ptr 3 0)),(5,(fzE true (eI .i64) r5)),(10,(dI v10)),(11,(.ptr 4 0)),(12,(dI x24)),(13,(dI 0))],[.cells [(dU8 p0.grain),(fzE false zan p0.nodes),(fzE false (eI .u8) p0.order)],.cells [(dI 0),zbU],.els 3 (l2'.map (zam.c true)),.cells [(dI (w64 (1+(w64 (p0.grain.tmod 60))))),(.sl 2 0 3 (Int.toNat (zfT (ze6 (p0.nodes.length:Int) 1) 5)) (some (Int.toNat (zfT (ze6 (p0.nodes.length:Int) 1) 5))) (Int.toNat (zfT (ze6 (p0.nodes.length:Int) 1) 5)))],.cells [(dU8 b4_0),(dU8 b4_1),(fzE false (eI .u8) b4_2)]]⟩) (wAM) ?_;refine zC5 g27 (λkp=>⟨qdv,qdv,qdv,qdv⟩) (λkp=>⟨qdv,qdv,qdv⟩) (λkp=>trivial) (λkp=>trivial) el2' (zag ?_);refine sSM ?_;obtain⟨y28,g29,j18⟩:=bsM j18;refine EvL.zgK (S':=⟨187,[(1,(.ptr 0 0)),(2,(.ptr 1 0)),(3,(dI (zfT (ze6 (p0.nodes.length:Int) 1) 5))),(4,(.ptr 3 0)),(5,(fzE true (eI .i64) r5)),(10,(dI v10)),(11,(.ptr 4 0)),(12,(dI x24)),(15,(dI 0))],[.cells [(dU8 p0.grain),(fzE false zan p0.nodes),(fzE false (eI .u8) p0.order)],.cells [(dI 0),zbU],.els 3 (y26.map (zam.c true)),.cells [(dI (w64 (1+(w64 (p0.grain.tmod 60))))),(.sl 2 0 3 (Int.toNat (zfT (ze6 (p0.nodes.length:Int) 1) 5)) (some (Int.toNat (zfT (ze6 (p0.nodes.length:Int) 1) 5))) (Int.toNat (zfT (ze6 (p0.nodes.length:Int) 1) 5)))],.cells [(dU8 b4_0),(dU8 b4_1),(fzE false (eI .u8) b4_2)]]⟩) (wAM) ?_;refine zDc g29 (λkp=>⟨qdv,qdv,qdv,qdv⟩) (λkp=>⟨qdv,qdv,qdv⟩) (λkp=>trivial) (λkp=>trivial) ((zkO g27).trans el2') (zag ?_);refine sSM ?_;exact zda hT21 ((w64 (v10+1)),y28) ⟨j18,((zr7 g29).trans ((zkO g27).trans el2'))⟩
 rintro l2' ⟨rfl,el2'⟩;refine wTM hT18 ?_;obtain rfl:=qaj h;exact zkj.ret rfl (.zAQ (.cons (.lit _) (.cons (zrl (e:=zac) rfl (.inl rfl) (by rw[qar]; exact(el2').symm) (by rw[qar]; exact(el2').symm) (λk h=>by cases h; exact qao _) (zje (λ_=>rfl) l2')) .nil)))
def zcR(p0:Int):Option Bool:=
some false
theorem zfH{p0:Int}{r:Bool}(h:zcR p0=some r):Lx.Fn mC 140 [(dI p0)] (dB r):=by
 refine gnO ?_;unfold zcR at h;refine wSM ?_;exact rHM h
def zc9(p0:Int)(p1:Int):Option Bool:=
(((zcR p0).bind λr1=>
bif r1 then(
(zcR p1).bind λr4=>
bif r4 then(
some (decide (p0<p1)))
else(
some true))
else(
some (decide (p0<p1))):Option Bool)).bind λv4=>
some v4
theorem zjh{p0:Int}{p1:Int}{r:Bool}(h:zc9 p0 p1=some r):Lx.Fn mC 134 [(dI p0),(dI p1)] (dB r):=by
 refine gnO ?_;unfold zc9 at h;refine wSM ?_;obtain⟨o1,j1,h⟩:=bsM h;obtain⟨T1,hT1⟩:=mkT λa:Bool=>⟨17,[(4,(dB a))],[]⟩
 refine EvL.jn T1 (λa=>a=o1) ?_ ?_
 .refine zag ?_;obtain⟨r1,g2,j1⟩:=bsM j1;refine sSM ?_;refine fCM (zfH g2) ?_;refine cBM j1 (λ_ j1=>?_) λ_ j1=>?_
  .refine EvL.skip rfl ?_;refine sSM ?_;exact zef j1 hT1
  obtain⟨r4,g5,j1⟩:=bsM j1;refine sSM ?_;refine fCM (zfH g5) ?_;refine cBM j1 (λ_ j1=>?_) λ_ j1=>?_
  .exact zef j1 hT1
  exact zef j1 hT1
 rintro v4 rfl;refine wTM hT1 ?_;exact rHM h
def zbQ(p0:Int):Option Bool:=
some false
theorem zeE{p0:Int}{r:Bool}(h:zbQ p0=some r):Lx.Fn mC 135 [(dI p0)] (dB r):=by
 refine gnO ?_;unfold zbQ at h;refine wSM ?_;exact rHM h
def zar(p0:(List Int))(p1:Int):Nat->Int->Int->Option Int
 | 0,_,_=>none
 | n+1,v7,v8=>(
bif (decide (v7<v8))then(
(zki .u64 (IntKind.u64.wrap (w64 (v7+v8))) 1).bind λq2=>
(zaO p0 (w64 q2)).bind λx4=>
(zc9 x4 p1).bind λr6=>
bif r6 then(
zar p0 p1 n (w64 ((w64 q2)+1)) v8)
else(
zar p0 p1 n v7 (w64 q2)))
else(
some v7))
def zaP(p0:(List Int))(p1:Int):Option (Int×Bool):=
((zar p0 p1 ((p0.length:Int) - 0+2:Int).toNat 0 (p0.length:Int):Option Int)).bind λv7=>
((bif (decide (v7<(p0.length:Int)))then(
(zaO p0 v7).bind λx10=>
bif (x10 == p1)then(
some true)
else(
(zbQ x10).bind λr13=>
bif r13 then(
(zbQ p1).bind λr16=>
some r16)
else(
some false)))
else(
some false):Option Bool)).bind λv5=>
some (v7,v5)
theorem zec{p0:(List Int)}{p1:Int}{r:(Int×Bool)}(h:zaP p0 p1=some r):Lx.Fn mC 122 [(fzE false (eI .i64) p0),(dI p1)] (.tup [(dI r.1),(dB r.2)]):=by
 refine gnO ?_;unfold zaP at h;refine wSM ?_;obtain⟨o1,j1,h⟩:=bsM h;obtain⟨T1,hT1⟩:=mkT λa:Int=>⟨54,[(0,(fzE false (eI .i64) p0)),(1,(dI p1)),(6,(dI (p0.length:Int))),(7,(dI a))],[]⟩
 refine EvL.jn T1 (λa=>a=o1) ?_ ?_
 .refine wSM ?_;obtain⟨T2,hT2⟩:=mkT λa:(Int×Int)=>⟨54,[(0,(fzE false (eI .i64) p0)),(1,(dI p1)),(6,(dI (p0.length:Int))),(7,(dI a.1)),(8,(dI a.2))],[]⟩
  refine rdM hT2 (λn a=>zar p0 p1 n a.1 a.2=some o1) (0,(p0.length:Int)) j1 ?_;rintro n ⟨v7,v8⟩ j1;simp only[zar]at j1;refine wTM hT2 ?_;cases c1:(decide (v7<v8))
  .rw[c1,qdx]at j1;refine sSM ?_;replace j1:=qaj j1; subst j1;exact lfj hT1 rfl (wm0 [] (by exact trivial))
  rw[c1,qdw]at j1;obtain⟨q2,g3,j1⟩:=bsM j1;obtain⟨x4,g5,j1⟩:=bsM j1;obtain⟨r6,g7,j1⟩:=bsM j1;try simp only[rnA,Nat.reduceEqDiff,Nat.reduceLT,reduceCtorEq,(zbw g3).1,(zbw g3).2,zbo (n:=1) (e:=(eI .i64)) rfl g5]
  refine EvL.fn (zjh g7) rfl rfl (.cons (.lit _) (.cons (.lit _) .nil)) ?_;refine sSM ?_;refine cBM j1 (λ_ j1=>?_) λ_ j1=>?_
  .exact zda hT2 (v7,(w64 q2)) j1
  exact zda hT2 ((w64 ((w64 q2)+1)),v8) j1
 rintro v7 rfl;refine wTM hT1 ?_;obtain⟨o3,j3,h⟩:=bsM h;obtain⟨T3,hT3⟩:=mkT λa:Bool=>⟨54,[(4,(dI v7)),(5,(dB a))],[]⟩
 refine EvL.jn T3 (λa=>a=o3) ?_ ?_
 .refine wSM ?_;refine cBM j3 (λ_ j3=>?_) λ_ j3=>?_
  .refine EvL.skip rfl ?_;refine sSM ?_;refine EvL.skip rfl ?_;refine sSM ?_;obtain rfl:=qaj j3;exact zda hT3 _ rfl
  obtain⟨x10,g11,j3⟩:=bsM j3;refine sXM (ixM g11) ?_;refine cBM j3 (λ_ j3=>?_) λ_ j3=>?_
  .obtain⟨r13,g14,j3⟩:=bsM j3;refine sXM (ixM g11) ?_;refine fCM (zeE g14) ?_;refine cBM j3 (λ_ j3=>?_) λ_ j3=>?_
   .refine EvL.skip rfl ?_;refine sSM ?_;exact zef j3 hT3
   obtain⟨r16,g17,j3⟩:=bsM j3;refine sSM ?_;refine fCM (zeE g17) ?_;exact zef j3 hT3
  refine EvL.skip rfl ?_;refine sSM ?_;refine EvL.skip rfl ?_;refine sSM ?_;exact zef j3 hT3
 rintro v5 rfl;refine wTM hT3 ?_;exact rHM h
def zaX(y7:(List Int))(p0:S_net_network)(r3:(Int×Bool)):Nat->Int->Int->(List Int)->Option (Int×(List Int))
 | 0,_,_,_=>none
 | n+1,v40,b6_0,l7=>(
bif (decide (v40<((y7.length:Nat):Int)))then(
(zaO y7 v40).bind λx10=>
(zaO p0.zae x10).bind λx12=>
(zdi 8 l7 [x12]).bind λy14=>
((bif (decide (r3.1<v40))then(
some (w64 (b6_0 * x12)))
else(
some b6_0):Option Int)).bind λb6_0'=>
zaX y7 p0 r3 n (w64 (v40+1)) b6_0' y14)
else(
some (b6_0,l7)))
def zaW(y23:(Int×(List Int)))(b6_0:Int)(x1:S_api_Node):Nat->Int->(List Int)->Option (List Int)
 | 0,_,_=>none
 | n+1,v80,l8'=>(
bif (decide (v80<(y23.2.length:Int)))then(
(zaO y23.2 v80).bind λx25=>
(zrD .i64 y23.1 b6_0).bind λq27=>
(zqt y23.1 b6_0).bind λq29=>
(zaO l8' (w64 ((w64 ((w64 ((w64 (q27 * x1.zaC))+v80))* b6_0))+q29))).bind λx31=>
(ze5 l8' (w64 ((w64 ((w64 ((w64 (q27 * x1.zaC))+v80))* b6_0))+q29)) x25).bind λy33=>
zaW y23 b6_0 x1 n (w64 (v80+1)) y33)
else(
some l8'))
def zaV(b6_0:Int)(x1:S_api_Node):List (Int×(List Int))->(List Int)->Option (List Int)
 | [],l8=>some l8
 | y23 :: ys,l8=>(
((zaW y23 b6_0 x1 ((y23.2.length:Int) - 0+2:Int).toNat 0 l8:Option (List Int))).bind λl8'=>
zaV b6_0 x1 ys l8')
def zbD(p0:S_net_network)(p1:Int):Option S_api_Factor:=
(zaO p0.net.nodes p1).bind λx1=>
(zaP x1.parents p1).bind λr3=>
(zd5 8 x1.parents).bind λy5=>
(zAp 8 y5 r3.1 [p1]).bind λy7=>
((zaX y7 p0 r3 (((y7.length:Nat):Int) - 0+2:Int).toNat 0 1 []:Option ((Int×(List Int))))).bind λo=>match o with
|(b6_0,l7)=>(
(zeh 8 (w64 ((x1.rows.length:Int)* x1.zaC)) 0).bind λy17=>
(ze8 x1).bind λr19=>
(zeR r19.rows).bind λu21=>
((zaV b6_0 x1 (zuk r19.rows) y17:Option (List Int))).bind λl8=>
some (S_api_Factor.mk y7 l7 l8))
theorem zgc{p0:S_net_network}{p1:Int}{r:S_api_Factor}(h:zbD p0 p1=some r):Lx.Fn mC 104 [(.agg [(dI p0.net.grain),(fzE false zac p0.net.nodes),(fzE false (eI .i64) p0.zae),(fzE false (eI .u64) p0.sets),(fzE false (eI .i64) p0.order)]),(dI p1)] (.agg [(fzE true (eI .i64) r.vars),(fzE true (eI .i64) r.zae),(fzE true (eI .i64) r.w)]):=by
 refine gnO ?_;unfold zbD at h;refine zag ?_;obtain⟨x1,g2,h⟩:=bsM h;obtain⟨r3,g4,h⟩:=bsM h;refine sXM (anM @zaM (zbo (n:=3) (e:=zac) rfl g2)) ?_;refine fCM (zec g4) ?_;obtain⟨y5,g6,h⟩:=bsM h;refine sSM ?_;refine EvL.clone (t:=false) (zs:=x1.parents) g6 rfl rfl ?_;obtain⟨y7,g8,h⟩:=bsM h;refine sSM ?_;refine EvL.insert (zs:=y5) (t:=true) (us:=[p1]) (t2:=true) g8 rfl rfl rfl rfl rfl rfl rfl rfl rfl ?_;refine sSM ?_;obtain⟨o5,j5,h⟩:=bsM h;obtain⟨T5,hT5⟩:=mkT λa:(Int×(List Int))=>⟨105,[(4,(.ptr 1 0)),(5,(.ptr 2 0)),(8,(.ptr 5 0)),(9,(.ptr 6 0))],[.gone,.cells [zbU,zbU,zbU],.cells [(dI x1.zaC),(fzE false (eI .i64) x1.parents),(fzE false (eL (eI .i64)) x1.rows)],.els 1 (y7.map ((eI .i64).c true)),.gone,.cells [(.sl 3 0 1 y7.length none y7.length),(.sl 7 0 1 a.2.length none a.2.length),zbU],.cells [(dI a.1)],.grow 1 (a.2.map ((eI .i64).c true))]⟩
 refine EvL.jn T5 (λa=>a=o5) ?_ ?_
 .refine wSM ?_;obtain⟨T9,hT9⟩:=mkT λa:(Int×Int×(List Int))=>⟨105,[(2,(.ptr 0 0)),(4,(.ptr 1 0)),(5,(.ptr 2 0)),(6,(dI r3.1)),(8,(.ptr 5 0)),(9,(.ptr 6 0)),(38,(.sl 3 0 1 y7.length none y7.length)),(39,(dI ((y7.length:Nat):Int))),(40,(dI a.1))],[.cells [(dI p0.net.grain),(fzE false zac p0.net.nodes),(fzE false (eI .i64) p0.zae),(fzE false (eI .u64) p0.sets),(fzE false (eI .i64) p0.order)],.cells [zbU,zbU,zbU],.cells [(dI x1.zaC),(fzE false (eI .i64) x1.parents),(fzE false (eL (eI .i64)) x1.rows)],.els 1 (y7.map ((eI .i64).c true)),.gone,.cells [(.sl 3 0 1 y7.length none y7.length),(.sl 7 0 1 a.2.2.length none a.2.2.length),zbU],.cells [(dI a.2.1)],.grow 1 (a.2.2.map ((eI .i64).c true))]⟩
  refine EvL.zgK (za8.zBR (n:=1) (β:=5) (o:=1) (by decide) rfl rfl) ?_;refine EvL.rounds (α:=(Int×Int×(List Int))) T9 (λn a=>zaX y7 p0 r3 n a.1 a.2.1 a.2.2=some o5) (((y7.length:Nat):Int) - 0+2:Int).toNat (0,1,[]) (by rw[hT9]; exact wm0 [.k,.k,.k,.k,.d,.k,.k,.k] ⟨MB.cs ⟨qdv,qdv,qdv,qdv,qdv,qdv⟩,⟨MB.cs ⟨qdv,qdv,qdv,qdv⟩,⟨MB.cs ⟨qdv,qdv,qdv,qdv⟩,⟨MB.es (eI .i64) true y7,⟨rfl,⟨MB.cs ⟨rfl,rfl,qdv,qdv⟩,⟨MB.cs ⟨qdv,qdv⟩,⟨MB.gs (eI .i64) true [],qdv⟩⟩⟩⟩⟩⟩⟩⟩) j5 (λ_ h=>nomatch (show(none:Option (Int×(List Int)))=some o5 from h)) ?_;rintro n ⟨v40,b6_0,l7⟩ j5;simp only[zaX]at j5;refine wTM hT9 ?_;refine cBM j5 (λ_ j5=>?_) λ_ j5=>?_
  .exact zef j5 hT5
  obtain⟨x10,g11,j5⟩:=bsM j5;obtain⟨x12,g13,j5⟩:=bsM j5;obtain⟨y14,g15,j5⟩:=bsM j5;refine sXM (anM (za4 g11) (anM (show v40<((y7.length:Nat):Int)from zfy g11) (anM (giM g11) (anM (ixM g13) (anM (zbN g15) (anM (plM g15) (piM g15))))))) ?_;obtain⟨o10,j10,j5⟩:=bsM j5;obtain⟨T10,hT10⟩:=zey hT9 λa:Int=>uDM (T9 (v40,b6_0,l7)) [] [] [(5,.cells [(.sl 3 0 1 y7.length none y7.length),(.sl 7 0 1 y14.length none y14.length),zbU]),(6,.cells [(dI a)]),(7,.grow 1 (y14.map ((eI .i64).c true)))] []
  refine EvL.jn T10 (λa=>a=o10) ?_ ?_
  .refine wSM ?_;refine cBM j10 (λ_ j10=>?_) λ_ j10=>?_
   .exact zef j10 hT10
   refine sXM (ixM g13) ?_;exact zef j10 hT10
  rintro b6_0' rfl;refine wTM hT10 ?_;exact zda hT9 ((w64 (v40+1)),b6_0',y14) j5
 rintro⟨b6_0,l7⟩ rfl;dsimp only at h;refine wTM hT5 ?_;obtain⟨y17,g18,h⟩:=bsM h;obtain⟨r19,g20,h⟩:=bsM h;refine sXM (anM ((zav g18).1.1) (anM ((zav g18).1.2) (anM @qbU (miM g18)))) ?_;refine fDM (zjL g20) ?_;refine sXM @zaM ?_;obtain⟨u21,g22,h⟩:=bsM h;obtain⟨o15,j15,h⟩:=bsM h;obtain⟨T15,hM15⟩:∃ T:(List Int)->List LB,T=(λa=>[.gone,.cells [zbU,zbU,zbU],.cells [(dI x1.zaC),(fzE false (eI .i64) x1.parents),(fzE false (eL (eI .i64)) x1.rows)],.els 1 (y7.map ((eI .i64).c true)),.gone,.cells [(.sl 3 0 1 y7.length none y7.length),(.sl 7 0 1 l7.length none l7.length),(.sl 8 0 1 (Int.toNat (w64 ((x1.rows.length:Int)* x1.zaC))) (some (Int.toNat (w64 ((x1.rows.length:Int)* x1.zaC)))) (Int.toNat (w64 ((x1.rows.length:Int)* x1.zaC))))],.cells [(dI b6_0)],.grow 1 (l7.map ((eI .i64).c true)),.els 1 (a.map ((eI .i64).c true))]):=⟨_,rfl⟩;refine EvL.zgK (S':=⟨105,[(4,(.ptr 1 0)),(5,(.ptr 2 0)),(8,(.ptr 5 0)),(9,(.ptr 6 0)),(75,(.clo 129 [] [(.fptr false (zac.c false r19))]))],T15 y17⟩) (by rw[hM15]; exact wm0 [.k,.k,.k,.k,.k,.k,.k,.k,.k] ⟨MB.same trivial,⟨MB.cs ⟨qdv,qdv,qdv,qdv⟩,⟨MB.cs ⟨qdv,qdv,qdv,qdv⟩,⟨MB.es (eI .i64) true y7,⟨MB.same trivial,⟨MB.cs ⟨rfl,rfl,rfl,qdv⟩,⟨MB.cs ⟨qdv,qdv⟩,⟨MB.gs (eI .i64) true l7,⟨MB.es (eI .i64) true y17,qdv⟩⟩⟩⟩⟩⟩⟩⟩⟩) ?_;refine EvL.zfS (n0:=9) (ziG r19 g22) rfl (bm:=.block 3 (.seq (.reg false false [⟨some 78,.mov (.s 13),none⟩,⟨some 79,.len (.s 78),none⟩,⟨some 80,.mov (.c (.int .i64 0)),none⟩]) (.scope (.block 4 (.loop (.seq (.reg false false [⟨some 81,.bin .lss (.s 80) (.s 79),none⟩]) (.seq (.cond (.s 81) (.skip) (.exit 4)) (.seq (.block 5 (.seq (.reg false false [⟨some 82,.mov (.s 80),none⟩,⟨some 83,.idxS 1 (.s 78) (.s 80),none⟩,⟨some 84,.load none (.s 83),none⟩,⟨some 14,.mov (.s 82),none⟩,⟨some 15,.mov (.s 84),none⟩]) (.reg true false [⟨some 85,.fld 2 (.s 8),none⟩,⟨some 86,.load none (.s 85),none⟩,⟨some 87,.mov (.s 12),none⟩,⟨some 88,.load none (.s 9),none⟩,⟨some 89,.bin .quo (.s 87) (.s 88),none⟩,⟨some 90,.fld 0 (.s 5),none⟩,⟨some 91,.load none (.s 90),none⟩,⟨some 92,.bin .mul (.s 89) (.s 91),none⟩,⟨some 93,.mov (.s 14),none⟩,⟨some 94,.bin .add (.s 92) (.s 93),none⟩,⟨some 95,.load none (.s 9),none⟩,⟨some 96,.bin .mul (.s 94) (.s 95),none⟩,⟨some 97,.mov (.s 12),none⟩,⟨some 98,.load none (.s 9),none⟩,⟨some 99,.bin .rem (.s 97) (.s 98),none⟩,⟨some 100,.bin .add (.s 96) (.s 99),none⟩,⟨some 101,.mov (.s 15),none⟩,⟨some 102,.idxS 1 (.s 86) (.s 100),none⟩,⟨none,.store 1 (.s 102) (.s 101),none⟩]))) (.reg false false [⟨some 103,.bin .add (.s 80) (.c (.int .i64 1)),none⟩,⟨some 80,.mov (.s 103),none⟩]))))))))) rfl T15 (λi a=>zaV b6_0 x1 ((zuk r19.rows).drop i) a=some o15/\a.length=(Int.toNat (w64 ((x1.rows.length:Int)* x1.zaC)))) (λx L1=>match x with | .normal=>∃ a,o15=a/\a.length=(Int.toNat (w64 ((x1.rows.length:Int)* x1.zaC)))/\L1=T15 a | .ret=>L1.length=9/\zc1 (9+1) L1/\(zkj [.cell 4 (some 3)] ((.agg [(fzE true (eI .i64) r.vars),(fzE true (eI .i64) r.zae),(fzE true (eI .i64) r.w)]))) .ret ⟨105,[(4,(.ptr 1 0)),(5,(.ptr 2 0)),(8,(.ptr 5 0)),(9,(.ptr 6 0)),(75,(.clo 129 [] [(.fptr false (zac.c false r19))]))],L1 ++ [.lost]⟩| _=>False) y17 ?_ (qaz _) ?_ ?_ ?_ (λd L1 hx=>hx.elim) ?_ ?_ ?_ ?_ ?_ ?_
 .intro a; rw[hM15]; rfl
 .exact⟨(qae rfl),(qae rfl),(qae rfl),(qae rfl),⟨qdv,⟨qdv,qdv⟩⟩,qdv⟩
 .intro a; rw[hM15]; exact⟨qdv,⟨qdv,qdv,qdv,qdv⟩,⟨qdv,qdv,qdv,qdv⟩,(zdC (eI .i64) _ _ _),qdv,⟨(qae rfl),(qae rfl),(qae rfl),qdv⟩,⟨qdv,qdv⟩,(zdC (eI .i64) _ _ _),(zdC (eI .i64) _ _ _),qdv⟩
 .intro x L1 hx;cases x with
  | normal=>obtain⟨a,_,_,rfl⟩:=hx; exact⟨by rw[hM15]; rfl,by rw[hM15]; exact⟨qdv,⟨qdv,qdv,qdv,qdv⟩,⟨qdv,qdv,qdv,qdv⟩,(zdC (eI .i64) _ _ _),qdv,⟨(qae rfl),(qae rfl),(qae rfl),qdv⟩,⟨qdv,qdv⟩,(zdC (eI .i64) _ _ _),(zdC (eI .i64) _ _ _),qdv⟩⟩
  | ret=>exact⟨hx.1,hx.2.1⟩
  | exit id=>exact hx.elim
  | panic d=>exact hx.elim
 .exact⟨j15,zbp g18⟩
 .rintro i l8 y23 args G lpF hy ⟨hi15,el8⟩ ⟨rfl,rfl⟩ hkin;rw[zfv hy]at hi15;simp only[zaV]at hi15;refine⟨_,_,rfl,rfl,?_⟩;rw[congrFun hM15 l8];refine zag ?_;refine sXM @zaM ?_;obtain⟨o16,j16,hi15⟩:=bsM hi15;obtain⟨T16,hT16⟩:=mkT λa:(List Int)=>⟨105,[],[.gone,.cells [zbU,zbU,zbU],.cells [(dI x1.zaC),(fzE false (eI .i64) x1.parents),(fzE false (eL (eI .i64)) x1.rows)],.els 1 (y7.map ((eI .i64).c true)),.gone,.cells [(.sl 3 0 1 y7.length none y7.length),(.sl 7 0 1 l7.length none l7.length),(.sl 8 0 1 (Int.toNat (w64 ((x1.rows.length:Int)* x1.zaC))) (some (Int.toNat (w64 ((x1.rows.length:Int)* x1.zaC)))) (Int.toNat (w64 ((x1.rows.length:Int)* x1.zaC))))],.cells [(dI b6_0)],.grow 1 (l7.map ((eI .i64).c true)),.els 1 (a.map ((eI .i64).c true)),lpF]⟩
  refine EvL.jn T16 (λa=>a=o16/\a.length=(Int.toNat (w64 ((x1.rows.length:Int)* x1.zaC)))) ?_ ?_
  .refine wSM ?_;obtain⟨T17,hT17⟩:=mkT λa:(Int×(List Int))=>⟨105,[(5,(.ptr 2 0)),(8,(.ptr 5 0)),(9,(.ptr 6 0)),(12,(dI y23.1)),(78,(fzE false (eI .i64) y23.2)),(79,(dI (y23.2.length:Int))),(80,(dI a.1))],[.gone,.cells [zbU,zbU,zbU],.cells [(dI x1.zaC),(fzE false (eI .i64) x1.parents),(fzE false (eL (eI .i64)) x1.rows)],.els 1 (y7.map ((eI .i64).c true)),.gone,.cells [(.sl 3 0 1 y7.length none y7.length),(.sl 7 0 1 l7.length none l7.length),(.sl 8 0 1 (Int.toNat (w64 ((x1.rows.length:Int)* x1.zaC))) (some (Int.toNat (w64 ((x1.rows.length:Int)* x1.zaC)))) (Int.toNat (w64 ((x1.rows.length:Int)* x1.zaC))))],.cells [(dI b6_0)],.grow 1 (l7.map ((eI .i64).c true)),.els 1 (a.2.map ((eI .i64).c true)),lpF]⟩
   refine EvL.rounds (α:=(Int×(List Int))) T17 (λn a=>zaW y23 b6_0 x1 n a.1 a.2=some o16/\a.2.length=(Int.toNat (w64 ((x1.rows.length:Int)* x1.zaC)))) ((y23.2.length:Int) - 0+2:Int).toNat (0,l8) (by rw[hT17]; exact za8.mK (k0:=10) [.k,.k,.k,.k,.k,.k,.k,.k,.k,.k] rfl rfl (msq (msq (msq (msq (msq (msq (msq trivial))))))) ⟨MB.same trivial,⟨MB.cs ⟨qdv,qdv,qdv,qdv⟩,⟨MB.cs ⟨qdv,qdv,qdv,qdv⟩,⟨MB.es (eI .i64) true y7,⟨MB.same trivial,⟨MB.cs ⟨rfl,rfl,rfl,qdv⟩,⟨MB.cs ⟨qdv,qdv⟩,⟨MB.gs (eI .i64) true l7,⟨MB.es (eI .i64) true l8,⟨.same (hkin _ (by decide)),qdv⟩⟩⟩⟩⟩⟩⟩⟩⟩⟩) ⟨j16,el8⟩ (λ_ h=>nomatch (show(none:Option (List Int))=some o16 from h.1)) ?_;rintro n ⟨v80,l8'⟩ ⟨j16,el8'⟩;simp only[zaW]at j16;refine wTM hT17 ?_;refine cBM j16 (λ_ j16=>?_) λ_ j16=>?_
   .obtain rfl:=qaj j16;exact⟨_,⟨rfl,el8'⟩,by rw[hT16]; exact za8.mK (k0:=10) [.k,.k,.k,.k,.k,.k,.k,.k,.k,.k] rfl rfl qdv ⟨MB.same trivial,⟨MB.cs ⟨qdv,qdv,qdv,qdv⟩,⟨MB.cs ⟨qdv,qdv,qdv,qdv⟩,⟨MB.es (eI .i64) true y7,⟨MB.same trivial,⟨MB.cs ⟨rfl,rfl,rfl,qdv⟩,⟨MB.cs ⟨qdv,qdv⟩,⟨MB.gs (eI .i64) true l7,⟨MB.es (eI .i64) true l8',⟨.same (hkin _ (by decide)),qdv⟩⟩⟩⟩⟩⟩⟩⟩⟩⟩⟩
   obtain⟨x25,g26,j16⟩:=bsM j16;obtain⟨q27,g28,j16⟩:=bsM j16;obtain⟨q29,g30,j16⟩:=bsM j16;obtain⟨x31,g32,j16⟩:=bsM j16;obtain⟨y33,g34,j16⟩:=bsM j16;refine sXM (anM (ixM g26) (anM (zl1 g28) (anM (zpQ g28) (anM (zii g30) (anM el8' (anM (za4 g32) (anM (ltM el8' g32) (anM (giM g32) (siM g34))))))))) ?_;exact⟨((w64 (v80+1)),y33),⟨j16,(zaZ g34).trans el8'⟩,by rw[hT17]; exact za8.mK (k0:=10) [.k,.k,.k,.k,.k,.k,.k,.k,.k,.k] rfl rfl (msq (msq (msq (msq (msq (msq (msq trivial))))))) ⟨MB.same trivial,⟨MB.cs ⟨qdv,qdv,qdv,qdv⟩,⟨MB.cs ⟨qdv,qdv,qdv,qdv⟩,⟨MB.es (eI .i64) true y7,⟨MB.same trivial,⟨MB.cs ⟨rfl,rfl,rfl,qdv⟩,⟨MB.cs ⟨qdv,qdv⟩,⟨MB.gs (eI .i64) true l7,⟨MB.es (eI .i64) true y33,⟨.same (hkin _ (by decide)),qdv⟩⟩⟩⟩⟩⟩⟩⟩⟩⟩⟩
  rintro l8' ⟨rfl,el8'⟩;refine wTM hT16 ?_;exact⟨T15 l8',by rw[hM15]; rfl,by rw[hM15]; exact za8.mK [.k,.k,.k,.k,.k,.k,.k,.k,.k,.k] rfl rfl qdv ⟨MB.same trivial,⟨MB.cs ⟨qdv,qdv,qdv,qdv⟩,⟨MB.cs ⟨qdv,qdv,qdv,qdv⟩,⟨MB.es (eI .i64) true y7,⟨MB.same trivial,⟨MB.cs ⟨rfl,rfl,rfl,qdv⟩,⟨MB.cs ⟨qdv,qdv⟩,⟨MB.gs (eI .i64) true l7,⟨MB.es (eI .i64) true l8',⟨.same (hkin _ (by decide)),qdv⟩⟩⟩⟩⟩⟩⟩⟩⟩⟩,l8',⟨hi15,el8'⟩,rfl⟩
 .rintro l8 ⟨hi15,el8⟩;rw[qbq]at hi15;simp only[zaV]at hi15;exact⟨l8,(qaj hi15).symm,el8,rfl⟩
 .rintro _ ⟨l8,oeq,el8,rfl⟩;have oeq2:=oeq.symm;subst oeq2;rw[congrFun hM15 l8];refine zag ?_;refine sXM @zaM ?_;exact rHM h
 .intro id L1 hx; exact hx.elim
 intro L1 hx; exact hx.2.2
structure StR where
 count:Int
 product:S_api_Factor
abbrev StI:Type:=StR×List S_api_Factor
def zfg(q:S_eliminate_query):List S_api_Factor->List Int->Option (List StI)
 | l,[]=>(za2 l).bind λp=>some [(⟨(l.length:Int),p⟩,l)]
 | l,x :: xs=>(zaO q.known x).bind λkx=>bif decide (0<=kx)then zfg q l xs else(zcM l x).bind λr=>bif (r.1.length:Int)== 0 then zfg q l xs else
   (za2 r.1).bind λp=>(zbH p x).bind λy=>(zdi 72 r.2 [y.1]).bind λl'=>(zfg q l' xs).bind λu=>some ((⟨(r.1.length:Int),p⟩,l):: u)
def zow(q:S_eliminate_query)(l:List S_api_Factor)(order:List Int):Option (List StI):=(zeR order).bind λ_=>zfg q l order
def stG(l:List S_api_Factor)(u:List StI)(i:Nat):LB:=.cells [fzE false zaa (match u[i]? with | some y=>y.2 | none=>l)]
theorem zu1(l:List S_api_Factor)(u:List StI)(i:Nat)(kp:Nat->Bool):LB.kin kp (stG l u i):=⟨qdv,qdv⟩
theorem zx1(l:List S_api_Factor)(u:List StI)(i n:Nat):LB.sc n (stG l u i):=⟨qdv,qdv⟩
theorem zg8{q:S_eliminate_query}:∀ {xs:List Int} {l:List S_api_Factor} {u:List StI},zfg q l xs=some u->∃ y u',u=y :: u'/\y.2=l
 | [],l,u,h=>by
  obtain⟨p,_,h⟩:=bsM h;cases h;exact⟨_,[],rfl,rfl⟩
 | x :: xs,l,u,h=>by
  unfold zfg at h;obtain⟨kx,_,h⟩:=bsM h;cases h1:decide (0<=kx)with
  | true=>rw[h1,qdw]at h; exact zg8 h
  | false=>
  rw[h1,qdx]at h;obtain⟨r,_,h⟩:=bsM h;cases h2:((r.1.length:Int)== 0)with
  | true=>rw[h2,qdw]at h; exact zg8 h
  | false=>
  rw[h2,qdx]at h;obtain⟨p,_,h⟩:=bsM h;obtain⟨y,_,h⟩:=bsM h;obtain⟨l',_,h⟩:=bsM h;obtain⟨u',_,h⟩:=bsM h;cases h;exact⟨_,u',rfl,rfl⟩
variable{xs:List Int}{l:List S_api_Factor}{u:List StI}
theorem zqi{q:S_eliminate_query}(h:zfg q l xs=some u):stG l u 0=.cells [fzE false zaa l]:=by
 obtain⟨y,u',rfl,e⟩:=zg8 h;show LB.cells [fzE false zaa y.2]=_;rw[e]
theorem zsZ{q:S_eliminate_query}(h:zow q l xs=some u):stG l u 0=.cells [fzE false zaa l]:=by
 obtain⟨_,_,h⟩:=bsM h;exact zqi h
def stY(y:StI)(n0:Nat)(args:List D)(G:List LB):Prop:=
 args=[.agg [dI y.1.count,fzE true (eI .i64) y.1.product.vars,fzE true (eI .i64) y.1.product.zae,fzE true (eI .i64) y.1.product.w]]/\∃ gB,(∀ kp,LB.kin kp gB)/\G=[.gone,gB]
def zCf:C:=.reg false false [⟨some 16,.idxS 1 (.s 12) (.s 14),none⟩,
 ⟨some 17,.load none (.s 16),none⟩,
 ⟨some 6,.alloc [(.int .i64 0)],none⟩,
 ⟨none,.store 1 (.s 6) (.s 17),none⟩]
def zCM:C:=.seq (.reg false false [⟨some 18,.fld 2 (.s 2),none⟩,
 ⟨some 19,.load none (.s 18),none⟩,
 ⟨some 20,.load none (.s 6),none⟩,
 ⟨some 21,.idxS 1 (.s 19) (.s 20),none⟩,
 ⟨some 22,.load none (.s 21),none⟩,
 ⟨some 23,.bin .geq (.s 22) (.c (.int .i64 0)),none⟩])
 (.cond (.s 23) (.exit 1)
 (.skip))
def zB7:C:=.reg false false [⟨some 25,.load none (.s 3),none⟩,
 ⟨some 26,.clo 80 [] [(.s 6)],none⟩,
 ⟨some 27,.call 79 [(.s 25),(.s 26)],none⟩,
 ⟨some 24,.mov (.s 27),none⟩,
 ⟨some 28,.ext (.s 24) 0,none⟩,
 ⟨some 29,.ext (.s 24) 1,none⟩,
 ⟨some 7,.mov (.s 28),none⟩,
 ⟨some 8,.mov (.s 29),none⟩]
def zBH:C:=.seq (.reg false false [⟨some 30,.mov (.s 7),none⟩,
 ⟨some 31,.len (.s 30),none⟩,
 ⟨some 32,.bin .eql (.s 31) (.c (.int .i64 0)),none⟩])
 (.cond (.s 32) (.exit 1)
 (.skip))
def zDb:C:=.reg false false [⟨some 33,.mov (.s 7),none⟩,
 ⟨some 34,.call 81 [(.s 33)],none⟩,
 ⟨some 9,.alloc [(.slice none 0 0),(.slice none 0 0),(.slice none 0 0)],none⟩,
 ⟨none,.store 3 (.s 9) (.s 34),none⟩]
def zBw:C:=.seq (.reg false false [⟨some 35,.mov (.s 0),none⟩,
 ⟨some 36,.mov (.s 7),none⟩,
 ⟨some 37,.len (.s 36),none⟩,
 ⟨some 38,.load (some 3) (.s 9),none⟩,
 ⟨some 39,.build [(.int .i64 0),(.slice none 0 0),(.slice none 0 0),(.slice none 0 0)] [(0,1,(.s 37)),(1,3,(.s 38))],none⟩,
 ⟨some 40,.zdE (.s 35) [(.s 39)],none⟩,
 ⟨some 41,.un .not (.s 40),none⟩])
 (.cond (.s 41) (.ret)
 (.skip))
def zB9:C:=.reg false false [⟨some 43,.load (some 3) (.s 9),none⟩,
 ⟨some 44,.load none (.s 6),none⟩,
 ⟨some 45,.call 82 [(.s 43),(.s 44)],none⟩,
 ⟨some 42,.mov (.s 45),none⟩,
 ⟨some 46,.ext (.s 42) 0,none⟩,
 ⟨some 47,.ext (.s 42) 1,none⟩,
 ⟨some 10,.alloc [(.slice none 0 0),(.slice none 0 0),(.slice none 0 0)],none⟩,
 ⟨none,.store 3 (.s 10) (.s 46),none⟩,
 ⟨some 11,.mov (.s 47),none⟩]
def zBr:C:=.reg false false [⟨some 48,.mov (.s 8),none⟩,
 ⟨some 49,.load (some 3) (.s 10),none⟩,
 ⟨some 50,.bsl 3 1 [(.slice none 0 0),(.slice none 0 0),(.slice none 0 0)] [(0,(.s 49))],none⟩,
 ⟨some 51,.app 3 72 (.s 48) (.s 50),none⟩,
 ⟨none,.store 1 (.s 3) (.s 51),none⟩]
def zBl:C:=.seq zCf (.seq zCM (.seq zB7 (.seq zBH (.seq zDb (.seq zBw (.seq zB9 zBr))))))
def ztW:C:=.seq (.reg false false [⟨some 15,.bin .lss (.s 14) (.s 13),none⟩]) (.seq (.cond (.s 15) (.skip)
 (.exit 0)) (.seq (.scope (.block 1 zBl)) (.reg false false [⟨some 52,.bin .add (.s 14) (.c (.int .i64 1)),none⟩,
 ⟨some 14,.mov (.s 52),none⟩])))
def zx8:C:=.reg true false [⟨some 53,.mov (.s 0),none⟩,
 ⟨some 54,.load none (.s 3),none⟩,
 ⟨some 55,.len (.s 54),none⟩,
 ⟨some 56,.load none (.s 3),none⟩,
 ⟨some 57,.call 81 [(.s 56)],none⟩,
 ⟨some 58,.build [(.int .i64 0),(.slice none 0 0),(.slice none 0 0),(.slice none 0 0)] [(0,1,(.s 55)),(1,3,(.s 57))],none⟩,
 ⟨some 59,.zdE (.s 53) [(.s 58)],none⟩]
def zEK:C:=.seq (.seq (.reg false false [⟨some 12,.load none (.s 1),none⟩,
 ⟨some 13,.len (.s 12),none⟩,
 ⟨some 14,.mov (.c (.int .i64 0)),none⟩]) (.scope (.block 0 (.loop ztW)))) zx8
theorem zBG:zsJ mC 78=some (60,zEK,[],false):=zhR (by kernel_rfl)
theorem drop_cons{α:Type}{u r:List α}{j:Nat}{y:α}(h:u.drop j=y :: r):u[j]? = some y/\u.drop (j+1)=r:=by
 have hj:j<u.length:=by
  refine Nat.lt_of_not_le λhn=>?_
  rw[qbb hn]at h;cases h
 rw[qaA hj]at h;exact⟨by rw[qac hj,(qcC h).1],(qcC h).2⟩
theorem za8.zDQ{k0 n:Nat}{E E':List (Nat×D)}{L L1 X:List LB}(ws:List Lx.Act)(hn:L.length=n)(hk:k0<=n)(hl:L1.length=n)(hb:∀(j:Nat) b b',L[j]? = some b->L1[j]? = some b'->MB (L ++ X) (isF (zem n ws)) (isK (zem n ws)) b b')(hY:zko ws 0=true)(hE:MEs (L ++ X) (zem n ws) E E'):za8 k0 ⟨N,E,L ++ X⟩ ⟨N,E',L1⟩:=by
 have hX:MBx (L ++ X) (isF (zem n ws)) (isK (zem n ws)) ws X []:=by cases ws<;>cases X<;>trivial
 have h:=za8.zAa (N:=N) ws hn hk hl hb hX hY hE
 rwa [qaZ]at h
theorem zuy{q:S_eliminate_query}{l0:List S_api_Factor}{order:List Int}(hu0:zow q l0 order=some u)(κ:Nat):
  zEr mC 78 [] [.fptr false ((eL (eI .i64)).c false order),.fptr false (zao.c false q),.ptr κ 0] u stY κ (stG l0 u):=by
 intro n0 β P Ps hβ hκ hne hlen hset hround L hP;obtain⟨_,hsm,hu⟩:=bsM hu0;refine zdu.ofM zBG (ze9 rfl) (qae rfl) ?_;rw[zqi hu]at hP;have hL:=(hlen _ _ _ hP).1;unfold zEK;refine wSM ?_;refine EvL.scope (zag ?_);refine sSM ?_;rw[hL];refine EvL.loop (α:=Nat×Nat×List S_api_Factor×List LB) (λa=>⟨60,[(0,.yld β),(2,.fptr false (zao.c false q)),(3,.ptr κ 0),(12,fzE false (eI .i64) order),(13,dI (order.length:Int)),(14,dI (a.1:Int))],a.2.2.2⟩)
  (λa=>P a.2.1 (.cells [fzE false zaa a.2.2.1]) a.2.2.2/\zfg q a.2.2.1 (order.drop a.1)=some (u.drop a.2.1)/\a.1<=order.length) (λa=>order.length - a.1) (0,0,l0,L) (by refine za8.sub ?_; exact⟨rfl,rfl,rfl,rfl,rfl,rfl,qdv⟩) ⟨hP,hu,qaz _⟩ ?_
 rintro⟨i,j,l,L1⟩ ⟨hp,hs,hi⟩;simp only at hp hs hi;obtain⟨hl,hk1,hsc0⟩:=hlen _ _ _ hp;have hsc:zc1 n0 L1:=hsc0 λn=>⟨qdv,qdv⟩
 have hsm':=zhF hsm;unfold ztW;refine zag ?_;rcases qaY i order.length with hlt | hge
 .have hlt':(i:Int)<(order.length:Int):=by omega
  have hx:zaO order (i:Int)=some order[i]:=by unfold zaO; rw[if_pos (by omega),qaL,qac hlt]
  rw[qaA hlt]at hs;generalize order[i]=x at hx hs;unfold zfg at hs;obtain⟨kx,hk,hs⟩:=bsM hs;refine sXM hlt' ?_;refine EvL.jn (λa:Nat×List S_api_Factor×List LB=>⟨60,[(0,.yld β),(2,.fptr false (zao.c false q)),(3,.ptr κ 0),(12,fzE false (eI .i64) order),(13,dI (order.length:Int)),(14,dI (i:Int))],a.2.2⟩)
   (λa=>P a.1 (.cells [fzE false zaa a.2.1]) a.2.2/\zfg q a.2.1 (order.drop (i+1))=some (u.drop a.1)) ?_ ?_
  .unfold zBl zCf zCM zB7 zBH zDb zBw zB9 zBr;refine zag ?_;have hg0:=zlW hl;have hs0:=zqD hl;cases hc:decide (0<=kx)with
   | true=>
    rw[hc,qdw]at hs;refine sXM (anM (zbo (n:=1) (e:=eI .i64) rfl hx) (anM @zbl (anM hl (anM hg0 (anM hs0 (anM (zbo (n:=1) (e:=eI .i64) rfl hk) hc)))))) ?_;exact⟨(j,l,L1),⟨hp,hs⟩,za8.cut (L:=L1) (Nat.le_of_eq hl.symm) ⟨⟨rfl,by rw[hl]; exact hβ⟩,⟨rfl,qdv⟩,⟨rfl,by rw[hl]; exact hκ⟩,⟨rfl,qdv⟩,⟨rfl,qdv⟩,⟨rfl,qdv⟩,qdv⟩ (by rw[hl]; exact hsc)⟩
   | false=>
   rw[hc,qdx]at hs;obtain⟨r,hr,hs⟩:=bsM hs;refine sXM (anM (zbo (n:=1) (e:=eI .i64) rfl hx) (anM @zbl (anM hl (anM hg0 (anM hs0 (anM (zbo (n:=1) (e:=eI .i64) rfl hk) (anM hc (anM (zrq hl hκ) hk1)))))))) ?_;refine EvL.zgK (S':=⟨60,[(0,.yld β),(2,.fptr false (zao.c false q)),(3,.ptr κ 0),(12,fzE false (eI .i64) order),(13,dI (order.length:Int)),(14,dI (i:Int)),(6,.fptr false ((eI .i64).c false x)),(25,fzE false zaa l),(26,.clo 80 [] [.fptr false ((eI .i64).c false x)])],L1 ++ []⟩)
    (za8.zAa (X:=[.cells ((eI .i64).c false x)]) (Y:=[]) [.f] hl (qao _) hl (zlk hsc) trivial rfl ?_) ?_
   .exact(ms rfl (zft hβ) (msq (ms rfl (zft hκ) (msq (msq (ms rfl qdv
     (mf rfl (zjb (t:=false) (eI .i64) x (zvA rfl) (hg0 _) (λh=>h)) (msq (mx rfl (Mo.clo rfl rfl (Mos.get .nil) (Mos.get (.cons (.fr (zjb (t:=false) (eI .i64) x (zvA rfl) (hg0 _) (λh=>h))) .nil))) trivial)))))))))
   refine wSM ?_;refine EvL.fnT (r:=.tup [.sl n0 0 3 r.1.length none r.1.length,.sl (n0+1) 0 3 r.2.length none r.2.length]) (L':=L1 ++ [.grow 3 (r.1.map (zaa.c false)),.grow 3 (r.2.map (zaa.c false))]) (ziM hr) rfl rfl
    (.cons (zea _ _ (λh=>by cases h<;>contradiction)) (.cons (.clo rfl rfl (Mzs.get .nil) (Mzs.get (.cons (.fptr (λh=>by cases h<;>contradiction) rfl (Mzs.get (.cons (.lit _) .nil))) .nil))) .nil))
    ⟨zcx _ _,⟨qdv,⟨rfl,qdv,qdv⟩,qdv⟩,qdv⟩ ⟨qdv,qdv,qdv⟩ ⟨ztI zaa (λx=>zaa.fr x) _,ztI zaa (λx=>zaa.fr x) _,qdv⟩ (by rw[qaZ,hl]; rfl) (by rw[qaZ]) ?_
   cases hc2:((r.1.length:Int)== 0)with
   | true=>
    rw[hc2,qdw]at hs;refine sXM (anM hc2 hg0) ?_;exact⟨(j,l,L1),⟨hp,hs⟩,za8.cut (L:=L1) (Nat.le_of_eq hl.symm) ⟨⟨rfl,by rw[hl]; exact hβ⟩,⟨rfl,qdv⟩,⟨rfl,by rw[hl]; exact hκ⟩,⟨rfl,qdv⟩,⟨rfl,qdv⟩,⟨rfl,qdv⟩,qdv⟩ (by rw[hl]; exact hsc)⟩
   | false=>
   rw[hc2,qdx]at hs;obtain⟨p,hpm,hs⟩:=bsM hs;obtain⟨y,hy,hs⟩:=bsM hs;obtain⟨l',hl',hs⟩:=bsM hs;obtain⟨u',hu',hs⟩:=bsM hs;obtain⟨hj1,hj2⟩:=drop_cons (qaj hs).symm;refine sXM (anM hc2 hg0) ?_;refine EvL.fn (zd2 hpm) rfl rfl (.cons (zpi (e:=zaa) (t:=false) rfl (.inr (by rw[zlW hl]; rfl)) rfl rfl (λk h=>nomatch h) (λh=>h)) .nil) ?_;simp only[rnA,Nat.reduceEqDiff,Nat.reduceLT,Nat.reduceAdd,Nat.reduceLeDiff,reduceCtorEq,qaq,hl,hg0,zjM hl,zoP hl,qaI];refine EvL.zgK (S':=⟨60,[(0,.yld β),(2,.fptr false (zao.c false q)),(3,.ptr κ 0),(12,fzE false (eI .i64) order),(13,dI (order.length:Int)),(14,dI (i:Int)),(6,.fptr false ((eI .i64).c false x)),(8,.sl (n0+1) 0 3 r.2.length none r.2.length),(9,.fptr true (zaa.c true p)),(35,.yld β),(39,.agg [dI (r.1.length:Int),fzE true (eI .i64) p.vars,fzE true (eI .i64) p.zae,fzE true (eI .i64) p.w])],L1 ++ [.gone,.grow 3 (r.2.map (zaa.c false))]⟩)
    (za8.zAa (X:=[.grow 3 (r.1.map (zaa.c false)),.grow 3 (r.2.map (zaa.c false)),.cells (zaa.c true p)]) (Y:=[.gone,.grow 3 (r.2.map (zaa.c false))]) [.d,.k,.f] hl (qao _) hl (zlk hsc) ⟨rfl,MB.gs zaa false _,qdv⟩ rfl ?_) ?_
   .exact(ms rfl (zft hβ) (msq (ms rfl (zft hκ) (msq (msq (msq (msq (ms rfl (zBu (j:=1) rfl)
     (mf rfl (zjb (t:=true) zaa p (ztS (j:=2) rfl) (by rw[zjM hl]; rfl) (λh=>h)) (ms rfl (zft hβ) (ms rfl ⟨qdv,qdv,qdv,qdv,qdv⟩ trivial)))))))))))
   refine EvL.yield rfl rfl rfl (hround j _ L1 _ [.gone,.grow 3 (r.2.map (zaa.c false))] hj1 (by unfold stG; rw[hj1]; exact hp) ⟨rfl,.grow 3 (r.2.map (zaa.c false)),λkp=>zei zaa kp false r.2,rfl⟩) ?_;rintro b L' ⟨Lz,rfl,hl3,hb⟩;cases b with
   | false=>
    refine sSM ?_;exact⟨[],rfl,Lz,_,rfl,hl3,.inr hb⟩
   | true=>
   simp only[show stG l0 u j=.cells [fzE false zaa l]from by unfold stG; rw[hj1]]at hb;obtain⟨_,hk3,hsc30⟩:=hlen _ _ _ hb;have hsc3:zc1 n0 Lz:=hsc30 λn=>⟨qdv,qdv⟩
   refine sXM @zcN ?_;refine fDM (ziP hy) ?_;have hsl3:=zxb (x:=.cells [.sl (n0+1) 0 3 l'.length none l'.length]) hl3 hκ;simp only[rnA,Nat.reduceEqDiff,Nat.reduceLT,Nat.reduceAdd,Nat.reduceLeDiff,reduceCtorEq,qaq,hl3,zjM hl3,zoP hl3,zrq hl3 hκ,hk3,qaI,zbN hl',(show r.2.length+1=l'.length from zfb hl'),(show r.2.map (zaa.c false)++ [[fzE false (eI .i64) y.1.vars,fzE false (eI .i64) y.1.zae,fzE false (eI .i64) y.1.w]]=l'.map (zaa.c false)from zdz hl' (zaa.c false)),hsl3];refine⟨(j+1,l',Lz.set κ (.cells [fzE false zaa l'])),⟨hset _ _ _ _ hb,by rw[hj2]; exact hu'⟩,?_⟩;have hls:∀ z,(Lz.set κ z).length=n0:=λz=>by rw[qaQ]; exact hl3
   refine za8.zDQ (n:=n0) (X:=[.gone,.grow 3 (l'.map (zaa.c false)),.cells [fzE false (eI .i64) y.1.vars,fzE false (eI .i64) y.1.zae,fzE false (eI .i64) y.1.w],.els 3 [[fzE false (eI .i64) y.1.vars,fzE false (eI .i64) y.1.zae,fzE false (eI .i64) y.1.w]]]) [.d,.f,.d,.d] (hls _) (qao _) (hls _)
    (zAS (g:=.cells [.sl (n0+1) 0 3 l'.length none l'.length]) (g':=.cells [fzE false zaa l']) hsc3 (MB.cells rfl (Mos.get (.cons (.fr (zni (s:=false) (t':=false) (cap:=none) (β:=n0+1) (n:=3) (st:=l'.length) (len:=l'.length) (e:=zaa) (t:=false) (ztS (j:=1) rfl) rfl (.inr (zjM (hls _) _ 1)) rfl rfl (λk h=>nomatch h) (λh=>by cases h<;>contradiction))) .nil)))) rfl ?_
   exact(ms rfl (zft hβ) (msq (ms rfl (zft hκ) (msq (msq (msq trivial))))))
  rintro⟨j,l,L1⟩ ⟨hp,hs⟩;refine wSM ?_;have hw:IntKind.i64.wrap ((i:Int)+1)=((i+1:Nat):Int):=by rw[wrap64 (by omega) (by omega)]; omega
  exact⟨(i+1,j,l,L1),⟨hp,hs,hlt⟩,by show order.length - (i+1)<order.length - i; omega,by
   rw[hw]
   exact za8.sub ⟨rfl,rfl,rfl,rfl,rfl,rfl,qdv⟩⟩
 have hge':decide ((i:Int)<(order.length:Int))=false:=qdy (by omega);rw[qbb hge]at hs;unfold zfg at hs;obtain⟨p,hpm,hs⟩:=bsM hs;obtain⟨hj1,hj2⟩:=drop_cons (qaj hs).symm;have hjl:u.length=j+1:=by
  have h1:=(qab.1 hj1).1;have h2:=congrArg List.length hj2;rw[qbT]at h2;simp only[qa3]at h2;omega
 unfold zx8;refine sXM (anM hge' hk1) ?_;refine fCM (zd2 hpm) ?_;refine EvL.zgK (za8.pad (X:=[.gone,.gone]) (λb hb=>by simpa using hb)) ?_;refine EvL.yield rfl rfl rfl (hround j _ L1 _ [.gone,.gone] hj1 (by unfold stG; rw[hj1]; exact hp) ⟨rfl,.gone,λkp=>trivial,rfl⟩) ?_;rintro b L' ⟨Lz,rfl,hl3,hb⟩;refine sSM ?_;cases b with
 | false=>exact⟨[],rfl,Lz,_,rfl,hl3,.inr hb⟩
 | true=>exact⟨[],rfl,Lz,_,rfl,hl3,.inl ⟨j,by rw[hjl]; exact hb⟩⟩
def zb9(p1:S_api_Net)(p0:S_haruspexref05_Known):Nat->Int->(List Int)->Option (List Int)
 | 0,_,_=>none
 | n+1,v6,l2=>(
bif (decide (v6<(p1.nodes.length:Int)))then(
(zki .u8 p0.which (IntKind.u64.wrap v6)).bind λq2=>
((bif ((zkX .u8 q2 1)== 1)then(
(zaO [p0.v.a0,p0.v.a1,p0.v.a2,p0.v.a3,p0.v.a4,p0.v.a5,p0.v.a6,p0.v.a7] v6).bind λx5=>
(zaO p1.nodes v6).bind λx7=>
(zqt (w64 x5) x7.zaC).bind λq9=>
some q9)
else(
some (-1)):Option Int)).bind λv7=>
(zdi 8 l2 [v7]).bind λy11=>
zb9 p1 p0 n (w64 (v6+1)) y11)
else(
some l2))
def zbW(p0:S_haruspexref05_Known)(p1:S_api_Net):Option (List Int):=
((zb9 p1 p0 ((p1.nodes.length:Int) - 0+2:Int).toNat 0 []:Option (List Int))).bind λl2=>
some l2
theorem zjt{p0:S_haruspexref05_Known}{p1:S_api_Net}(h:zbW p0 p1=some r):Lx.Fn mC 25 [(.agg [(dU8 p0.which),(dU8 p0.v.a0),(dU8 p0.v.a1),(dU8 p0.v.a2),(dU8 p0.v.a3),(dU8 p0.v.a4),(dU8 p0.v.a5),(dU8 p0.v.a6),(dU8 p0.v.a7)]),(.agg [(dI p1.grain),(fzE false zac p1.nodes)])] (fzE true (eI .i64) r):=by
 refine gnO ?_;unfold zbW at h;refine wSM ?_;obtain⟨o5,j5,h⟩:=bsM h;obtain⟨T5,hT5⟩:=mkT λa:(List Int)=>⟨39,[(5,(.sl 2 0 1 a.length none a.length))],[.gone,.gone,.grow 1 (a.map ((eI .i64).c true))]⟩
 refine EvL.jn T5 (λa=>a=o5) ?_ ?_
 .refine wSM ?_;obtain⟨T9,hT9⟩:=mkT λa:(Int×(List Int))=>⟨39,[(2,(.ptr 0 0)),(3,(.ptr 1 0)),(5,(.sl 2 0 1 a.2.length none a.2.length)),(6,(dI a.1))],[.cells [(dU8 p0.which),(dU8 p0.v.a0),(dU8 p0.v.a1),(dU8 p0.v.a2),(dU8 p0.v.a3),(dU8 p0.v.a4),(dU8 p0.v.a5),(dU8 p0.v.a6),(dU8 p0.v.a7)],.cells [(dI p1.grain),(fzE false zac p1.nodes)],.grow 1 (a.2.map ((eI .i64).c true))]⟩
  refine EvL.zgK (za8.ghost (n:=1) (k:=5) (by decide) rfl) ?_;refine EvL.rounds (α:=(Int×(List Int))) T9 (λn a=>zb9 p1 p0 n a.1 a.2=some o5) ((p1.nodes.length:Int) - 0+2:Int).toNat (0,[]) (by rw[hT9]; exact wm0 [.k,.k,.k] ⟨MB.cs ⟨qdv,qdv,qdv,qdv,qdv,qdv,qdv,qdv,qdv,qdv⟩,⟨MB.cs ⟨qdv,qdv,qdv⟩,⟨MB.gs (eI .i64) true [],qdv⟩⟩⟩) j5 (λ_ h=>nomatch (show(none:Option (List Int))=some o5 from h)) ?_;rintro n ⟨v6,l2⟩ j5;simp only[zb9]at j5;refine wTM hT9 ?_;refine cBM j5 (λ_ j5=>?_) λ_ j5=>?_
  .exact zef j5 hT5
  obtain⟨q2,g3,j5⟩:=bsM j5;refine sXM (anM ((zbw g3).1) ((zbw g3).2)) ?_;obtain⟨o10,j10,j5⟩:=bsM j5;obtain⟨T10,hT10⟩:=zey hT9 λa:Int=>uDM (T9 (v6,l2)) [] [(7,(dI a))] [] []
  refine EvL.jn T10 (λa=>a=o10) ?_ ?_
  .refine wSM ?_;refine cBM j10 (λ_ j10=>?_) λ_ j10=>?_
   .exact zef j10 hT10
   obtain⟨x5,g6,j10⟩:=bsM j10;obtain⟨x7,g8,j10⟩:=bsM j10;obtain⟨q9,g10,j10⟩:=bsM j10;refine sXM (anM @zaM (anM (za4 g6) (anM (show v6<((8:Nat):Int)from zfy g6) (anM @qb1 (anM (show [(dU8 p0.which),(dU8 p0.v.a0),(dU8 p0.v.a1),(dU8 p0.v.a2),(dU8 p0.v.a3),(dU8 p0.v.a4),(dU8 p0.v.a5),(dU8 p0.v.a6),(dU8 p0.v.a7)][1+v6.toNat]? = some (.lit (.int .u8 x5))from zzm (a:=1) (i:=v6) g6 (λx=>(.lit (.int .u8 x):D)) rfl) (anM (zbo (n:=3) (e:=zac) rfl g8) (anM (zif g10) (zii g10)))))))) ?_;exact zef j10 hT10
  rintro v7 rfl;refine wTM hT10 ?_;obtain⟨y11,g12,j5⟩:=bsM j5;refine sXM (anM (zbN g12) (anM (plM g12) (piM g12))) ?_;exact zda hT9 ((w64 (v6+1)),y11) j5
 rintro l2 rfl;refine wTM hT5 ?_;exact rHM h
def zbv(p1:(List Int))(p0:S_api_Net):Nat->Int->Option (Out Unit Bool)
 | 0,_=>none
 | n+1,v5=>(
bif (decide (v5<(p1.length:Int)))then(
(((zaO p1 v5).bind λx3=>
bif (decide (x3<(-1)))then(
some true)
else(
(zaO p0.nodes v5).bind λx6=>
some (decide (x6.zaC<=x3))):Option Bool)).bind λv35=>
bif v35 then(
some (.ret false))
else(
zbv p1 p0 n (w64 (v5+1))))
else(
some (.go ())))
def zdY(p0:S_api_Net)(p1:(List Int)):Option Bool:=
bif ((p1.length:Int)==(p0.nodes.length:Int))then(
((zbv p1 p0 ((p1.length:Int) - 0+2:Int).toNat 0:Option (Out Unit Bool))).bind λo=>match o with
| .go _=>(
some true)
| .ret r=>some r)
else(
some false)
def zb0(p0:S_haruspexlaw09_Ask)(p1:Int):Option Int:=
(zqt (IntKind.u64.wrap p0.v) (IntKind.u64.wrap (ze6 p1 1))).bind λq1=>
some (w64 q1)
theorem zjw{p0:S_haruspexlaw09_Ask}{p1:Int}{r:Int}(h:zb0 p0 p1=some r):Lx.Fn mC 26 [(.agg [(dU8 p0.known.which),(dU8 p0.known.v.a0),(dU8 p0.known.v.a1),(dU8 p0.known.v.a2),(dU8 p0.known.v.a3),(dU8 p0.known.v.a4),(dU8 p0.known.v.a5),(dU8 p0.known.v.a6),(dU8 p0.known.v.a7),(dI p0.v),(dU8 p0.l.a0),(dU8 p0.l.a1),(dU8 p0.l.a2),(dU8 p0.l.a3),(dU8 p0.l.a4),(dU8 p0.l.a5),(dU8 p0.l.a6),(dU8 p0.l.a7),(fzE false (eI .i64) p0.e),(fzE false (eI .i64) p0.order)]),(dI p1)] (dI r):=by
 refine gnO ?_;unfold zb0 at h;refine zag ?_;obtain⟨q1,g2,h⟩:=bsM h;refine sXM (anM (zif g2) (zii g2)) ?_;exact rHM h
def zcf(p0:Int)(p1:Int)(p2:A8_Intu8):Nat->(List Int)->Int->Option (List Int)
 | 0,_,_=>none
 | n+1,v7,v8=>(
bif (decide (v8<p0))then(
((bif (v8 == p1)then(
some v7)
else(
(zaO [p2.a0,p2.a1,p2.a2,p2.a3,p2.a4,p2.a5,p2.a6,p2.a7] (v8.tmod 8)).bind λx3=>
(zqt (w64 x3) (w64 ((v7.length:Int)+1))).bind λq5=>
(zd1 v7 0 q5).bind λy7=>
(zd5 8 y7).bind λy9=>
(zdi 8 y7 [v8]).bind λy11=>
(zd1 v7 q5 v7.length).bind λy13=>
(zdi 8 y11 y13).bind λy15=>
some y15):Option (List Int))).bind λv7'=>
zcf p0 p1 p2 n v7' (w64 (v8+1)))
else(
some v7))
def zcG(p0:Int)(p1:Int)(p2:A8_Intu8):Option (List Int):=
((zcf p0 p1 p2 (p0 - 0+2:Int).toNat [] 0:Option (List Int))).bind λv7=>
some v7
theorem zlr{p0:Int}{p1:Int}{p2:A8_Intu8}(h:zcG p0 p1 p2=some r):Lx.Fn mC 27 [(dI p0),(dI p1),(.agg [(dU8 p2.a0),(dU8 p2.a1),(dU8 p2.a2),(dU8 p2.a3),(dU8 p2.a4),(dU8 p2.a5),(dU8 p2.a6),(dU8 p2.a7)])] (fzE true (eI .i64) r):=by
 refine gnO ?_;unfold zcG at h;refine wSM ?_;obtain⟨o4,j4,h⟩:=bsM h;obtain⟨T4,hT4⟩:=mkT λa:(List Int)=>⟨42,[(7,(fzE true (eI .i64) a))],[]⟩
 refine EvL.jn T4 (λa=>a=o4) ?_ ?_
 .refine wSM ?_;obtain⟨T7,hT7⟩:=mkT λa:((List Int)×Int)=>⟨42,[(0,(dI p0)),(1,(dI p1)),(5,(.ptr 0 0)),(7,(fzE true (eI .i64) a.1)),(8,(dI a.2))],[.cells [(dU8 p2.a0),(dU8 p2.a1),(dU8 p2.a2),(dU8 p2.a3),(dU8 p2.a4),(dU8 p2.a5),(dU8 p2.a6),(dU8 p2.a7)]]⟩
  refine EvL.rounds (α:=((List Int)×Int)) T7 (λn a=>zcf p0 p1 p2 n a.1 a.2=some o4) (p0 - 0+2:Int).toNat ([],0) (by rw[hT7]; exact za8.m0 [.k] rfl (msq (msq (msq (mf rfl (zjN (eI .i64)) (msq trivial))))) ⟨MB.cs ⟨qdv,qdv,qdv,qdv,qdv,qdv,qdv,qdv,qdv⟩,qdv⟩) j4 (λ_ h=>nomatch (show(none:Option (List Int))=some o4 from h)) ?_;rintro n ⟨v7,v8⟩ j4;simp only[zcf]at j4;refine wTM hT7 ?_;refine cBM j4 (λ_ j4=>?_) λ_ j4=>?_
  .exact zef j4 hT4
  obtain⟨o8,j8,j4⟩:=bsM j4;obtain⟨T8,hT8⟩:=mkT λa:(List Int)=>⟨42,[(0,(dI p0)),(1,(dI p1)),(5,(.ptr 0 0)),(7,(fzE true (eI .i64) a)),(8,(dI v8))],[.cells [(dU8 p2.a0),(dU8 p2.a1),(dU8 p2.a2),(dU8 p2.a3),(dU8 p2.a4),(dU8 p2.a5),(dU8 p2.a6),(dU8 p2.a7)]]⟩
  refine EvL.jn T8 (λa=>a=o8) ?_ ?_
  .refine zag ?_;try simp only[rnA,Nat.reduceEqDiff,Nat.reduceLT,reduceCtorEq]
   cases c2:(v8 == p1)
   .rw[c2,qdx]at j8;obtain⟨x3,g4,j8⟩:=bsM j8;obtain⟨q5,g6,j8⟩:=bsM j8;obtain⟨y7,g8,j8⟩:=bsM j8;obtain⟨y9,g10,j8⟩:=bsM j8;obtain⟨y11,g12,j8⟩:=bsM j8;obtain⟨y13,g14,j8⟩:=bsM j8;obtain⟨y15,g16,j8⟩:=bsM j8;refine zEZ (za4 g4) (show(v8.tmod 8)<((8:Nat):Int)from zfy g4) @qb1 (show [(dU8 p2.a0),(dU8 p2.a1),(dU8 p2.a2),(dU8 p2.a3),(dU8 p2.a4),(dU8 p2.a5),(dU8 p2.a6),(dU8 p2.a7)][(v8.tmod 8).toNat]? = some (.lit (.int .u8 x3))from zu9 g4 (λx=>(.lit (.int .u8 x):D)) rfl) (zif g6) (anM (zii g6) (anM (zyH (n:=1) (e:=(eI .i64)) rfl g8) (anM (zpt (n:=1) (e:=(eI .i64)) rfl) (anM (zke g10) (anM (zbN g12) (anM (plM g12) (anM (piM g12) (anM (zx9 (n:=1) (e:=(eI .i64)) rfl g14) (anM (zbN g16) (anM (show y11.length+y13.length=y15.length from zfb g16) (show y11.map ((eI .i64).c true)++ y13.map ((eI .i64).c true)=y15.map ((eI .i64).c true)from zdz g16 ((eI .i64).c true)))))))))))) ?_;replace j8:=qaj j8; subst j8;exact lfj hT8 rfl (za8.m0 [.k,.f] rfl (msq (msq (msq (mf rfl (zni (e:=(eI .i64)) (t:=true) rfl rfl (.inr rfl) rfl rfl (λk h=>nomatch h) (λh=>by cases h<;>rfl)) (msq trivial))))) ⟨MB.cs ⟨qdv,qdv,qdv,qdv,qdv,qdv,qdv,qdv,qdv⟩,qdv⟩)
   rw[c2,qdw]at j8;refine sSM ?_;exact zef j8 hT8
  rintro v7' rfl;refine wTM hT8 ?_;exact zda hT7 (v7',(w64 (v8+1))) j4
 rintro v7 rfl;refine wTM hT4 ?_;exact rHM h
def zf9(p0:S_haruspexlaw09_Ask)(p1:S_api_Net):Option A4_S_haruspexlaw09_Ask:=
(zbW p0.known p1).bind λr1=>
(zb0 p0 (p1.nodes.length:Int)).bind λr3=>
(zd1 p0.e 0 (zfT (p0.e.length:Int) 10)).bind λy5=>
(zd1 p0.order 0 (zfT (p0.order.length:Int) 10)).bind λy7=>
(zcG (p1.nodes.length:Int) r3 p0.l).bind λr9=>
some (A4_S_haruspexlaw09_Ask.mk (S_haruspexlaw09_Ask.mk (S_haruspexref05_Known.mk 0 (A8_Intu8.mk 0 0 0 0 0 0 0 0)) r3 (A8_Intu8.mk 0 0 0 0 0 0 0 0) r1 r9) (S_haruspexlaw09_Ask.mk (S_haruspexref05_Known.mk 0 (A8_Intu8.mk 0 0 0 0 0 0 0 0)) r3 (A8_Intu8.mk 0 0 0 0 0 0 0 0) y5 r9) (S_haruspexlaw09_Ask.mk (S_haruspexref05_Known.mk 0 (A8_Intu8.mk 0 0 0 0 0 0 0 0)) p0.v (A8_Intu8.mk 0 0 0 0 0 0 0 0) r1 r9) (S_haruspexlaw09_Ask.mk (S_haruspexref05_Known.mk 0 (A8_Intu8.mk 0 0 0 0 0 0 0 0)) r3 (A8_Intu8.mk 0 0 0 0 0 0 0 0) r1 y7))
end Go.Dc
