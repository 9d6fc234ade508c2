/-
 What r02_Draft_Cards computes. Conditions: none.
-/
import Derived.Test.YtbjogdohfhdaiaaGreatENJ3
set_option linter.unusedSimpArgs false
set_option linter.unusedVariables false
set_option maxRecDepth 100000
set_option maxHeartbeats 4000000
namespace Go.Dc
open Go Go.Mx Go.Lx Go.Proofs
def zbl(p0:S_haruspexref02_Draft):Nat->Int->(List Int)->Option (List Int)
 | 0,_,_=>none
 | n+1,v4,l1=>(
((bif (decide (v4<(p0.c.length:Int)))then(
some (decide (v4<5)))
else(
some false):Option Bool)).bind λv13=>
bif v13 then(
(zaz p0.c v4).bind λx3=>
(zd1 8 l1 [(w64 (1+(w64 (x3.tmod 4))))]).bind λy5=>
zbl p0 n (w64 (v4+1)) y5)
else(
some l1))
def zb0(N:Nat)(p0:S_haruspexref02_Draft):Option (List Int):=
((zbl p0 N 0 []:Option (List Int))).bind λl1=>
some l1
variable{N:Nat}{r:(List Int)}
theorem zg6{p0:S_haruspexref02_Draft}(h:zb0 N p0=some r):Lx.Fn mC 64 [(.agg [(fzE false (eI .u8) p0.c),(.lit (.int .u16 p0.which)),(fzE false (eI .u8) p0.order)])] (fzE true (eI .i64) r):=by
 refine gnO ?_;unfold zb0 at h;refine wSM ?_;obtain⟨o5,j5,h⟩:=bsM h;obtain⟨T5,hT5⟩:=mkT λa:(List Int)=>⟨28,[(3,(.sl 1 0 1 a.length none a.length))],[.gone,.grow 1 (a.map ((eI .i64).c true))]⟩
 refine EvL.jn T5 (λa=>a=o5) ?_ ?_
 .refine wSM ?_;obtain⟨T9,hT9⟩:=mkT λa:(Int×(List Int))=>⟨28,[(1,(.ptr 0 0)),(3,(.sl 1 0 1 a.2.length none a.2.length)),(4,(dI a.1))],[.cells [(fzE false (eI .u8) p0.c),(.lit (.int .u16 p0.which)),(fzE false (eI .u8) p0.order)],.grow 1 (a.2.map ((eI .i64).c true))]⟩
  refine EvL.ze4 (zbH.ghost (n:=1) (k:=3) (by decide) rfl) ?_;refine EvL.rounds (α:=(Int×(List Int))) T9 (λn a=>zbl p0 n a.1 a.2=some o5) N (0,[]) (by rw[hT9]; exact wm0 [.k,.k] ⟨MB.cs ⟨qdy,qdy,qdy,qdy⟩,⟨MB.gs (eI .i64) true [],qdy⟩⟩) j5 (λ_ h=>nomatch (show(none:Option (List Int))=some o5 from h)) ?_;rintro n ⟨v4,l1⟩ j5;simp only[zbl]at j5;refine wTM hT9 ?_;obtain⟨o10,j10,j5⟩:=bsM j5;obtain⟨T10,hT10⟩:=zce hT9 λa:Bool=>uDM (T9 (v4,l1)) [] [(13,(dB a))] [] []
  refine EvL.jn T10 _ (bJM j10 hT10) ?_;rintro v13 rfl;refine wTM hT10 ?_;refine cBM j5 (λ_ j5=>?_) λ_ j5=>?_
  .exact zcf j5 hT5
  obtain⟨x3,g4,j5⟩:=bsM j5;obtain⟨y5,g6,j5⟩:=bsM j5;refine sXM (anM (zas (n:=1) (e:=(eI .u8)) rfl g4) (anM (zcK g6) (anM (plM g6) (piM g6)))) ?_;exact zct hT9 ((w64 (v4+1)),y5) j5
 rintro l1 rfl;refine wTM hT5 ?_;exact rHM h
def zaI(N:Nat)(p0:S_haruspexref02_Draft):Nat->Int->(List Int)->Option (List Int)
 | 0,_,_=>none
 | n+1,v4,l1=>(
(zb0 N p0).bind λr1=>
bif (decide (v4<(r1.length:Int)))then(
((bif (decide (v4<(p0.order.length:Int)))then(
(zaz p0.order v4).bind λx5=>
(zrz (w64 x5) (w64 (v4+1))).bind λq7=>
some q7)
else(
some 0):Option Int)).bind λv5=>
(zdS l1 0 v5).bind λy9=>
(zfW 8 y9).bind λy11=>
(zd1 8 y9 [v4]).bind λy13=>
(zdS l1 v5 l1.length).bind λy15=>
(zd1 8 y13 y15).bind λy17=>
zaI N p0 n (w64 (v4+1)) y17)
else(
some l1))
def zba(N:Nat)(p0:S_haruspexref02_Draft):Option (List Int):=
((zaI N p0 N 0 []:Option (List Int))).bind λl1=>
some l1
theorem zeO{p0:S_haruspexref02_Draft}(h:zba N p0=some r):Lx.Fn mC 35 [(.agg [(fzE false (eI .u8) p0.c),(.lit (.int .u16 p0.which)),(fzE false (eI .u8) p0.order)])] (fzE true (eI .i64) r):=by
 refine gnO ?_;unfold zba at h;refine wSM ?_;obtain⟨o5,j5,h⟩:=bsM h;obtain⟨T5,hT5⟩:=mkT λa:(List Int)=>⟨42,[(3,(.sl 1 0 1 a.length none a.length))],[.gone,.grow 1 (a.map ((eI .i64).c true))]⟩
 refine EvL.jn T5 (λa=>a=o5) ?_ ?_
 .refine wSM ?_;obtain⟨T9,hT9⟩:=mkT λa:(Int×(List Int))=>⟨42,[(1,(.ptr 0 0)),(3,(.sl 1 0 1 a.2.length none a.2.length)),(4,(dI a.1))],[.cells [(fzE false (eI .u8) p0.c),(.lit (.int .u16 p0.which)),(fzE false (eI .u8) p0.order)],.grow 1 (a.2.map ((eI .i64).c true))]⟩
  refine EvL.ze4 (zbH.ghost (n:=1) (k:=3) (by decide) rfl) ?_;refine EvL.rounds (α:=(Int×(List Int))) T9 (λn a=>zaI N p0 n a.1 a.2=some o5) N (0,[]) (by rw[hT9]; exact wm0 [.k,.k] ⟨MB.cs ⟨qdy,qdy,qdy,qdy⟩,⟨MB.gs (eI .i64) true [],qdy⟩⟩) j5 (λ_ h=>nomatch (show(none:Option (List Int))=some o5 from h)) ?_;rintro n ⟨v4,l1⟩ j5;simp only[zaI]at j5;refine wTM hT9 ?_;obtain⟨r1,g2,j5⟩:=bsM j5;refine sSM ?_;refine fCM (zg6 g2) ?_;refine cBM j5 (λ_ j5=>?_) λ_ j5=>?_
  .exact zcf j5 hT5
  obtain⟨o10,j10,j5⟩:=bsM j5;obtain⟨T10,hT10⟩:=zce hT9 λa:Int=>uDM (T9 (v4,l1)) [] [(5,(dI a))] [] []
  refine EvL.jn T10 (λa=>a=o10) ?_ ?_
  .refine wSM ?_;refine cBM j10 (λ_ j10=>?_) λ_ j10=>?_
   .exact zcf j10 hT10
   obtain⟨x5,g6,j10⟩:=bsM j10;obtain⟨q7,g8,j10⟩:=bsM j10;refine sXM (anM (zas (n:=1) (e:=(eI .u8)) rfl g6) (anM (zhL g8) (ziW g8))) ?_;exact zcf j10 hT10
  rintro v5 rfl;rw[congrFun hT10 v5];refine EvL.ze4 (S':=⟨42,[(1,(.ptr 0 0)),(3,(fzE true (eI .i64) l1)),(4,(dI v4)),(5,(dI v5))],[.cells [(fzE false (eI .u8) p0.c),(.lit (.int .u16 p0.which)),(fzE false (eI .u8) p0.order)]]⟩) (zbH.m0 [.k,.f] rfl (msq (mf rfl (ze1 (e:=(eI .i64)) (t:=true) rfl rfl (.inr rfl) rfl rfl (λk h=>nomatch h) (λh=>by cases h<;>rfl)) (msq (msq trivial)))) ⟨MB.cs ⟨qdy,qdy,qdy,qdy⟩,qdy⟩) (zad ?_);obtain⟨y9,g10,j5⟩:=bsM j5;obtain⟨y11,g12,j5⟩:=bsM j5;obtain⟨y13,g14,j5⟩:=bsM j5;obtain⟨y15,g16,j5⟩:=bsM j5;obtain⟨y17,g18,j5⟩:=bsM j5;refine sXM (anM (zpB (n:=1) (e:=(eI .i64)) rfl g10) (anM (zoT (n:=1) (e:=(eI .i64)) rfl) (anM (znV g12) (anM (zcK g14) (anM (plM g14) (anM (piM g14) (anM (zx0 (n:=1) (e:=(eI .i64)) rfl g16) (anM (zcK g18) (anM (show y13.length+y15.length=y17.length from zgT g18) (show y13.map ((eI .i64).c true)++ y15.map ((eI .i64).c true)=y17.map ((eI .i64).c true)from zfR g18 ((eI .i64).c true))))))))))) ?_;exact zct hT9 ((w64 (v4+1)),y17) j5
 rintro l1 rfl;refine wTM hT5 ?_;exact rHM h
def zbm(p0:S_haruspexref05_Draft)(r5:(List Int)):Nat->Int->Int->(List S_api_Node)->Option (List S_api_Node)
 | 0,_,_,_=>none
 | n+1,v6,v7,l2=>(
bif (decide (v7<(zft (zfr (p0.nodes.length:Int) 1) 5)))then(
((bif (decide (v7<(p0.nodes.length:Int)))then(
(zaz p0.nodes v7).bind λx9=>
some (x9.zap,x9.parents,x9.w))
else(
some (0,0,[])):Option ((Int×Int×(List Int))))).bind λo=>match o with
|(b4_0,b4_1,b4_2)=>(
(zjl .i64 (w64 (v6 * (w64 (2+(w64 (b4_0.tmod 2)))))) (IntKind.u64.wrap (w64 ((w64 ((zft (zfr (p0.nodes.length:Int) 1) 5) - 1)) - v7)))).bind λq11=>
((bif (decide (100<q11))then(
some 2)
else(
some (w64 (2+(w64 (b4_0.tmod 2))))):Option Int)).bind λv9=>
(zaz r5 v7).bind λx14=>
(zaz l2 x14).bind λx16=>
(zeU l2 x14 (S_api_Node.mk v9 x16.parents x16.rows)).bind λy18=>
zbm p0 r5 n (w64 (v6 * v9)) (w64 (v7+1)) y18))
else(
some l2))
def zbG(N:Nat)(p0:S_haruspexref05_Draft)(r5:(List Int)):Nat->Int->(List S_api_Node)->Option (List S_api_Node)
 | 0,_,_=>none
 | n+1,v10,l2'=>(
bif (decide (v10<(zft (zfr (p0.nodes.length:Int) 1) 5)))then(
((bif (decide (v10<(p0.nodes.length:Int)))then(
(zaz p0.nodes v10).bind λx22=>
some (x22.zap,x22.parents,x22.w))
else(
some (0,0,[])):Option ((Int×Int×(List Int))))).bind λo=>match o with
|(b4_0,b4_1,b4_2)=>(
(zaz r5 v10).bind λx24=>
(zpc r5 v10 x24 (zft (zfr (p0.nodes.length:Int) 1) 5) b4_1 l2').bind λy26=>
(zo8 N (w64 (1+(w64 (p0.grain.tmod 60)))) x24 b4_2 y26).bind λy28=>
zbG N p0 r5 n (w64 (v10+1)) y28))
else(
some l2'))
def zby(N:Nat)(p0:S_haruspexref05_Draft):Option S_api_Net:=
(zem 56 (zft (zfr (p0.nodes.length:Int) 1) 5) (S_api_Node.mk 0 [] [])).bind λy1=>
(zem 1 (zft (zfr (p0.nodes.length:Int) 1) 5) 0).bind λy3=>
(zba N (S_haruspexref02_Draft.mk y3 0 p0.order)).bind λr5=>
((zbm p0 r5 ((zft (zfr (p0.nodes.length:Int) 1) 5) - 0+2:Int).toNat 1 0 y1:Option (List S_api_Node))).bind λl2=>
((zbG N p0 r5 ((zft (zfr (p0.nodes.length:Int) 1) 5) - 0+2:Int).toNat 0 l2:Option (List S_api_Node))).bind λl2'=>
some (S_api_Net.mk (w64 (1+(w64 (p0.grain.tmod 60)))) l2')
theorem zfj{p0:S_haruspexref05_Draft}{r:S_api_Net}(h:zby N p0=some r):Lx.Fn mC 13 [(.agg [(dU8 p0.grain),(fzE false zao p0.nodes),(fzE false (eI .u8) p0.order)])] (.agg [(dI r.grain),(fzE true zaa r.nodes)]):=by
 refine gnP (List.range 30) [30,31,32,33] ?_;unfold zby at h;refine zad ?_;obtain⟨y1,g2,h⟩:=bsM h;obtain⟨y3,g4,h⟩:=bsM h;obtain⟨r5,g6,h⟩:=bsM h;refine sXM (anM ((zbW g2).1.1) (anM ((zbW g2).1.2) (anM @qcV (anM (show List.replicate (Int.toNat (zft (zfr (p0.nodes.length:Int) 1) 5)) [(dI 0),zhT,zhT]=y1.map (zal.c true)from zhp g2 (zal.c true)) (anM ((zbW g4).1.2) (mbM g4)))))) ?_;refine fCM (zeO g6) ?_;obtain⟨o7,j7,h⟩:=bsM h;obtain⟨T7,hT7⟩:=mkT λa:(List S_api_Node)=>⟨187,[(1,(.ptr 0 0)),(2,(.ptr 1 0)),(3,(dI (zft (zfr (p0.nodes.length:Int) 1) 5))),(4,(.ptr 3 0)),(5,(fzE true (eI .i64) r5))],[.cells [(dU8 p0.grain),(fzE false zao p0.nodes),(fzE false (eI .u8) p0.order)],.cells [(dI 0),zhT],.els 3 (a.map (zal.c true)),.cells [(dI (w64 (1+(w64 (p0.grain.tmod 60))))),(.sl 2 0 3 (Int.toNat (zft (zfr (p0.nodes.length:Int) 1) 5)) (some (Int.toNat (zft (zfr (p0.nodes.length:Int) 1) 5))) (Int.toNat (zft (zfr (p0.nodes.length:Int) 1) 5)))]]⟩
 refine EvL.jn T7 (λa=>a=o7/\a.length=(Int.toNat (zft (zfr (p0.nodes.length:Int) 1) 5))) ?_ ?_
 .refine wSM ?_;obtain⟨T12,hT12⟩:=mkT λa:(Int×Int×(List S_api_Node))=>⟨187,[(1,(.ptr 0 0)),(2,(.ptr 1 0)),(3,(dI (zft (zfr (p0.nodes.length:Int) 1) 5))),(4,(.ptr 3 0)),(5,(fzE true (eI .i64) r5)),(6,(dI a.1)),(7,(dI a.2.1))],[.cells [(dU8 p0.grain),(fzE false zao p0.nodes),(fzE false (eI .u8) p0.order)],.cells [(dI 0),zhT],.els 3 (a.2.2.map (zal.c true)),.cells [(dI (w64 (1+(w64 (p0.grain.tmod 60))))),(.sl 2 0 3 (Int.toNat (zft (zfr (p0.nodes.length:Int) 1) 5)) (some (Int.toNat (zft (zfr (p0.nodes.length:Int) 1) 5))) (Int.toNat (zft (zfr (p0.nodes.length:Int) 1) 5)))]]⟩
  refine rdM hT12 (λn a=>zbm p0 r5 n a.1 a.2.1 a.2.2=some o7/\a.2.2.length=(Int.toNat (zft (zfr (p0.nodes.length:Int) 1) 5))) (1,0,y1) ⟨j7,zdg g2⟩ ?_;rintro n ⟨v6,v7,l2⟩ ⟨j7,el2⟩;simp only[zbm]at j7;refine wTM hT12 ?_;refine cBM j7 (λ_ j7=>?_) λ_ j7=>?_
  .obtain rfl:=qaf j7;exact zct hT7 _ ⟨rfl,el2⟩
  obtain⟨o13,j13,j7⟩:=bsM j7;obtain⟨T13,hT13⟩:=zce hT12 λa:(Int×Int×(List Int))=>uDM (T12 (v6,v7,l2)) [] [(8,(.ptr 4 0))] [] [.cells [(dU8 a.1),(dU8 a.2.1),(fzE false (eI .u8) a.2.2)]]
  refine EvL.jn T13 (λa=>a=o13) ?_ ?_
  .refine wSM ?_;refine cBM j13 (λ_ j13=>?_) λ_ j13=>?_
   .obtain rfl:=qaf j13;exact lfj hT13 rfl (wm0 [.k,.k,.k,.k,.k] ⟨MB.cs ⟨qdy,qdy,qdy,qdy⟩,⟨MB.cs ⟨qdy,qdy,qdy⟩,⟨MB.es zal true l2,⟨MB.cs ⟨qdy,rfl,qdy⟩,⟨MB.zBa (.cons (.same trivial) (.cons (.same trivial) (.cons (.fr (zqE (eI .u8))) .nil))),qdy⟩⟩⟩⟩⟩)
   obtain⟨x9,g10,j13⟩:=bsM j13;refine sXM (anM @zc7 (zas (n:=3) (e:=zao) rfl g10)) ?_;exact zcf j13 hT13
  rintro⟨b4_0,b4_1,b4_2⟩ rfl;dsimp only at j7;refine wTM hT13 ?_;obtain⟨q11,g12,j7⟩:=bsM j7;refine sXM (anM ((zaN g12).1) ((zaN g12).2)) ?_;obtain⟨o14,j14,j7⟩:=bsM j7;obtain⟨T14,hT14⟩:=zce hT12 λa:Int=>uDM (T12 (v6,v7,l2)) [] [(9,(dI a))] [] []
  refine EvL.jn T14 _ (bJM j14 hT14) ?_;rintro v9 rfl;refine wTM hT14 ?_;obtain⟨x14,g15,j7⟩:=bsM j7;obtain⟨x16,g17,j7⟩:=bsM j7;obtain⟨y18,g19,j7⟩:=bsM j7;refine sXM (anM @zeG (anM (ixM g15) (anM el2 (anM (zbp g17) (anM (ltM el2 g17) (anM (zex g17 (zal.c true)) (show(l2.map (zal.c true)).set x14.toNat [(dI v9),(nE true (eI .i64) x16.parents),(nE true (eL (eI .i64)) x16.rows)]=y18.map (zal.c true)from zf8 g19 (zal.c true)))))))) ?_;exact zct hT12 ((w64 (v6 * v9)),(w64 (v7+1)),y18) ⟨j7,(zbU g19).trans el2⟩
 rintro l2 ⟨rfl,el2⟩;refine wTM hT7 ?_;obtain⟨o18,j18,h⟩:=bsM h;obtain⟨T18,hT18⟩:=zce hT7 λa:(List S_api_Node)=>uKM (T7 l2) [2,4] [] [(0,.gone),(2,.els 3 (a.map (zal.c true)))] []
 refine EvL.jn T18 (λa=>a=o18/\a.length=(Int.toNat (zft (zfr (p0.nodes.length:Int) 1) 5))) ?_ ?_
 .refine wSM ?_;obtain⟨T21,hT21⟩:=zce hT7 λa:(Int×(List S_api_Node))=>uDM (T7 l2) [] [(10,(dI a.1))] [(2,.els 3 (a.2.map (zal.c true)))] []
  refine rdM hT21 (λn a=>zbG N p0 r5 n a.1 a.2=some o18/\a.2.length=(Int.toNat (zft (zfr (p0.nodes.length:Int) 1) 5))) (0,l2) ⟨j18,el2⟩ ?_;rintro n ⟨v10,l2'⟩ ⟨j18,el2'⟩;simp only[zbG]at j18;refine wTM hT21 ?_;refine cBM j18 (λ_ j18=>?_) λ_ j18=>?_
  .obtain rfl:=qaf j18;exact zct hT18 _ ⟨rfl,el2'⟩
  obtain⟨o22,j22,j18⟩:=bsM j18;obtain⟨T22,hT22⟩:=zce hT21 λa:(Int×Int×(List Int))=>uDM (T21 (v10,l2')) [] [(11,(.ptr 4 0))] [] [.cells [(dU8 a.1),(dU8 a.2.1),(fzE false (eI .u8) a.2.2)]]
  refine EvL.jn T22 (λa=>a=o22) ?_ ?_
  .refine wSM ?_;refine cBM j22 (λ_ j22=>?_) λ_ j22=>?_
   .obtain rfl:=qaf j22;exact lfj hT22 rfl (wm0 [.k,.k,.k,.k,.k] ⟨MB.cs ⟨qdy,qdy,qdy,qdy⟩,⟨MB.cs ⟨qdy,qdy,qdy⟩,⟨MB.es zal true l2',⟨MB.cs ⟨qdy,rfl,qdy⟩,⟨MB.zBa (.cons (.same trivial) (.cons (.same trivial) (.cons (.fr (zqE (eI .u8))) .nil))),qdy⟩⟩⟩⟩⟩)
   obtain⟨x22,g23,j22⟩:=bsM j22;refine sXM (anM @zc7 (zas (n:=3) (e:=zao) rfl g23)) ?_;exact zcf j22 hT22
  rintro⟨b4_0,b4_1,b4_2⟩ rfl;dsimp only at j18;refine wTM hT22 ?_;obtain⟨x24,g25,j18⟩:=bsM j18;refine sXM (ixM g25) ?_;obtain⟨y26,g27,j18⟩:=bsM j18;refine EvL.ze4 (S':=⟨187,[(1,(.ptr 0 0)),(2,(.ptr 1 0)),(3,(dI (zft (zfr (p0.nodes.length:Int) 1) 5))),(4,(.ptr 3 0)),(5,(fzE true (eI .i64) r5)),(10,(dI v10)),(11,(.ptr 4 0)),(12,(dI x24)),(13,(dI 0))],[.cells [(dU8 p0.grain),(fzE false zao p0.nodes),(fzE false (eI .u8) p0.order)],.cells [(dI 0),zhT],.els 3 (l2'.map (zal.c true)),.cells [(dI (w64 (1+(w64 (p0.grain.tmod 60))))),(.sl 2 0 3 (Int.toNat (zft (zfr (p0.nodes.length:Int) 1) 5)) (some (Int.toNat (zft (zfr (p0.nodes.length:Int) 1) 5))) (Int.toNat (zft (zfr (p0.nodes.length:Int) 1) 5)))],.cells [(dU8 b4_0),(dU8 b4_1),(fzE false (eI .u8) b4_2)]]⟩) (wAM) ?_;refine zCA g27 (λkp=>⟨qdy,qdy,qdy,qdy⟩) (λkp=>⟨qdy,qdy,qdy⟩) (λkp=>trivial) (λkp=>trivial) el2' (zad ?_);refine sSM ?_;obtain⟨y28,g29,j18⟩:=bsM j18;refine EvL.ze4 (S':=⟨187,[(1,(.ptr 0 0)),(2,(.ptr 1 0)),(3,(dI (zft (zfr (p0.nodes.length:Int) 1) 5))),(4,(.ptr 3 0)),(5,(fzE true (eI .i64) r5)),(10,(dI v10)),(11,(.ptr 4 0)),(12,(dI x24)),(15,(dI 0))],[.cells [(dU8 p0.grain),(fzE false zao p0.nodes),(fzE false (eI .u8) p0.order)],.cells [(dI 0),zhT],.els 3 (y26.map (zal.c true)),.cells [(dI (w64 (1+(w64 (p0.grain.tmod 60))))),(.sl 2 0 3 (Int.toNat (zft (zfr (p0.nodes.length:Int) 1) 5)) (some (Int.toNat (zft (zfr (p0.nodes.length:Int) 1) 5))) (Int.toNat (zft (zfr (p0.nodes.length:Int) 1) 5)))],.cells [(dU8 b4_0),(dU8 b4_1),(fzE false (eI .u8) b4_2)]]⟩) (wAM) ?_;refine zCv g29 (λkp=>⟨qdy,qdy,qdy,qdy⟩) (λkp=>⟨qdy,qdy,qdy⟩) (λkp=>trivial) (λkp=>trivial) ((zkG g27).trans el2') (zad ?_);refine sSM ?_;exact zct hT21 ((w64 (v10+1)),y28) ⟨j18,((zq7 g29).trans ((zkG g27).trans el2'))⟩
 rintro l2' ⟨rfl,el2'⟩;refine wTM hT18 ?_;obtain rfl:=qaf h;exact zeJ.ret rfl (.zga (.cons (.lit _) (.cons (zau (e:=zaa) rfl (.inl rfl) (by rw[qay]; exact(el2').symm) (by rw[qay]; exact(el2').symm) (λk h=>by cases h; exact qap _) (zjM (λ_=>rfl) l2')) .nil)))
def zbs(p0:(List Int))(p1:Int):Nat->Int->Option (Out Unit Bool)
 | 0,_=>none
 | n+1,v5=>(
bif (decide (v5<(p0.length:Int)))then(
(((zaz p0 v5).bind λx2=>
bif (decide (x2<0))then(
some true)
else(
bif (decide (p1<=x2))then(
some true)
else(
bif (decide (0<v5))then(
(zaz p0 (w64 (v5 - 1))).bind λx7=>
some (decide (x2<=x7)))
else(
some false))):Option Bool)).bind λv40=>
bif v40 then(
some (.ret false))
else(
zbs p0 p1 n (w64 (v5+1))))
else(
some (.go ())))
def zdN(p0:(List Int))(p1:Int):Option Bool:=
((zbs p0 p1 ((p0.length:Int) - 0+2:Int).toNat 0:Option (Out Unit Bool))).bind λo=>match o with
| .go _=>(
some true)
| .ret r=>some r
theorem zkX{p0:(List Int)}{p1:Int}{r:Bool}(h:zdN p0 p1=some r):Lx.Fn mC 83 [(fzE false (eI .i64) p0),(dI p1)] (dB r):=by
 refine gnO ?_;unfold zdN at h;refine wSM ?_;obtain⟨o4,j4,h⟩:=bsM h;obtain⟨T4,hT4⟩:=mkT λa:Unit=>⟨41,[],[]⟩
 refine EvL.jn T4 (λa=>o4=.go a) ?_ ?_
 .refine wSM ?_;obtain⟨T7,hT7⟩:=mkT λa:Int=>⟨41,[(0,(fzE false (eI .i64) p0)),(1,(dI p1)),(5,(dI a))],[]⟩
  refine rdM hT7 (λn a=>zbs p0 p1 n a=some o4) 0 j4 ?_;rintro n v5 j4;simp only[zbs]at j4;refine wTM hT7 ?_;refine cBM j4 (λ_ j4=>?_) λ_ j4=>?_
  .exact zwa j4 hT4
  obtain⟨o8,j8,j4⟩:=bsM j4;obtain⟨T8,hT8⟩:=zce hT7 λa:Bool=>uDM (T7 v5) [] [(40,(dB a))] [] []
  refine EvL.jn T8 (λa=>a=o8) ?_ ?_
  .refine zad ?_;obtain⟨x2,g3,j8⟩:=bsM j8;refine sXM (ixM g3) ?_;refine cBM j8 (λ_ j8=>?_) λ_ j8=>?_
   .refine sXM (ixM g3) ?_;refine cBM j8 (λ_ j8=>?_) λ_ j8=>?_
    .refine cBM j8 (λ_ j8=>?_) λ_ j8=>?_
     .exact zcf j8 hT8
     obtain⟨x7,g8,j8⟩:=bsM j8;refine sXM (anM (ixM g3) (ixM g8)) ?_;exact zcf j8 hT8
    exact zcf j8 hT8
   exact zcf j8 hT8
  rintro v40 rfl;refine wTM hT8 ?_;refine cBM j4 (λ_ j4=>?_) λ_ j4=>?_
  .exact zct hT7 (w64 (v5+1)) j4
  obtain rfl:=qaf j4;exact rHM h
 rintro⟨⟩ rfl;dsimp only at h;refine wTM hT4 ?_;exact rHM h
def zbk(p0:Int)(p1:Int):Option Bool:=
(zl6 .u64 p0 (IntKind.u64.wrap p1)).bind λq1=>
some ((zkd .u64 q1 1)== 1)
theorem zcS{p0:Int}{p1:Int}{r:Bool}(h:zbk p0 p1=some r):Lx.Fn mC 54 [(dU p0),(dI p1)] (dB r):=by
 refine gnO ?_;unfold zbk at h;refine zad ?_;obtain⟨q1,g2,h⟩:=bsM h;refine sXM (anM ((zbu g2).1) ((zbu g2).2)) ?_;exact rHM h
def zej(p0:(List Int)):Nat->Int->Int->Option Int
 | 0,_,_=>none
 | n+1,v1',v6=>(
bif (decide (v6<(p0.length:Int)))then(
(zbk v1' v6).bind λr3=>
((bif r3 then(
(zaz p0 v6).bind λx6=>
some (orI .u64 v1' x6))
else(
some v1'):Option Int)).bind λv1''=>
zej p0 n v1'' (w64 (v6+1)))
else(
some v1'))
def zeg(p0:(List Int)):Nat->Int->Int->Option Int
 | 0,_,_=>none
 | n+1,v1,v5=>(
bif (decide (v5<(p0.length:Int)))then(
((zej p0 ((p0.length:Int) - 0+2:Int).toNat v1 0:Option Int)).bind λv1'=>
zeg p0 n v1' (w64 (v5+1)))
else(
some v1))
def zgd(p0:(List Int))(p1:Int):Option Int:=
((zeg p0 ((p0.length:Int) - 0+2:Int).toNat p1 0:Option Int)).bind λv1=>
some v1
theorem znG{p0:(List Int)}{p1:Int}{r:Int}(h:zgd p0 p1=some r):Lx.Fn mC 85 [(fzE false (eI .u64) p0),(dU p1)] (dU r):=by
 refine gnO ?_;unfold zgd at h;refine wSM ?_;obtain⟨o25,j25,h⟩:=bsM h;obtain⟨T25,hT25⟩:=mkT λa:Int=>⟨29,[(1,(dU a))],[]⟩
 refine EvL.jn T25 (λa=>a=o25) ?_ ?_
 .refine wSM ?_;obtain⟨T42,hT42⟩:=mkT λa:(Int×Int)=>⟨29,[(0,(fzE false (eI .u64) p0)),(1,(dU a.1)),(5,(dI a.2))],[]⟩
  refine rdM hT42 (λn a=>zeg p0 n a.1 a.2=some o25) (p1,0) j25 ?_;rintro n ⟨v1,v5⟩ j25;simp only[zeg]at j25;refine wTM hT42 ?_;refine cBM j25 (λ_ j25=>?_) λ_ j25=>?_
  .exact zcf j25 hT25
  obtain⟨o46,j46,j25⟩:=bsM j25;obtain⟨T46,hT46⟩:=zce hT42 λa:Int=>uDM (T42 (v1,v5)) [1] [(1,(dU a))] [] []
  refine EvL.jn T46 (λa=>a=o46) ?_ ?_
  .refine wSM ?_;obtain⟨T49,hT49⟩:=zce hT42 λa:(Int×Int)=>uDM (T42 (v1,v5)) [1] [(1,(dU a.1)),(6,(dI a.2))] [] []
   refine rdM hT49 (λn a=>zej p0 n a.1 a.2=some o46) (v1,0) j46 ?_;rintro n ⟨v1',v6⟩ j46;simp only[zej]at j46;refine wTM hT49 ?_;refine cBM j46 (λ_ j46=>?_) λ_ j46=>?_
   .exact zcf j46 hT46
   obtain⟨r3,g4,j46⟩:=bsM j46;refine sSM ?_;refine fCM (zcS g4) ?_;obtain⟨o50,j50,j46⟩:=bsM j46;obtain⟨T50,hT50⟩:=zce hT49 λa:Int=>uDM (T49 (v1',v6)) [1] [(1,(dU a))] [] []
   refine EvL.jn T50 (λa=>a=o50) ?_ ?_
   .refine wSM ?_;refine cBM j50 (λ_ j50=>?_) λ_ j50=>?_
    .exact zcf j50 hT50
    obtain⟨x6,g7,j50⟩:=bsM j50;refine sXM (zas (n:=1) (e:=(eI .u64)) rfl g7) ?_;exact zcf j50 hT50
   rintro v1'' rfl;refine wTM hT50 ?_;exact zct hT49 (v1'',(w64 (v6+1))) j46
  rintro v1' rfl;refine wTM hT46 ?_;exact zct hT42 (v1',(w64 (v5+1))) j25
 rintro v1 rfl;refine wTM hT25 ?_;exact rHM h
def zbO(p0:(List Int)):Nat->Int->Option (Out Unit Bool)
 | 0,_=>none
 | n+1,v3=>(
bif (decide (v3<(p0.length:Int)))then(
(zaz p0 v3).bind λx2=>
(zgd p0 x2).bind λr4=>
(zbk r4 v3).bind λr6=>
bif r6 then(
some (.ret false))
else(
zbO p0 n (w64 (v3+1))))
else(
some (.go ())))
def zcJ(p0:(List Int)):Option Bool:=
((zbO p0 ((p0.length:Int) - 0+2:Int).toNat 0:Option (Out Unit Bool))).bind λo=>match o with
| .go _=>(
some true)
| .ret r=>some r
theorem zjW{p0:(List Int)}{r:Bool}(h:zcJ p0=some r):Lx.Fn mC 84 [(fzE false (eI .u64) p0)] (dB r):=by
 refine gnO ?_;unfold zcJ at h;refine wSM ?_;obtain⟨o1,j1,h⟩:=bsM h;obtain⟨T1,hT1⟩:=mkT λa:Unit=>⟨18,[],[]⟩
 refine EvL.jn T1 (λa=>o1=.go a) ?_ ?_
 .refine wSM ?_;obtain⟨T2,hT2⟩:=mkT λa:Int=>⟨18,[(0,(fzE false (eI .u64) p0)),(3,(dI a))],[]⟩
  refine rdM hT2 (λn a=>zbO p0 n a=some o1) 0 j1 ?_;rintro n v3 j1;simp only[zbO]at j1;refine wTM hT2 ?_;refine cBM j1 (λ_ j1=>?_) λ_ j1=>?_
  .exact zwa j1 hT1
  obtain⟨x2,g3,j1⟩:=bsM j1;obtain⟨r4,g5,j1⟩:=bsM j1;refine sXM (zas (n:=1) (e:=(eI .u64)) rfl g3) ?_;refine fCM (znG g5) ?_;obtain⟨r6,g7,j1⟩:=bsM j1;refine sSM ?_;refine fCM (zcS g7) ?_;refine cBM j1 (λ_ j1=>?_) λ_ j1=>?_
  .exact zct hT2 (w64 (v3+1)) j1
  obtain rfl:=qaf j1;exact rHM h
 rintro⟨⟩ rfl;dsimp only at h;refine wTM hT1 ?_;exact rHM h
def zbw(p0:S_api_Net)(v4:Int):Nat->Int->Int->Option Int
 | 0,_,_=>none
 | n+1,v5,v6=>(
(zaz p0.nodes v4).bind λx2=>
bif (decide (v6<(x2.parents.length:Int)))then(
(zaz x2.parents v6).bind λx5=>
(zjl .u64 1 (IntKind.u64.wrap x5)).bind λq7=>
zbw p0 v4 n (orI .u64 v5 q7) (w64 (v6+1)))
else(
some v5))
def zbx(p0:S_api_Net):Nat->Int->(List Int)->Option (List Int)
 | 0,_,_=>none
 | n+1,v4,l1=>(
bif (decide (v4<(p0.nodes.length:Int)))then(
((zbw p0 v4 ((((zaz p0.nodes v4).getD default).parents.length:Int) - 0+2:Int).toNat 0 0:Option Int)).bind λv5=>
(zd1 8 l1 [v5]).bind λy11=>
zbx p0 n (w64 (v4+1)) y11)
else(
some l1))
def zbn(p0:S_api_Net):Option (List Int):=
((zbx p0 ((p0.nodes.length:Int) - 0+2:Int).toNat 0 []:Option (List Int))).bind λl1=>
some l1
variable{p0:S_api_Net}
theorem zeL(h:zbn p0=some r):Lx.FnT mC 53 [(.agg [(dI p0.grain),(fzE false zaa p0.nodes)])] [(.sl 1 0 1 r.length none r.length)] [.gone,.grow 1 (r.map ((eI .u64).c true))]:=by
 refine zEQ (by conv=>lhs; cbv) ?_;unfold zbn at h;refine wSM ?_;obtain⟨o9,j9,h⟩:=bsM h;obtain⟨T9,hT9⟩:=mkT λa:(List Int)=>⟨43,[(3,(.sl 1 0 1 a.length none a.length))],[.gone,.grow 1 (a.map ((eI .u64).c true))]⟩
 refine EvL.jn T9 (λa=>a=o9) ?_ ?_
 .refine wSM ?_;obtain⟨T16,hT16⟩:=mkT λa:(Int×(List Int))=>⟨43,[(1,(.ptr 0 0)),(3,(.sl 1 0 1 a.2.length none a.2.length)),(4,(dI a.1))],[.cells [(dI p0.grain),(fzE false zaa p0.nodes)],.grow 1 (a.2.map ((eI .u64).c true))]⟩
  refine EvL.ze4 (zbH.ghost (n:=1) (k:=3) (by decide) rfl) ?_;refine EvL.rounds (α:=(Int×(List Int))) T16 (λn a=>zbx p0 n a.1 a.2=some o9) ((p0.nodes.length:Int) - 0+2:Int).toNat (0,[]) (by rw[hT16]; exact wm0 [.k,.k] ⟨MB.cs ⟨qdy,qdy,qdy⟩,⟨MB.gs (eI .u64) true [],qdy⟩⟩) j9 (λ_ h=>nomatch (show(none:Option (List Int))=some o9 from h)) ?_;rintro n ⟨v4,l1⟩ j9;simp only[zbx]at j9;refine wTM hT16 ?_;refine cBM j9 (λ_ j9=>?_) λ_ j9=>?_
  .exact zcf j9 hT9
  obtain⟨o17,j17,j9⟩:=bsM j9;obtain⟨T17,hT17⟩:=zce hT16 λa:Int=>uDM (T16 (v4,l1)) [] [(5,(dU a))] [] []
  refine EvL.jn T17 (λa=>a=o17) ?_ ?_
  .refine wSM ?_;obtain⟨T18,hT18⟩:=zce hT16 λa:(Int×Int)=>uDM (T16 (v4,l1)) [] [(5,(dU a.1)),(6,(dI a.2))] [] []
   refine EvL.rounds (α:=(Int×Int)) T18 (λn a=>zbw p0 v4 n a.1 a.2=some o17) ((((zaz p0.nodes v4).getD default).parents.length:Int) - 0+2:Int).toNat (0,0) (by rw[hT18]; exact wAM) j17 (λ_ h=>nomatch (show(none:Option Int)=some o17 from h)) ?_;rintro n ⟨v5,v6⟩ j17;simp only[zbw]at j17;refine wTM hT18 ?_;obtain⟨x2,g3,j17⟩:=bsM j17;refine sXM (anM @zaf (zas (n:=3) (e:=zaa) rfl g3)) ?_;refine cBM j17 (λ_ j17=>?_) λ_ j17=>?_
   .exact zcf j17 hT17
   obtain⟨x5,g6,j17⟩:=bsM j17;obtain⟨q7,g8,j17⟩:=bsM j17;refine sXM (anM @zaf (anM (zas (n:=3) (e:=zaa) rfl g3) (anM (ixM g6) (anM ((zaN g8).1) ((zaN g8).2))))) ?_;exact zct hT18 ((orI .u64 v5 q7),(w64 (v6+1))) j17
  rintro v5 rfl;refine wTM hT17 ?_;obtain⟨y11,g12,j9⟩:=bsM j9;refine sXM (anM (zcK g12) (anM (plM g12) (puM g12))) ?_;exact zct hT16 ((w64 (v4+1)),y11) j9
 rintro l1 rfl;refine wTM hT9 ?_;obtain rfl:=qaf h;exact zAl.ret (⟨43,[(2,(.sl 1 0 1 l1.length none l1.length))],[.gone,.grow 1 (l1.map ((eI .u64).c true))]⟩) (wAM) rfl rfl
def zb4(p0:S_api_Net):Nat->Int->Int->Option (Out Int Bool)
 | 0,_,_=>none
 | n+1,v3,v4=>(
bif (decide (v4<(p0.nodes.length:Int)))then(
(zaz p0.nodes v4).bind λx6=>
((bif (decide (x6.zap<1))then(
some true)
else(
bif (decide (4<x6.zap))then(
some true)
else(
(zdN x6.parents (p0.nodes.length:Int)).bind λr10=>
some (!r10))):Option Bool)).bind λv59=>
bif v59 then(
some (.ret false))
else(
zb4 p0 n (w64 (v3 * x6.zap)) (w64 (v4+1))))
else(
some (.go v3)))
def zcu(x28:(List Int))(p0:S_api_Net):Nat->Int->Int->Option (Out Int Bool)
 | 0,_,_=>none
 | n+1,v9,v10=>(
bif (decide (v10<(x28.length:Int)))then(
(((zaz x28 v10).bind λx32=>
bif (decide (x32<0))then(
some true)
else(
some (decide (p0.grain<x32))):Option Bool)).bind λv139=>
bif v139 then(
some (.ret false))
else(
(zaz x28 v10).bind λx36=>
zcu x28 p0 n (w64 (v9+x36)) (w64 (v10+1))))
else(
some (.go v9)))
def zcH(x20:S_api_Node)(p0:S_api_Net):Nat->Int->Option (Out Unit Bool)
 | 0,_=>none
 | n+1,v8=>(
bif (decide (v8<(x20.rows.length:Int)))then(
(zaz x20.rows v8).bind λx28=>
bif ((x28.length:Int)== x20.zap)then(
((zcu x28 p0 ((x28.length:Int) - 0+2:Int).toNat 0 0:Option (Out Int Bool))).bind λo=>match o with
| .go v9=>(
bif (v9 == p0.grain)then(
zcH x20 p0 n (w64 (v8+1)))
else(
some (.ret false)))
| .ret r=>some (.ret r))
else(
some (.ret false)))
else(
some (.go ())))
def zcC(p0:S_api_Net):Nat->Int->Option (Out Unit Bool)
 | 0,_=>none
 | n+1,v6=>(
bif (decide (v6<(p0.nodes.length:Int)))then(
(zaz p0.nodes v6).bind λx20=>
(zaX p0 v6).bind λr22=>
(zd9 r22).bind λr24=>
bif ((x20.rows.length:Int)== r24)then(
((zcH x20 p0 ((x20.rows.length:Int) - 0+2:Int).toNat 0:Option (Out Unit Bool))).bind λo=>match o with
| .go _=>(
zcC p0 n (w64 (v6+1)))
| .ret r=>some (.ret r))
else(
some (.ret false)))
else(
some (.go ())))
def zcx(p0:S_api_Net):Option Bool:=
((bif (decide (p0.grain<1))then(
some true)
else(
bif (decide (60<p0.grain))then(
some true)
else(
bif (decide ((p0.nodes.length:Int)<1))then(
some true)
else(
some (decide (8<(p0.nodes.length:Int)))))):Option Bool)).bind λv30=>
bif v30 then(
some false)
else(
((zb4 p0 ((p0.nodes.length:Int) - 0+2:Int).toNat 1 0:Option (Out Int Bool))).bind λo=>match o with
| .go v3=>(
((bif (decide (1024<v3))then(
some true)
else(
(zbn p0).bind λr14=>
(zcJ r14).bind λr16=>
some (!r16)):Option Bool)).bind λv71=>
bif v71 then(
some false)
else(
((zcC p0 ((p0.nodes.length:Int) - 0+2:Int).toNat 0:Option (Out Unit Bool))).bind λo=>match o with
| .go _=>(
some true)
| .ret r=>some r))
| .ret r=>some r)
theorem znM{r:Bool}(h:zcx p0=some r):Lx.Fn mC 56 [(.agg [(dI p0.grain),(fzE false zaa p0.nodes)])] (dB r):=by
 refine gnO ?_;unfold zcx at h;refine wSM ?_;obtain⟨o1,j1,h⟩:=bsM h;obtain⟨T1,hT1⟩:=mkT λa:Bool=>⟨154,[(1,(.ptr 0 0)),(30,(dB a))],[.cells [(dI p0.grain),(fzE false zaa p0.nodes)]]⟩
 refine EvL.jn T1 _ (bJM j1 hT1) ?_;rintro v30 rfl;refine wTM hT1 ?_;refine cBM h (λ_ h=>?_) λ_ h=>?_
 .obtain⟨o5,j5,h⟩:=bsM h;obtain⟨T5,hT5⟩:=zce hT1 λa:Int=>uKM (T1 v30) [1] [(3,(dI a))] [] []
  refine EvL.jn T5 (λa=>o5=.go a) ?_ ?_
  .refine wSM ?_;obtain⟨T8,hT8⟩:=zce hT1 λa:(Int×Int)=>uKM (T1 v30) [1] [(3,(dI a.1)),(4,(dI a.2))] [] []
   refine rdM hT8 (λn a=>zb4 p0 n a.1 a.2=some o5) (1,0) j5 ?_;rintro n ⟨v3,v4⟩ j5;simp only[zb4]at j5;refine wTM hT8 ?_;refine cBM j5 (λ_ j5=>?_) λ_ j5=>?_
   .exact zwa j5 hT5
   obtain⟨x6,g7,j5⟩:=bsM j5;refine sXM (anM @zaf (zas (n:=3) (e:=zaa) rfl g7)) ?_;obtain⟨o9,j9,j5⟩:=bsM j5;obtain⟨T9,hT9⟩:=zce hT8 λa:Bool=>uDM (T8 (v3,v4)) [] [(5,(.ptr 1 0)),(59,(dB a))] [] [.cells [(dI x6.zap),(fzE false (eI .i64) x6.parents),(fzE false (eL (eI .i64)) x6.rows)]]
   refine EvL.jn T9 (λa=>a=o9) ?_ ?_
   .refine wSM ?_;refine cBM j9 (λ_ j9=>?_) λ_ j9=>?_
    .refine cBM j9 (λ_ j9=>?_) λ_ j9=>?_
     .obtain⟨r10,g11,j9⟩:=bsM j9;refine sSM ?_;refine fCM (zkX g11) ?_;exact zcf j9 hT9
     refine EvL.skip rfl ?_;refine sSM ?_;exact zcf j9 hT9
    refine EvL.skip rfl ?_;refine sSM ?_;exact zcf j9 hT9
   rintro v59 rfl;refine wTM hT9 ?_;refine cBM j5 (λ_ j5=>?_) λ_ j5=>?_
   .exact zct hT8 ((w64 (v3 * x6.zap)),(w64 (v4+1))) j5
   obtain rfl:=qaf j5;exact rHM h
  rintro v3 rfl;dsimp only at h;refine wTM hT5 ?_;obtain⟨o10,j10,h⟩:=bsM h;obtain⟨T10,hT10⟩:=zce hT5 λa:Bool=>uKM (T5 v3) [1] [(71,(dB a))] [] []
  refine EvL.jn T10 (λa=>a=o10) ?_ ?_
  .refine wSM ?_;refine cBM j10 (λ_ j10=>?_) λ_ j10=>?_
   .obtain⟨r14,g15,j10⟩:=bsM j10;refine sSM ?_;refine EvL.fnT (r:=(.sl 2 0 1 r14.length none r14.length)) (L':=[.cells [(dI p0.grain),(fzE false zaa p0.nodes)],.gone,.grow 1 (r14.map ((eI .u64).c true))]) (zeL g15) rfl rfl (.cons (Mzs.agg (.cons (.lit _) (.cons (zkt _ _ (λh=>by cases h<;>contradiction)) .nil))) .nil) ⟨⟨qdy,(zkL _ _),qdy⟩,qdy⟩ ⟨qdy,qdy⟩ ⟨qdy,(zve (eI .u64) (λ_=>⟨qdy,qdy⟩) _),qdy⟩ rfl rfl ?_;obtain⟨r16,g17,j10⟩:=bsM j10;refine sSM ?_;refine fCM (zjW g17) ?_;exact zcf j10 hT10
   refine EvL.skip rfl ?_;refine sSM ?_;refine EvL.skip rfl ?_;refine sSM ?_;exact zcf j10 hT10
  rintro v71 rfl;refine wTM hT10 ?_;refine cBM h (λ_ h=>?_) λ_ h=>?_
  .obtain⟨o161,j161,h⟩:=bsM h;obtain⟨T161,hT161⟩:=mkT λa:Unit=>⟨154,[],[]⟩
   refine EvL.jn T161 (λa=>o161=.go a) ?_ ?_
   .refine wSM ?_;obtain⟨T262,hT262⟩:=zce hT5 λa:Int=>uKM (T5 v3) [1] [(6,(dI a))] [] []
    refine rdM hT262 (λn a=>zcC p0 n a=some o161) 0 j161 ?_;rintro n v6 j161;simp only[zcC]at j161;refine wTM hT262 ?_;refine cBM j161 (λ_ j161=>?_) λ_ j161=>?_
    .exact zwa j161 hT161
    obtain⟨x20,g21,j161⟩:=bsM j161;obtain⟨r22,g23,j161⟩:=bsM j161;refine sXM (anM @zaf (zas (n:=3) (e:=zaa) rfl g21)) ?_;refine fCM (zez g23) ?_;obtain⟨r24,g25,j161⟩:=bsM j161;refine sSM ?_;refine fCM (zjG g25) ?_;refine cBM j161 (λ_ j161=>?_) λ_ j161=>?_
    .obtain rfl:=qaf j161;exact rHM h
    obtain⟨o287,j287,j161⟩:=bsM j161;obtain⟨T287,hT287⟩:=zce hT262 λa:Unit=>uDM (T262 v6) [] [] [] []
    refine EvL.jn T287 (λa=>o287=.go a) ?_ ?_
    .refine wSM ?_;obtain⟨T304,hT304⟩:=zce hT262 λa:Int=>uDM (T262 v6) [] [(7,(.ptr 1 0)),(8,(dI a))] [] [.cells [(dI x20.zap),(fzE false (eI .i64) x20.parents),(fzE false (eL (eI .i64)) x20.rows)]]
     refine rdM hT304 (λn a=>zcH x20 p0 n a=some o287) 0 j287 ?_;rintro n v8 j287;simp only[zcH]at j287;refine wTM hT304 ?_;refine cBM j287 (λ_ j287=>?_) λ_ j287=>?_
     .exact zwa j287 hT287
     obtain⟨x28,g29,j287⟩:=bsM j287;refine sXM (zas (n:=1) (e:=(eL (eI .i64))) rfl g29) ?_;refine cBM j287 (λ_ j287=>?_) λ_ j287=>?_
     .obtain rfl:=qaf j287;obtain rfl:=qaf j161;exact rHM h
     obtain⟨o308,j308,j287⟩:=bsM j287;obtain⟨T308,hT308⟩:=zce hT304 λa:Int=>uDM (T304 v8) [] [(9,(dI a))] [] []
     refine EvL.jn T308 (λa=>o308=.go a) ?_ ?_
     .refine wSM ?_;obtain⟨T311,hT311⟩:=zce hT304 λa:(Int×Int)=>uDM (T304 v8) [] [(9,(dI a.1)),(10,(dI a.2))] [] []
      refine rdM hT311 (λn a=>zcu x28 p0 n a.1 a.2=some o308) (0,0) j308 ?_;rintro n ⟨v9,v10⟩ j308;simp only[zcu]at j308;rw[congrFun hT311 (v9,v10)];refine zad ?_;refine sXM (zas (n:=1) (e:=(eL (eI .i64))) rfl g29) ?_;refine cBM j308 (λ_ j308=>?_) λ_ j308=>?_
      .exact zwa j308 hT308
      obtain⟨o312,j312,j308⟩:=bsM j308;obtain⟨T312,hT312⟩:=zce hT311 λa:Bool=>uDM (T311 (v9,v10)) [] [(139,(dB a))] [] []
      refine EvL.jn T312 (λa=>a=o312) ?_ ?_
      .refine zad ?_;obtain⟨x32,g33,j312⟩:=bsM j312;refine sXM (anM (zas (n:=1) (e:=(eL (eI .i64))) rfl g29) (ixM g33)) ?_;refine cBM j312 (λ_ j312=>?_) λ_ j312=>?_
       .refine sXM (anM (zas (n:=1) (e:=(eL (eI .i64))) rfl g29) (ixM g33)) ?_;exact zcf j312 hT312
       exact zcf j312 hT312
      rintro v139 rfl;refine wTM hT312 ?_;refine cBM j308 (λ_ j308=>?_) λ_ j308=>?_
      .obtain⟨x36,g37,j308⟩:=bsM j308;refine sXM (anM (zas (n:=1) (e:=(eL (eI .i64))) rfl g29) (ixM g37)) ?_;exact zct hT311 ((w64 (v9+x36)),(w64 (v10+1))) j308
      obtain rfl:=qaf j308;obtain rfl:=qaf j287;obtain rfl:=qaf j161;exact rHM h
     rintro v9 rfl;dsimp only at j287;refine wTM hT308 ?_;refine cBM j287 (λ_ j287=>?_) λ_ j287=>?_
     .obtain rfl:=qaf j287;obtain rfl:=qaf j161;exact rHM h
     exact zct hT304 (w64 (v8+1)) j287
    rintro⟨⟩ rfl;dsimp only at j161;refine wTM hT287 ?_;exact zct hT262 (w64 (v6+1)) j161
   rintro⟨⟩ rfl;dsimp only at h;refine wTM hT161 ?_;exact rHM h
  exact rHM h
 exact rHM h
def zbY(p1:S_api_Net)(p0:S_haruspexref05_Known):Nat->Int->(List Int)->Option (List Int)
 | 0,_,_=>none
 | n+1,v6,l2=>(
bif (decide (v6<(p1.nodes.length:Int)))then(
(zl6 .u8 p0.which (IntKind.u64.wrap v6)).bind λq2=>
((bif ((zkd .u8 q2 1)== 1)then(
(zaz [p0.v.a0,p0.v.a1,p0.v.a2,p0.v.a3,p0.v.a4,p0.v.a5,p0.v.a6,p0.v.a7] v6).bind λx5=>
(zaz p1.nodes v6).bind λx7=>
(zrz (w64 x5) x7.zap).bind λq9=>
some q9)
else(
some (-1)):Option Int)).bind λv7=>
(zd1 8 l2 [v7]).bind λy11=>
zbY p1 p0 n (w64 (v6+1)) y11)
else(
some l2))
def zci(p0:S_haruspexref05_Known)(p1:S_api_Net):Option (List Int):=
((zbY p1 p0 ((p1.nodes.length:Int) - 0+2:Int).toNat 0 []:Option (List Int))).bind λl2=>
some l2
theorem zjx{p0:S_haruspexref05_Known}{p1:S_api_Net}(h:zci p0 p1=some r):Lx.Fn mC 25 [(.agg [(dU8 p0.which),(dU8 p0.v.a0),(dU8 p0.v.a1),(dU8 p0.v.a2),(dU8 p0.v.a3),(dU8 p0.v.a4),(dU8 p0.v.a5),(dU8 p0.v.a6),(dU8 p0.v.a7)]),(.agg [(dI p1.grain),(fzE false zaa p1.nodes)])] (fzE true (eI .i64) r):=by
 refine gnO ?_;unfold zci at h;refine wSM ?_;obtain⟨o5,j5,h⟩:=bsM h;obtain⟨T5,hT5⟩:=mkT λa:(List Int)=>⟨39,[(5,(.sl 2 0 1 a.length none a.length))],[.gone,.gone,.grow 1 (a.map ((eI .i64).c true))]⟩
 refine EvL.jn T5 (λa=>a=o5) ?_ ?_
 .refine wSM ?_;obtain⟨T9,hT9⟩:=mkT λa:(Int×(List Int))=>⟨39,[(2,(.ptr 0 0)),(3,(.ptr 1 0)),(5,(.sl 2 0 1 a.2.length none a.2.length)),(6,(dI a.1))],[.cells [(dU8 p0.which),(dU8 p0.v.a0),(dU8 p0.v.a1),(dU8 p0.v.a2),(dU8 p0.v.a3),(dU8 p0.v.a4),(dU8 p0.v.a5),(dU8 p0.v.a6),(dU8 p0.v.a7)],.cells [(dI p1.grain),(fzE false zaa p1.nodes)],.grow 1 (a.2.map ((eI .i64).c true))]⟩
  refine EvL.ze4 (zbH.ghost (n:=1) (k:=5) (by decide) rfl) ?_;refine EvL.rounds (α:=(Int×(List Int))) T9 (λn a=>zbY p1 p0 n a.1 a.2=some o5) ((p1.nodes.length:Int) - 0+2:Int).toNat (0,[]) (by rw[hT9]; exact wm0 [.k,.k,.k] ⟨MB.cs ⟨qdy,qdy,qdy,qdy,qdy,qdy,qdy,qdy,qdy,qdy⟩,⟨MB.cs ⟨qdy,qdy,qdy⟩,⟨MB.gs (eI .i64) true [],qdy⟩⟩⟩) j5 (λ_ h=>nomatch (show(none:Option (List Int))=some o5 from h)) ?_;rintro n ⟨v6,l2⟩ j5;simp only[zbY]at j5;refine wTM hT9 ?_;refine cBM j5 (λ_ j5=>?_) λ_ j5=>?_
  .exact zcf j5 hT5
  obtain⟨q2,g3,j5⟩:=bsM j5;refine sXM (anM ((zbu g3).1) ((zbu g3).2)) ?_;obtain⟨o10,j10,j5⟩:=bsM j5;obtain⟨T10,hT10⟩:=zce hT9 λa:Int=>uDM (T9 (v6,l2)) [] [(7,(dI a))] [] []
  refine EvL.jn T10 (λa=>a=o10) ?_ ?_
  .refine wSM ?_;refine cBM j10 (λ_ j10=>?_) λ_ j10=>?_
   .exact zcf j10 hT10
   obtain⟨x5,g6,j10⟩:=bsM j10;obtain⟨x7,g8,j10⟩:=bsM j10;obtain⟨q9,g10,j10⟩:=bsM j10;refine sXM (anM @zaf (anM (zbp g6) (anM (show v6<((8:Nat):Int)from zfH g6) (anM @qde (anM (show [(dU8 p0.which),(dU8 p0.v.a0),(dU8 p0.v.a1),(dU8 p0.v.a2),(dU8 p0.v.a3),(dU8 p0.v.a4),(dU8 p0.v.a5),(dU8 p0.v.a6),(dU8 p0.v.a7)][1+v6.toNat]? = some (.lit (.int .u8 x5))from zyD (a:=1) (i:=v6) g6 (λx=>(.lit (.int .u8 x):D)) rfl) (anM (zas (n:=3) (e:=zaa) rfl g8) (anM (zhL g10) (ziW g10)))))))) ?_;exact zcf j10 hT10
  rintro v7 rfl;refine wTM hT10 ?_;obtain⟨y11,g12,j5⟩:=bsM j5;refine sXM (anM (zcK g12) (anM (plM g12) (piM g12))) ?_;exact zct hT9 ((w64 (v6+1)),y11) j5
 rintro l2 rfl;refine wTM hT5 ?_;exact rHM h
def zaV(p1:(List Int))(p0:S_api_Net):Nat->Int->Option (Out Unit Bool)
 | 0,_=>none
 | n+1,v5=>(
bif (decide (v5<(p1.length:Int)))then(
(((zaz p1 v5).bind λx3=>
bif (decide (x3<(-1)))then(
some true)
else(
(zaz p0.nodes v5).bind λx6=>
some (decide (x6.zap<=x3))):Option Bool)).bind λv35=>
bif v35 then(
some (.ret false))
else(
zaV p1 p0 n (w64 (v5+1))))
else(
some (.go ())))
def zbN(p0:S_api_Net)(p1:(List Int)):Option Bool:=
bif ((p1.length:Int)==(p0.nodes.length:Int))then(
((zaV p1 p0 ((p1.length:Int) - 0+2:Int).toNat 0:Option (Out Unit Bool))).bind λo=>match o with
| .go _=>(
some true)
| .ret r=>some r)
else(
some false)
theorem zjs{p1:(List Int)}{r:Bool}(h:zbN p0 p1=some r):Lx.Fn mC 57 [(.agg [(dI p0.grain),(fzE false zaa p0.nodes)]),(fzE false (eI .i64) p1)] (dB r):=by
 refine gnO ?_;unfold zbN at h;refine wSM ?_;refine cBM h (λ_ h=>?_) λ_ h=>?_
 .exact rHM h
 obtain⟨o4,j4,h⟩:=bsM h;obtain⟨T4,hT4⟩:=mkT λa:Unit=>⟨36,[],[]⟩
 refine EvL.jn T4 (λa=>o4=.go a) ?_ ?_
 .refine wSM ?_;obtain⟨T7,hT7⟩:=mkT λa:Int=>⟨36,[(1,(fzE false (eI .i64) p1)),(2,(.ptr 0 0)),(5,(dI a))],[.cells [(dI p0.grain),(fzE false zaa p0.nodes)]]⟩
  refine rdM hT7 (λn a=>zaV p1 p0 n a=some o4) 0 j4 ?_;rintro n v5 j4;simp only[zaV]at j4;refine wTM hT7 ?_;refine cBM j4 (λ_ j4=>?_) λ_ j4=>?_
  .exact zwa j4 hT4
  obtain⟨o8,j8,j4⟩:=bsM j4;obtain⟨T8,hT8⟩:=zce hT7 λa:Bool=>uDM (T7 v5) [] [(35,(dB a))] [] []
  refine EvL.jn T8 (λa=>a=o8) ?_ ?_
  .refine zad ?_;obtain⟨x3,g4,j8⟩:=bsM j8;refine sXM (ixM g4) ?_;refine cBM j8 (λ_ j8=>?_) λ_ j8=>?_
   .obtain⟨x6,g7,j8⟩:=bsM j8;refine sXM (anM @zaf (anM (ixM g4) (zas (n:=3) (e:=zaa) rfl g7))) ?_;exact zcf j8 hT8
   exact zcf j8 hT8
  rintro v35 rfl;refine wTM hT8 ?_;refine cBM j4 (λ_ j4=>?_) λ_ j4=>?_
  .exact zct hT7 (w64 (v5+1)) j4
  obtain rfl:=qaf j4;exact rHM h
 rintro⟨⟩ rfl;dsimp only at h;refine wTM hT4 ?_;exact rHM h
def zc1(p0:S_api_Net)(p1:(List Int)):Option Int:=
(zcx p0).bind λr1=>
bif r1 then(
(zbN p0 p1).bind λr4=>
bif r4 then(
some 0)
else(
some 2))
else(
some 50)
theorem zmN{p1:(List Int)}{r:Int}(h:zc1 p0 p1=some r):Lx.Fn mC 23 [(.agg [(dI p0.grain),(fzE false zaa p0.nodes)]),(fzE false (eI .i64) p1)] (dI r):=by
 refine gnO ?_;unfold zc1 at h;refine zad ?_;obtain⟨r1,g2,h⟩:=bsM h;refine sSM ?_;refine fCM (znM g2) ?_;refine cBM h (λ_ h=>?_) λ_ h=>?_
 .exact rHM h
 obtain⟨r4,g5,h⟩:=bsM h;refine sSM ?_;refine fCM (zjs g5) ?_;refine cBM h (λ_ h=>?_) λ_ h=>?_
 .exact rHM h
 exact rHM h
def zeN(N:Nat)(p0:S_haruspexref05_Draft)(p1:S_haruspexref05_Bend):Option A2_S_api_Net:=
(zby N p0).bind λr1=>
(znQ p1 r1).bind λr3=>
some (A2_S_api_Net.mk r1 r3)
theorem zok{p0:S_haruspexref05_Draft}{p1:S_haruspexref05_Bend}{r:A2_S_api_Net}(h:zeN N p0 p1=some r):Lx.Fn mC 11 [(.agg [(dU8 p0.grain),(fzE false zao p0.nodes),(fzE false (eI .u8) p0.order)]),(.agg [(dU8 p1.what),(dU8 p1.at_),(dU8 p1.row),(dI p1.n)])] (.agg [(dI r.a0.grain),(fzE true zaa r.a0.nodes),(dI r.a1.grain),(fzE true zaa r.a1.nodes)]):=by
 refine gnO ?_;unfold zeN at h;refine zad ?_;obtain⟨r1,g2,h⟩:=bsM h;refine sSM ?_;refine fCM (zfj g2) ?_;obtain⟨r3,g4,h⟩:=bsM h;refine sSM ?_;refine fCM (zAd g4) ?_;exact rHM h
def zck(p0:S_haruspexlaw09_Ask)(p1:Int):Option Int:=
(zrz (IntKind.u64.wrap p0.v) (IntKind.u64.wrap (zfr p1 1))).bind λq1=>
some (w64 q1)
theorem zi5{p0:S_haruspexlaw09_Ask}{p1:Int}{r:Int}(h:zck p0 p1=some r):Lx.Fn mC 26 [(.agg [(dU8 p0.known.which),(dU8 p0.known.v.a0),(dU8 p0.known.v.a1),(dU8 p0.known.v.a2),(dU8 p0.known.v.a3),(dU8 p0.known.v.a4),(dU8 p0.known.v.a5),(dU8 p0.known.v.a6),(dU8 p0.known.v.a7),(dI p0.v),(dU8 p0.l.a0),(dU8 p0.l.a1),(dU8 p0.l.a2),(dU8 p0.l.a3),(dU8 p0.l.a4),(dU8 p0.l.a5),(dU8 p0.l.a6),(dU8 p0.l.a7),(fzE false (eI .i64) p0.e),(fzE false (eI .i64) p0.order)]),(dI p1)] (dI r):=by
 refine gnO ?_;unfold zck at h;refine zad ?_;obtain⟨q1,g2,h⟩:=bsM h;refine sXM (anM (zhL g2) (ziW g2)) ?_;exact rHM h
def zcb(p0:Int)(p1:Int)(p2:A8_Intu8):Nat->(List Int)->Int->Option (List Int)
 | 0,_,_=>none
 | n+1,v7,v8=>(
bif (decide (v8<p0))then(
((bif (v8 == p1)then(
some v7)
else(
(zaz [p2.a0,p2.a1,p2.a2,p2.a3,p2.a4,p2.a5,p2.a6,p2.a7] (v8.tmod 8)).bind λx3=>
(zrz (w64 x3) (w64 ((v7.length:Int)+1))).bind λq5=>
(zdS v7 0 q5).bind λy7=>
(zfW 8 y7).bind λy9=>
(zd1 8 y7 [v8]).bind λy11=>
(zdS v7 q5 v7.length).bind λy13=>
(zd1 8 y11 y13).bind λy15=>
some y15):Option (List Int))).bind λv7'=>
zcb p0 p1 p2 n v7' (w64 (v8+1)))
else(
some v7))
def zc9(p0:Int)(p1:Int)(p2:A8_Intu8):Option (List Int):=
((zcb p0 p1 p2 (p0 - 0+2:Int).toNat [] 0:Option (List Int))).bind λv7=>
some v7
theorem zlP{p0:Int}{p1:Int}{p2:A8_Intu8}(h:zc9 p0 p1 p2=some r):Lx.Fn mC 27 [(dI p0),(dI p1),(.agg [(dU8 p2.a0),(dU8 p2.a1),(dU8 p2.a2),(dU8 p2.a3),(dU8 p2.a4),(dU8 p2.a5),(dU8 p2.a6),(dU8 p2.a7)])] (fzE true (eI .i64) r):=by
 refine gnO ?_;unfold zc9 at h;refine wSM ?_;obtain⟨o4,j4,h⟩:=bsM h;obtain⟨T4,hT4⟩:=mkT λa:(List Int)=>⟨42,[(7,(fzE true (eI .i64) a))],[]⟩
 refine EvL.jn T4 (λa=>a=o4) ?_ ?_
 .refine wSM ?_;obtain⟨T7,hT7⟩:=mkT λa:((List Int)×Int)=>⟨42,[(0,(dI p0)),(1,(dI p1)),(5,(.ptr 0 0)),(7,(fzE true (eI .i64) a.1)),(8,(dI a.2))],[.cells [(dU8 p2.a0),(dU8 p2.a1),(dU8 p2.a2),(dU8 p2.a3),(dU8 p2.a4),(dU8 p2.a5),(dU8 p2.a6),(dU8 p2.a7)]]⟩
  refine EvL.rounds (α:=((List Int)×Int)) T7 (λn a=>zcb p0 p1 p2 n a.1 a.2=some o4) (p0 - 0+2:Int).toNat ([],0) (by rw[hT7]; exact zbH.m0 [.k] rfl (msq (msq (msq (mf rfl (zqE (eI .i64)) (msq trivial))))) ⟨MB.cs ⟨qdy,qdy,qdy,qdy,qdy,qdy,qdy,qdy,qdy⟩,qdy⟩) j4 (λ_ h=>nomatch (show(none:Option (List Int))=some o4 from h)) ?_;rintro n ⟨v7,v8⟩ j4;simp only[zcb]at j4;refine wTM hT7 ?_;refine cBM j4 (λ_ j4=>?_) λ_ j4=>?_
  .exact zcf j4 hT4
  obtain⟨o8,j8,j4⟩:=bsM j4;obtain⟨T8,hT8⟩:=mkT λa:(List Int)=>⟨42,[(0,(dI p0)),(1,(dI p1)),(5,(.ptr 0 0)),(7,(fzE true (eI .i64) a)),(8,(dI v8))],[.cells [(dU8 p2.a0),(dU8 p2.a1),(dU8 p2.a2),(dU8 p2.a3),(dU8 p2.a4),(dU8 p2.a5),(dU8 p2.a6),(dU8 p2.a7)]]⟩
  refine EvL.jn T8 (λa=>a=o8) ?_ ?_
  .refine zad ?_;try simp only[rnA,Nat.reduceEqDiff,Nat.reduceLT,reduceCtorEq]
   cases c2:(v8 == p1)
   .rw[c2,qdA]at j8;obtain⟨x3,g4,j8⟩:=bsM j8;obtain⟨q5,g6,j8⟩:=bsM j8;obtain⟨y7,g8,j8⟩:=bsM j8;obtain⟨y9,g10,j8⟩:=bsM j8;obtain⟨y11,g12,j8⟩:=bsM j8;obtain⟨y13,g14,j8⟩:=bsM j8;obtain⟨y15,g16,j8⟩:=bsM j8;refine zEF (zbp g4) (show(v8.tmod 8)<((8:Nat):Int)from zfH g4) @qde (show [(dU8 p2.a0),(dU8 p2.a1),(dU8 p2.a2),(dU8 p2.a3),(dU8 p2.a4),(dU8 p2.a5),(dU8 p2.a6),(dU8 p2.a7)][(v8.tmod 8).toNat]? = some (.lit (.int .u8 x3))from zug g4 (λx=>(.lit (.int .u8 x):D)) rfl) (zhL g6) (anM (ziW g6) (anM (zpB (n:=1) (e:=(eI .i64)) rfl g8) (anM (zoT (n:=1) (e:=(eI .i64)) rfl) (anM (znV g10) (anM (zcK g12) (anM (plM g12) (anM (piM g12) (anM (zx0 (n:=1) (e:=(eI .i64)) rfl g14) (anM (zcK g16) (anM (show y11.length+y13.length=y15.length from zgT g16) (show y11.map ((eI .i64).c true)++ y13.map ((eI .i64).c true)=y15.map ((eI .i64).c true)from zfR g16 ((eI .i64).c true)))))))))))) ?_;replace j8:=qaf j8; subst j8;exact lfj hT8 rfl (zbH.m0 [.k,.f] rfl (msq (msq (msq (mf rfl (ze1 (e:=(eI .i64)) (t:=true) rfl rfl (.inr rfl) rfl rfl (λk h=>nomatch h) (λh=>by cases h<;>rfl)) (msq trivial))))) ⟨MB.cs ⟨qdy,qdy,qdy,qdy,qdy,qdy,qdy,qdy,qdy⟩,qdy⟩)
   rw[c2,qdz]at j8;refine sSM ?_;exact zcf j8 hT8
  rintro v7' rfl;refine wTM hT8 ?_;exact zct hT7 (v7',(w64 (v8+1))) j4
 rintro v7 rfl;refine wTM hT4 ?_;exact rHM h
def zcv(p0:S_haruspexlaw09_Ask)(p1:S_api_Net):Option A4_S_haruspexlaw09_Ask:=
(zci p0.known p1).bind λr1=>
(zck p0 (p1.nodes.length:Int)).bind λr3=>
(zdS p0.e 0 (zft (p0.e.length:Int) 10)).bind λy5=>
(zdS p0.order 0 (zft (p0.order.length:Int) 10)).bind λy7=>
(zc9 (p1.nodes.length:Int) r3 p0.l).bind λr9=>
some (A4_S_haruspexlaw09_Ask.mk (S_haruspexlaw09_Ask.mk (S_haruspexref05_Known.mk 0 (A8_Intu8.mk 0 0 0 0 0 0 0 0)) r3 (A8_Intu8.mk 0 0 0 0 0 0 0 0) r1 r9) (S_haruspexlaw09_Ask.mk (S_haruspexref05_Known.mk 0 (A8_Intu8.mk 0 0 0 0 0 0 0 0)) r3 (A8_Intu8.mk 0 0 0 0 0 0 0 0) y5 r9) (S_haruspexlaw09_Ask.mk (S_haruspexref05_Known.mk 0 (A8_Intu8.mk 0 0 0 0 0 0 0 0)) p0.v (A8_Intu8.mk 0 0 0 0 0 0 0 0) r1 r9) (S_haruspexlaw09_Ask.mk (S_haruspexref05_Known.mk 0 (A8_Intu8.mk 0 0 0 0 0 0 0 0)) r3 (A8_Intu8.mk 0 0 0 0 0 0 0 0) r1 y7))
theorem zig{p0:S_haruspexlaw09_Ask}{p1:S_api_Net}{r:A4_S_haruspexlaw09_Ask}(h:zcv p0 p1=some r):Lx.FnA mC 12 [(.agg [(dU8 p0.known.which),(dU8 p0.known.v.a0),(dU8 p0.known.v.a1),(dU8 p0.known.v.a2),(dU8 p0.known.v.a3),(dU8 p0.known.v.a4),(dU8 p0.known.v.a5),(dU8 p0.known.v.a6),(dU8 p0.known.v.a7),(dI p0.v),(dU8 p0.l.a0),(dU8 p0.l.a1),(dU8 p0.l.a2),(dU8 p0.l.a3),(dU8 p0.l.a4),(dU8 p0.l.a5),(dU8 p0.l.a6),(dU8 p0.l.a7),(fzE false (eI .i64) p0.e),(fzE false (eI .i64) p0.order)]),(.agg [(dI p1.grain),(fzE false zaa p1.nodes)])] (.agg [(dU8 r.a0.known.which),(dU8 r.a0.known.v.a0),(dU8 r.a0.known.v.a1),(dU8 r.a0.known.v.a2),(dU8 r.a0.known.v.a3),(dU8 r.a0.known.v.a4),(dU8 r.a0.known.v.a5),(dU8 r.a0.known.v.a6),(dU8 r.a0.known.v.a7),(dI r.a0.v),(dU8 r.a0.l.a0),(dU8 r.a0.l.a1),(dU8 r.a0.l.a2),(dU8 r.a0.l.a3),(dU8 r.a0.l.a4),(dU8 r.a0.l.a5),(dU8 r.a0.l.a6),(dU8 r.a0.l.a7),(fzE false (eI .i64) r.a0.e),(fzE false (eI .i64) r.a0.order),(dU8 r.a1.known.which),(dU8 r.a1.known.v.a0),(dU8 r.a1.known.v.a1),(dU8 r.a1.known.v.a2),(dU8 r.a1.known.v.a3),(dU8 r.a1.known.v.a4),(dU8 r.a1.known.v.a5),(dU8 r.a1.known.v.a6),(dU8 r.a1.known.v.a7),(dI r.a1.v),(dU8 r.a1.l.a0),(dU8 r.a1.l.a1),(dU8 r.a1.l.a2),(dU8 r.a1.l.a3),(dU8 r.a1.l.a4),(dU8 r.a1.l.a5),(dU8 r.a1.l.a6),(dU8 r.a1.l.a7),(fzE false (eI .i64) r.a1.e),(fzE false (eI .i64) r.a1.order),(dU8 r.a2.known.which),(dU8 r.a2.known.v.a0),(dU8 r.a2.known.v.a1),(dU8 r.a2.known.v.a2),(dU8 r.a2.known.v.a3),(dU8 r.a2.known.v.a4),(dU8 r.a2.known.v.a5),(dU8 r.a2.known.v.a6),(dU8 r.a2.known.v.a7),(dI r.a2.v),(dU8 r.a2.l.a0),(dU8 r.a2.l.a1),(dU8 r.a2.l.a2),(dU8 r.a2.l.a3),(dU8 r.a2.l.a4),(dU8 r.a2.l.a5),(dU8 r.a2.l.a6),(dU8 r.a2.l.a7),(fzE false (eI .i64) r.a2.e),(fzE false (eI .i64) r.a2.order),(dU8 r.a3.known.which),(dU8 r.a3.known.v.a0),(dU8 r.a3.known.v.a1),(dU8 r.a3.known.v.a2),(dU8 r.a3.known.v.a3),(dU8 r.a3.known.v.a4),(dU8 r.a3.known.v.a5),(dU8 r.a3.known.v.a6),(dU8 r.a3.known.v.a7),(dI r.a3.v),(dU8 r.a3.l.a0),(dU8 r.a3.l.a1),(dU8 r.a3.l.a2),(dU8 r.a3.l.a3),(dU8 r.a3.l.a4),(dU8 r.a3.l.a5),(dU8 r.a3.l.a6),(dU8 r.a3.l.a7),(fzE false (eI .i64) r.a3.e),(fzE false (eI .i64) r.a3.order)]):=by
 refine zCP ?_;unfold zcv at h;refine zad ?_;obtain⟨r1,g2,h⟩:=bsM h;refine sSM ?_;refine fCM (zjx g2) ?_;obtain⟨r3,g4,h⟩:=bsM h;refine sSM ?_;refine fCM (zi5 g4) ?_;obtain⟨y5,g6,h⟩:=bsM h;obtain⟨y7,g8,h⟩:=bsM h;obtain⟨r9,g10,h⟩:=bsM h;refine sXM (anM (zpB (n:=1) (e:=(eI .i64)) rfl g6) (zpB (n:=1) (e:=(eI .i64)) rfl g8)) ?_;refine fCM (zlP g10) ?_;exact rHM h
end Go.Dc
