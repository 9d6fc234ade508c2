/-
 What r02_Draft_Cards computes. Conditions: none.
-/
import Derived.Test.YtcfdkhbflhdjeaaNcJ3
set_option linter.unusedSimpArgs false
set_option linter.unusedVariables false
set_option maxRecDepth 100000
set_option maxHeartbeats 4000000
namespace Go.Dc
open Go Go.Mx Go.Lx Go.Proofs
def za4(p0:S_haruspexref02_Draft):Nat→Int→(List Int)→Option (List Int)
 | 0,_,_=>none
 | n+1,v4,l1=>(
((bif (decide (v4<(p0.c.length:Int)))then(
some (decide (v4<5)))
else(
some false):Option Bool)).bind fun v13=>
bif v13 then(
(zaO p0.c v4).bind fun x3=>
(zd5 8 l1 [(w64 (1+(w64 (x3.tmod 4))))]).bind fun y5=>
za4 p0 n (w64 (v4+1)) y5)
else(
some l1))
def zbA(N:Nat)(p0:S_haruspexref02_Draft):Option (List Int):=
((za4 p0 N 0 []:Option (List Int))).bind fun l1=>
some l1
theorem zfV{N:Nat}{p0:S_haruspexref02_Draft}{r:(List Int)}(h:zbA N p0=some r):Lx.Fn mC 88 [(.agg [(fzE false (eI .u8) p0.c),(.lit (.int .u16 p0.which)),(fzE false (eI .u8) p0.order)])] (fzE true (eI .i64) r):=by
 refine fnO (by conv=>lhs; cbv) ?_;unfold zbA at h;refine zab ?_;try simp only[rnA,Nat.reduceLT]
 obtain⟨o5,j5,h⟩:=bind_some h;obtain⟨T5,hT5⟩:=mkT fun a:(List Int)=>⟨28,[(3,(.sl 1 0 1 a.length none a.length))],[.gone,.grow 1 (a.map ((eI .i64).c true))]⟩
 refine EvL.jn T5 (fun a=>a=o5) ?_ ?_
 ·refine zab ?_;simp only[rnA];obtain⟨T9,hT9⟩:=mkT fun a:(Int×(List Int))=>⟨28,[(1,(.ptr 0 0)),(3,(.sl 1 0 1 a.2.length none a.2.length)),(4,(dI a.1))],[.cells [(fzE false (eI .u8) p0.c),(.lit (.int .u16 p0.which)),(fzE false (eI .u8) p0.order)],.grow 1 (a.2.map ((eI .i64).c true))]⟩
  refine EvL.zd1 (zbu.ghost (n:=1) (k:=3) (by decide) rfl) ?_;refine EvL.rounds (α:=(Int×(List Int))) T9 (fun n a=>za4 p0 n a.1 a.2=some o5) N (0,[]) (by rw[hT9]; exact wm0 [.k,.k] ⟨MB.cs ⟨qcG,qcG,qcG,qcG⟩,⟨MB.gs (eI .i64) true [],qcG⟩⟩) j5 (fun _ h=>nomatch (show(none:Option (List Int))=some o5 from h)) ?_;rintro n ⟨v4,l1⟩ j5;simp only[za4]at j5;rw[congrFun hT9 (v4,l1)];refine zab ?_;try simp only[rnA]
  obtain⟨o10,j10,j5⟩:=bind_some j5;obtain⟨T10,hT10⟩:=mkT fun a:Bool=>⟨28,[(1,(.ptr 0 0)),(3,(.sl 1 0 1 l1.length none l1.length)),(4,(dI v4)),(13,(dB a))],[.cells [(fzE false (eI .u8) p0.c),(.lit (.int .u16 p0.which)),(fzE false (eI .u8) p0.order)],.grow 1 (l1.map ((eI .i64).c true))]⟩
  refine EvL.jn T10 (fun a=>a=o10) ?_ ?_
  ·refine zab ?_;try simp only[rnA,Nat.reduceEqDiff,Nat.reduceLT,zaj]
   cases c1:(decide (v4<(p0.c.length:Int)))
   ·rw[c1,cond_false]at j10;try simp only[rnA,Nat.reduceEqDiff,Nat.reduceLT]
    replace j10:=qab j10; subst j10;exact lfj hT10 rfl (wm0 [.k,.k] ⟨MB.cs ⟨qcG,qcG,qcG,qcG⟩,⟨MB.gs (eI .i64) true l1,qcG⟩⟩)
   rw[c1,cond_true]at j10;try simp only[rnA,Nat.reduceEqDiff,Nat.reduceLT]
   replace j10:=qab j10; subst j10;exact lfj hT10 rfl (wm0 [.k,.k] ⟨MB.cs ⟨qcG,qcG,qcG,qcG⟩,⟨MB.gs (eI .i64) true l1,qcG⟩⟩)
  rintro v13 rfl;rw[congrFun hT10 v13];refine zab ?_;try simp only[rnA,Nat.reduceEqDiff]
  cases c2:v13
  ·rw[c2,cond_false]at j5;try simp only[rnA]
   replace j5:=qab j5; subst j5;exact lfj hT5 rfl (wm0 [.d,.k] ⟨rfl,⟨MB.gs (eI .i64) true l1,qcG⟩⟩)
  rw[c2,cond_true]at j5;obtain⟨x3,g4,j5⟩:=bind_some j5;obtain⟨y5,g6,j5⟩:=bind_some j5;try simp only[rnA,Nat.reduceEqDiff,Nat.reduceLT,Nat.reduceAdd,Nat.reduceLeDiff,Int.reduceBEq,zai (n:=1) (e:=(eI .u8)) rfl g4,zcY g6,(show l1.length+1=y5.length from zb5 g6),(show l1.map ((eI .i64).c true)++ [[(dI (w64 (1+(w64 (x3.tmod 4)))))]]=y5.map ((eI .i64).c true)from zcF g6 ((eI .i64).c true))]
  exact⟨((w64 (v4+1)),y5),j5,by rw[hT9]; exact wm0 [.k,.k] ⟨MB.cs ⟨qcG,qcG,qcG,qcG⟩,⟨MB.gs (eI .i64) true y5,qcG⟩⟩⟩
 rintro l1 rfl;rw[congrFun hT5 l1];refine zab ?_;try simp only[rnA,Nat.reduceEqDiff,Nat.reduceLT]
 replace h:=qab h; subst h;exact za6.ret rfl (zal (e:=(eI .i64)) (t:=true) rfl (.inr rfl) rfl rfl (fun k h=>nomatch h) (fun _=>rfl))
def zaz(N:Nat)(p0:S_haruspexref02_Draft):Nat→Int→(List Int)→Option (List Int)
 | 0,_,_=>none
 | n+1,v4,l1=>(
(zbA N p0).bind fun r1=>
bif (decide (v4<(r1.length:Int)))then(
((bif (decide (v4<(p0.order.length:Int)))then(
(zaO p0.order v4).bind fun x5=>
(zsh (w64 x5) (w64 (v4+1))).bind fun q7=>
some q7)
else(
some 0):Option Int)).bind fun v5=>
(zdb l1 0 v5).bind fun y9=>
(zev 8 y9).bind fun y11=>
(zd5 8 y9 [v4]).bind fun y13=>
(zdb l1 v5 l1.length).bind fun y15=>
(zd5 8 y13 y15).bind fun y17=>
zaz N p0 n (w64 (v4+1)) y17)
else(
some l1))
def zaX(N:Nat)(p0:S_haruspexref02_Draft):Option (List Int):=
((zaz N p0 N 0 []:Option (List Int))).bind fun l1=>
some l1
theorem zej{N:Nat}{p0:S_haruspexref02_Draft}{r:(List Int)}(h:zaX N p0=some r):Lx.Fn mC 72 [(.agg [(fzE false (eI .u8) p0.c),(.lit (.int .u16 p0.which)),(fzE false (eI .u8) p0.order)])] (fzE true (eI .i64) r):=by
 refine fnO (by conv=>lhs; cbv) ?_;unfold zaX at h;refine zab ?_;try simp only[rnA,Nat.reduceLT]
 obtain⟨o5,j5,h⟩:=bind_some h;obtain⟨T5,hT5⟩:=mkT fun a:(List Int)=>⟨42,[(3,(.sl 1 0 1 a.length none a.length))],[.gone,.grow 1 (a.map ((eI .i64).c true))]⟩
 refine EvL.jn T5 (fun a=>a=o5) ?_ ?_
 ·refine zab ?_;simp only[rnA];obtain⟨T9,hT9⟩:=mkT fun a:(Int×(List Int))=>⟨42,[(1,(.ptr 0 0)),(3,(.sl 1 0 1 a.2.length none a.2.length)),(4,(dI a.1))],[.cells [(fzE false (eI .u8) p0.c),(.lit (.int .u16 p0.which)),(fzE false (eI .u8) p0.order)],.grow 1 (a.2.map ((eI .i64).c true))]⟩
  refine EvL.zd1 (zbu.ghost (n:=1) (k:=3) (by decide) rfl) ?_;refine EvL.rounds (α:=(Int×(List Int))) T9 (fun n a=>zaz N p0 n a.1 a.2=some o5) N (0,[]) (by rw[hT9]; exact wm0 [.k,.k] ⟨MB.cs ⟨qcG,qcG,qcG,qcG⟩,⟨MB.gs (eI .i64) true [],qcG⟩⟩) j5 (fun _ h=>nomatch (show(none:Option (List Int))=some o5 from h)) ?_;rintro n ⟨v4,l1⟩ j5;simp only[zaz]at j5;rw[congrFun hT9 (v4,l1)];refine zab ?_;obtain⟨r1,g2,j5⟩:=bind_some j5;try simp only[rnA,Nat.reduceEqDiff,Nat.reduceLT,Nat.reduceAdd,Nat.reduceLeDiff]
  refine EvL.fn (zfV g2) rfl rfl (.cons (.zcf (.cons (zan _ _ (fun h=>nomatch h)) (.cons (.lit _) (.cons (zan _ _ (fun h=>nomatch h)) .nil)))) .nil) ?_;try simp only[rnA,Nat.reduceEqDiff,Nat.reduceLT,zaj]
  cases c3:(decide (v4<(r1.length:Int)))
  ·rw[c3,cond_false]at j5;try simp only[rnA]
   replace j5:=qab j5; subst j5;exact lfj hT5 rfl (wm0 [.d,.k] ⟨rfl,⟨MB.gs (eI .i64) true l1,qcG⟩⟩)
  rw[c3,cond_true]at j5;try simp only[rnA,Nat.reduceEqDiff,Nat.reduceLT,zaj]
  obtain⟨o10,j10,j5⟩:=bind_some j5;obtain⟨T10,hT10⟩:=mkT fun a:Int=>⟨42,[(1,(.ptr 0 0)),(3,(.sl 1 0 1 l1.length none l1.length)),(4,(dI v4)),(5,(dI a))],[.cells [(fzE false (eI .u8) p0.c),(.lit (.int .u16 p0.which)),(fzE false (eI .u8) p0.order)],.grow 1 (l1.map ((eI .i64).c true))]⟩
  refine EvL.jn T10 (fun a=>a=o10) ?_ ?_
  ·refine zab ?_;try simp only[rnA,Nat.reduceEqDiff]
   cases c4:(decide (v4<(p0.order.length:Int)))
   ·rw[c4,cond_false]at j10;try simp only[rnA]
    replace j10:=qab j10; subst j10;exact lfj hT10 rfl (wm0 [.k,.k] ⟨MB.cs ⟨qcG,qcG,qcG,qcG⟩,⟨MB.gs (eI .i64) true l1,qcG⟩⟩)
   rw[c4,cond_true]at j10;obtain⟨x5,g6,j10⟩:=bind_some j10;obtain⟨q7,g8,j10⟩:=bind_some j10;try simp only[rnA,Nat.reduceEqDiff,Nat.reduceLT,zai (n:=1) (e:=(eI .u8)) rfl g6,zmb g8,zpA g8]
   replace j10:=qab j10; subst j10;exact lfj hT10 rfl (wm0 [.k,.k] ⟨MB.cs ⟨qcG,qcG,qcG,qcG⟩,⟨MB.gs (eI .i64) true l1,qcG⟩⟩)
  rintro v5 rfl;rw[congrFun hT10 v5];refine EvL.zd1 (S':=⟨42,[(1,(.ptr 0 0)),(3,(fzE true (eI .i64) l1)),(4,(dI v4)),(5,(dI v5))],[.cells [(fzE false (eI .u8) p0.c),(.lit (.int .u16 p0.which)),(fzE false (eI .u8) p0.order)]]⟩) (zbu.m0 [.k,.f] rfl (msq (mf rfl (zeh (e:=(eI .i64)) (t:=true) rfl rfl (.inr rfl) rfl rfl (fun k h=>nomatch h) (fun h=>by cases h<;>rfl)) (msq (msq trivial)))) ⟨MB.cs ⟨qcG,qcG,qcG,qcG⟩,qcG⟩) (zab ?_);obtain⟨y9,g10,j5⟩:=bind_some j5;obtain⟨y11,g12,j5⟩:=bind_some j5;obtain⟨y13,g14,j5⟩:=bind_some j5;obtain⟨y15,g16,j5⟩:=bind_some j5;obtain⟨y17,g18,j5⟩:=bind_some j5;try simp only[rnA,Nat.reduceEqDiff,Nat.reduceLT,Nat.reduceAdd,Nat.reduceLeDiff,zj7 (n:=1) (e:=(eI .i64)) rfl g10,zdH (n:=1) (e:=(eI .i64)) rfl,zkA g12,zcY g14,(show y9.length+1=y13.length from zb5 g14),(show y9.map ((eI .i64).c true)++ [[(dI v4)]]=y13.map ((eI .i64).c true)from zcF g14 ((eI .i64).c true)),zuV (n:=1) (e:=(eI .i64)) rfl g16,zcY g18,(show y13.length+y15.length=y17.length from zb5 g18),(show y13.map ((eI .i64).c true)++ y15.map ((eI .i64).c true)=y17.map ((eI .i64).c true)from zcF g18 ((eI .i64).c true))]
  exact⟨((w64 (v4+1)),y17),j5,by rw[hT9]; exact wm0 [.k,.k] ⟨MB.cs ⟨qcG,qcG,qcG,qcG⟩,⟨MB.gs (eI .i64) true y17,qcG⟩⟩⟩
 rintro l1 rfl;rw[congrFun hT5 l1];refine zab ?_;try simp only[rnA,Nat.reduceEqDiff,Nat.reduceLT]
 replace h:=qab h; subst h;exact za6.ret rfl (zal (e:=(eI .i64)) (t:=true) rfl (.inr rfl) rfl rfl (fun k h=>nomatch h) (fun _=>rfl))
def zeL(N:Nat)(p0:S_api_Net)(p1:Int):Option (Int×Int):=
(zaN p0).bind fun r1=>
bif (r1.2 == 0)then(
(zkr .u64 p1 (r1.1.net.nodes.length:Int)).bind fun q4=>
bif (q4 == 0)then(
(zf4 N r1.1.sets p1).bind fun r7=>
some (r7,0))
else(
some (0,2)))
else(
some (0,r1.2))
def zdV(r1:(S_net_network×Int))(x10:Int)(v34:Int):Nat→Int→(List Int)→Option (List Int)
 | 0,_,_=>none
 | n+1,v41,l2'=>(
bif (decide (v41<(((Int.toNat (r1.1.sets.length:Int)):Nat):Int)))then(
(zaO l2' v41).bind fun x13=>
(zkr .u64 x10 v41).bind fun q15=>
(zmV .u64 (znD .u64 q15 1) v34).bind fun q17=>
(zgG l2' v41 (orI .u64 x13 q17)).bind fun y19=>
zdV r1 x10 v34 n (w64 (v41+1)) y19)
else(
some l2'))
def zdM(r1:(S_net_network×Int)):Nat→Int→(List Int)→Option (List Int)
 | 0,_,_=>none
 | n+1,v34,l2=>(
bif (decide (v34<(r1.1.sets.length:Int)))then(
(zaO r1.1.sets v34).bind fun x10=>
((zdV r1 x10 v34 ((((Int.toNat (r1.1.sets.length:Int)):Nat):Int) - 0+2:Int).toNat 0 l2:Option (List Int))).bind fun l2'=>
zdM r1 n (w64 (v34+1)) l2')
else(
some l2))
def zd9(N:Nat)(p0:S_api_Net)(p1:Int):Option (Int×Int):=
(zaN p0).bind fun r1=>
bif (r1.2 == 0)then(
(zkr .u64 p1 (r1.1.net.nodes.length:Int)).bind fun q4=>
bif (q4 == 0)then(
(zgl 8 (r1.1.sets.length:Int) 0).bind fun y7=>
((zdM r1 ((r1.1.sets.length:Int) - 0+2:Int).toNat 0 y7:Option (List Int))).bind fun l2=>
(zf4 N l2 p1).bind fun r21=>
some (r21,0))
else(
some (0,2)))
else(
some (0,r1.2))
def zdj(p0:S_net_network)(x4:Int)(q6:Int):Nat→Int→(List Int)→Option (List Int)
 | 0,_,_=>none
 | n+1,v26,l1'=>(
bif (decide (v26<(((Int.toNat (p0.sets.length:Int)):Nat):Int)))then(
(zkr .u64 (orI .u64 x4 q6) v26).bind fun q9=>
((bif ((znD .u64 q9 1)== 1)then(
(zaO l1' v26).bind fun x12=>
(zmV .u64 1 v26).bind fun q14=>
(zgG l1' v26 (orI .u64 x12 (ztW .u64 (orI .u64 x4 q6) q14))).bind fun y16=>
some y16)
else(
some l1'):Option (List Int))).bind fun l1''=>
zdj p0 x4 q6 n (w64 (v26+1)) l1'')
else(
some l1'))
def zdi(p0:S_net_network):Nat→Int→(List Int)→Option (List Int)
 | 0,_,_=>none
 | n+1,v15,l1=>(
bif (decide (v15<(p0.sets.length:Int)))then(
(zaO p0.sets v15).bind fun x4=>
(zmV .u64 1 v15).bind fun q6=>
((zdj p0 x4 q6 ((((Int.toNat (p0.sets.length:Int)):Nat):Int) - 0+2:Int).toNat 0 l1:Option (List Int))).bind fun l1'=>
zdi p0 n (w64 (v15+1)) l1')
else(
some l1))
def zdt(p0:S_net_network):Option (List Int):=
(zgl 8 (p0.sets.length:Int) 0).bind fun y1=>
((zdi p0 ((p0.sets.length:Int) - 0+2:Int).toNat 0 y1:Option (List Int))).bind fun l1=>
some l1
def zhp(p0:S_api_Net):Option ((List Int)×Int):=
(zaN p0).bind fun r1=>
bif (r1.2 == 0)then(
(zdt r1.1).bind fun r4=>
some (r4,0))
else(
some ([],r1.2))
def zfJ(p0:S_api_Net)(p1:Int):Option (Int×Int):=
(zaN p0).bind fun r1=>
bif (r1.2 == 0)then(
((bif (decide (p1<0))then(
some true)
else(
some (decide ((r1.1.net.nodes.length:Int)≤p1))):Option Bool)).bind fun v25=>
bif v25 then(
some (0,2))
else(
(zdt r1.1).bind fun r6=>
(zaO r6 p1).bind fun x8=>
some (x8,0)))
else(
some (0,r1.2))
def zdo(y8:(List (List Int))):Nat→Int→(List (List Int))→Option (List (List Int))
 | 0,_,_=>none
 | n+1,v42,l6=>(
bif (decide (v42<(y8.length:Int)))then(
(zaO y8 v42).bind fun x11=>
(zdb x11 0 (zco (x11.length:Int) 6)).bind fun y13=>
(zd5 24 l6 [y13]).bind fun y15=>
zdo y8 n (w64 (v42+1)) y15)
else(
some l6))
def zdm(y1:(List S_api_Node)):Nat→Int→(List S_api_Node)→Option (List S_api_Node)
 | 0,_,_=>none
 | n+1,v20,l3=>(
bif (decide (v20<(y1.length:Int)))then(
(zaO y1 v20).bind fun x4=>
(zdb x4.parents 0 (zco (x4.parents.length:Int) 8)).bind fun y6=>
(zdb x4.rows 0 (zco (x4.rows.length:Int) 20)).bind fun y8=>
((zdo y8 ((y8.length:Int) - 0+2:Int).toNat 0 []:Option (List (List Int)))).bind fun l6=>
(zd5 56 l3 [(S_api_Node.mk x4.card y6 l6)]).bind fun y17=>
zdm y1 n (w64 (v20+1)) y17)
else(
some l3))
def ze4(p0:S_api_Net):Option S_api_Net:=
(zdb p0.nodes 0 (zco (p0.nodes.length:Int) 9)).bind fun y1=>
((zdm y1 ((y1.length:Int) - 0+2:Int).toNat 0 []:Option (List S_api_Node))).bind fun l3=>
some (S_api_Net.mk p0.grain l3)
theorem znI{p0:S_api_Net}{r:S_api_Net}(h:ze4 p0=some r):Lx.FnA mC 41 [(.agg [(dI p0.grain),(fzE false zaa p0.nodes)])] (.agg [(dI r.grain),(fzE false zaa r.nodes)]):=by
 refine zwK (by conv=>lhs; cbv) ?_;unfold ze4 at h;refine zab ?_;obtain⟨y1,g2,h⟩:=bind_some h;try simp only[rnA,Nat.reduceEqDiff,Nat.reduceLT,Nat.reduceAdd,Nat.reduceLeDiff,reduceCtorEq,zaj,zj7 (n:=3) (e:=zaa) rfl g2]
 obtain⟨o9,j9,h⟩:=bind_some h;obtain⟨T9,hT9⟩:=mkT fun a:(List S_api_Node)=>⟨65,[(2,(.ptr 1 0)),(3,(.ptr 2 0))],[.gone,.cells [(dI 0),zbW],.cells [(dI p0.grain),(.sl 3 0 3 a.length none a.length)],.grow 3 (a.map (zaa.c false))]⟩
 refine EvL.jn T9 (fun a=>a=o9) ?_ ?_
 ·refine zab ?_;simp only[rnA];obtain⟨T16,hT16⟩:=mkT fun a:(Int×(List S_api_Node))=>⟨65,[(2,(.ptr 1 0)),(3,(.ptr 2 0)),(18,(fzE false zaa y1)),(19,(dI (y1.length:Int))),(20,(dI a.1))],[.gone,.cells [(dI 0),zbW],.cells [(dI p0.grain),(.sl 3 0 3 a.2.length none a.2.length)],.grow 3 (a.2.map (zaa.c false))]⟩
  refine EvL.zd1 (zbu.zhO (n:=3) (β:=2) (o:=1) (by decide) rfl rfl) ?_;refine EvL.rounds (α:=(Int×(List S_api_Node))) T16 (fun n a=>zdm y1 n a.1 a.2=some o9) ((y1.length:Int) - 0+2:Int).toNat (0,[]) (by rw[hT16]; exact wm0 [.d,.k,.k,.k] ⟨rfl,⟨MB.cs ⟨qcG,qcG,qcG⟩,⟨MB.cs ⟨qcG,rfl,qcG⟩,⟨MB.gs zaa false [],qcG⟩⟩⟩⟩) j9 (fun _ h=>nomatch (show(none:Option (List S_api_Node))=some o9 from h)) ?_;rintro n ⟨v20,l3⟩ j9;simp only[zdm]at j9;rw[congrFun hT16 (v20,l3)];refine zab ?_;try simp only[rnA,Nat.reduceEqDiff,Nat.reduceLT]
  cases c3:(decide (v20<(y1.length:Int)))
  ·rw[c3,cond_false]at j9;try simp only[rnA]
   replace j9:=qab j9; subst j9;exact lfj hT9 rfl (wm0 [.d,.k,.k,.k] ⟨rfl,⟨MB.cs ⟨qcG,qcG,qcG⟩,⟨MB.cs ⟨qcG,rfl,qcG⟩,⟨MB.gs zaa false l3,qcG⟩⟩⟩⟩)
  rw[c3,cond_true]at j9;obtain⟨x4,g5,j9⟩:=bind_some j9;obtain⟨y6,g7,j9⟩:=bind_some j9;obtain⟨y8,g9,j9⟩:=bind_some j9;try simp only[rnA,Nat.reduceEqDiff,Nat.reduceLT,Nat.reduceAdd,Nat.reduceLeDiff,zac,zai (n:=3) (e:=zaa) rfl g5,zaj,zj7 (n:=1) (e:=(eI .i64)) rfl g7,zj7 (n:=1) (e:=(eL (eI .i64))) rfl g9]
  obtain⟨o17,j17,j9⟩:=bind_some j9;obtain⟨T17,hT17⟩:=mkT fun a:(List (List Int))=>⟨65,[(2,(.ptr 1 0)),(3,(.ptr 2 0)),(6,(.ptr 5 0)),(18,(fzE false zaa y1)),(19,(dI (y1.length:Int))),(20,(dI v20))],[.gone,.cells [(dI 0),zbW],.cells [(dI p0.grain),(.sl 3 0 3 l3.length none l3.length)],.grow 3 (l3.map (zaa.c false)),.gone,.cells [(dI x4.card),(fzE false (eI .i64) y6),(.sl 6 0 1 a.length none a.length)],.grow 1 (a.map ((eL (eI .i64)).c false))]⟩
  refine EvL.jn T17 (fun a=>a=o17) ?_ ?_
  ·refine zab ?_;simp only[rnA];obtain⟨T18,hT18⟩:=mkT fun a:(Int×(List (List Int)))=>⟨65,[(2,(.ptr 1 0)),(3,(.ptr 2 0)),(6,(.ptr 5 0)),(18,(fzE false zaa y1)),(19,(dI (y1.length:Int))),(20,(dI v20)),(40,(fzE false (eL (eI .i64)) y8)),(41,(dI (y8.length:Int))),(42,(dI a.1))],[.gone,.cells [(dI 0),zbW],.cells [(dI p0.grain),(.sl 3 0 3 l3.length none l3.length)],.grow 3 (l3.map (zaa.c false)),.gone,.cells [(dI x4.card),(fzE false (eI .i64) y6),(.sl 6 0 1 a.2.length none a.2.length)],.grow 1 (a.2.map ((eL (eI .i64)).c false))]⟩
   refine EvL.zd1 (zbu.zhO (n:=1) (β:=5) (o:=2) (by decide) rfl rfl) ?_;refine EvL.rounds (α:=(Int×(List (List Int)))) T18 (fun n a=>zdo y8 n a.1 a.2=some o17) ((y8.length:Int) - 0+2:Int).toNat (0,[]) (by rw[hT18]; exact wm0 [.d,.k,.k,.k,.d,.k,.k] ⟨rfl,⟨MB.cs ⟨qcG,qcG,qcG⟩,⟨MB.cs ⟨qcG,rfl,qcG⟩,⟨MB.gs zaa false l3,⟨rfl,⟨MB.cs ⟨qcG,qcG,rfl,qcG⟩,⟨MB.gs (eL (eI .i64)) false [],qcG⟩⟩⟩⟩⟩⟩⟩) j17 (fun _ h=>nomatch (show(none:Option (List (List Int)))=some o17 from h)) ?_;rintro n ⟨v42,l6⟩ j17;simp only[zdo]at j17;rw[congrFun hT18 (v42,l6)];refine zab ?_;try simp only[rnA,Nat.reduceEqDiff,Nat.reduceLT]
   cases c10:(decide (v42<(y8.length:Int)))
   ·rw[c10,cond_false]at j17;try simp only[rnA,Nat.reduceEqDiff,Nat.reduceLT,reduceCtorEq]
    replace j17:=qab j17; subst j17;exact lfj hT17 rfl (wm0 [.d,.k,.k,.k,.d,.k,.k] ⟨rfl,⟨MB.cs ⟨qcG,qcG,qcG⟩,⟨MB.cs ⟨qcG,rfl,qcG⟩,⟨MB.gs zaa false l3,⟨rfl,⟨MB.cs ⟨qcG,qcG,rfl,qcG⟩,⟨MB.gs (eL (eI .i64)) false l6,qcG⟩⟩⟩⟩⟩⟩⟩)
   rw[c10,cond_true]at j17;obtain⟨x11,g12,j17⟩:=bind_some j17;obtain⟨y13,g14,j17⟩:=bind_some j17;obtain⟨y15,g16,j17⟩:=bind_some j17;try simp only[rnA,Nat.reduceEqDiff,Nat.reduceLT,Nat.reduceAdd,Nat.reduceLeDiff,zai (n:=1) (e:=(eL (eI .i64))) rfl g12,zaj,zj7 (n:=1) (e:=(eI .i64)) rfl g14,zcY g16,(show l6.length+1=y15.length from zb5 g16),(show l6.map ((eL (eI .i64)).c false)++ [[(fzE false (eI .i64) y13)]]=y15.map ((eL (eI .i64)).c false)from zcF g16 ((eL (eI .i64)).c false))]
   exact⟨((w64 (v42+1)),y15),j17,by rw[hT18]; exact wm0 [.d,.k,.k,.k,.d,.k,.k] ⟨rfl,⟨MB.cs ⟨qcG,qcG,qcG⟩,⟨MB.cs ⟨qcG,rfl,qcG⟩,⟨MB.gs zaa false l3,⟨rfl,⟨MB.cs ⟨qcG,qcG,rfl,qcG⟩,⟨MB.gs (eL (eI .i64)) false y15,qcG⟩⟩⟩⟩⟩⟩⟩⟩
  rintro l6 rfl;rw[congrFun hT17 l6];refine zab ?_;obtain⟨y17,g18,j9⟩:=bind_some j9;try simp only[rnA,Nat.reduceEqDiff,Nat.reduceLT,Nat.reduceAdd,Nat.reduceLeDiff,zcY g18,(show l3.length+1=y17.length from zb5 g18)]
  exact⟨((w64 (v20+1)),y17),j9,by rw[hT16]; exact wm0 [.d,.k,.k,.k,.d,.d,.f] ⟨rfl,⟨MB.cs ⟨qcG,qcG,qcG⟩,⟨MB.cs ⟨qcG,rfl,qcG⟩,⟨MB.zaL (ztC (e:=zaa) (t:=false) g18 (.cons (.cons (.same trivial) (.cons (.same trivial) (.cons (.fr (zeh (e:=(eL (eI .i64))) (t:=false) rfl rfl (.inr rfl) rfl rfl (fun k h=>nomatch h) (fun h=>by cases h<;>contradiction))) .nil))) .nil)),qcG⟩⟩⟩⟩⟩
 rintro l3 rfl;rw[congrFun hT9 l3];refine zab ?_;try simp only[rnA,Nat.reduceEqDiff,Nat.reduceLT,Nat.reduceAdd,Nat.reduceLeDiff]
 replace h:=qab h; subst h;exact zlJ.ret rfl (.zcf (.cons (.lit _) (.cons (zal (e:=zaa) (t:=false) rfl (.inr rfl) rfl rfl (fun k h=>nomatch h) (fun h=>nomatch h)) .nil)))
def zf9(p0:S_api_Net):Option ((List Int)×Int):=
(zaN p0).bind fun r1=>
some (r1.1.sets,r1.2)
def zht(p0:S_api_Net):Option ((List Int)×Int):=
(zaN p0).bind fun r1=>
some (r1.1.order,r1.2)
def zbt(x4:S_api_Node)(x6:S_api_Node):Nat→Int→Option (Out Unit Bool)
 | 0,_=>none
 | n+1,v8=>(
bif (decide (v8<(x4.rows.length:Int)))then(
(zaO x4.rows v8).bind fun x14=>
(zaO x6.rows v8).bind fun x16=>
(zca x14 x16).bind fun r18=>
bif r18 then(
zbt x4 x6 n (w64 (v8+1)))
else(
some (.ret false)))
else(
some (.go ())))
def zbY(p0:S_api_Net)(p1:S_api_Net):Nat→Int→Option (Out Unit Bool)
 | 0,_=>none
 | n+1,v5=>(
bif (decide (v5<(p0.nodes.length:Int)))then(
(zaO p0.nodes v5).bind fun x4=>
(zaO p1.nodes v5).bind fun x6=>
((bif (x4.card == x6.card)then(
(zca x4.parents x6.parents).bind fun r9=>
bif r9 then(
some (!((x4.rows.length:Int)==(x6.rows.length:Int))))
else(
some true))
else(
some true):Option Bool)).bind fun v61=>
bif v61 then(
some (.ret false))
else(
((zbt x4 x6 ((x4.rows.length:Int) - 0+2:Int).toNat 0:Option (Out Unit Bool))).bind fun o=>match o with
| .go _=>(
zbY p0 p1 n (w64 (v5+1)))
| .ret r=>some (.ret r)))
else(
some (.go ())))
def zec(p0:S_api_Net)(p1:S_api_Net):Option Bool:=
((bif (p0.grain == p1.grain)then(
some (!((p0.nodes.length:Int)==(p1.nodes.length:Int))))
else(
some true):Option Bool)).bind fun v22=>
bif v22 then(
some false)
else(
((zbY p0 p1 ((p0.nodes.length:Int) - 0+2:Int).toNat 0:Option (Out Unit Bool))).bind fun o=>match o with
| .go _=>(
some true)
| .ret r=>some r)
def zh6:C:=
 .seq (rg [oW 2 0,
 oW 3 1,
 oJ 4 false])
 (.seq (.seq (.scope (rg [oF 9 0 2,
 oL 10 9,
 oF 11 0 3,
 oL 12 11,
 oB 13 .neq 10 12,
 oM 14 13,
 oFg 15 1 2 14 false,
 oLg 16 15 14 false,
 ⟨some 17,.len (.s 16),some (14,false)⟩,
 oFg 18 1 3 14 false,
 oLg 19 18 14 false,
 ⟨some 20,.len (.s 19),some (14,false)⟩,
 ⟨some 21,.bin .neq (.s 17) (.s 20),some (14,false)⟩,
 oP 22 14 21]))
 (.cond (.s 22) (.seq (rg [oJ 4 false])
 (.ret))
 (.skip)))
 (.seq (.seq (rg [oK 5 0])
 (.scope (.block 0 (.loop (.seq (.seq (rg [oM 23 5,
 oF 24 1 2,
 oL 25 24,
 oE 26 25,
 oB 27 .lss 23 26])
 (.cond (.s 27) (.skip)
 (.exit 0)))
 (.seq (.block 1 (.seq (.reg true false [oF 30 1 2,
 oL 31 30,
 oM 32 5,
 oI 33 3 31 32,
 oN 34 3 33,
 oF 35 1 3,
 oL 36 35,
 oM 37 5,
 oI 38 3 36 37,
 oN 39 3 38,
 ⟨some 6,.alloc [(.int .i64 0),(.slice none 0 0),(.slice none 0 0)],none⟩,
 ⟨some 7,.alloc [(.int .i64 0),(.slice none 0 0),(.slice none 0 0)],none⟩,
 ⟨none,.avo [(.s 35),(.s 38)] (.s 6),none⟩,
 oS 3 6 34,
 oS 3 7 39])
 (.seq (.seq (.scope (rg [oF 40 0 6,
 oL 41 40,
 oF 42 0 7,
 oL 43 42,
 oB 44 .neq 41 43,
 oM 45 44,
 oFg 46 1 6 45 false,
 oLg 47 46 45 false,
 oFg 48 1 7 45 false,
 oLg 49 48 45 false,
 ⟨some 50,.call 53 [(.s 47),(.s 49)],some (45,false)⟩,
 ⟨some 51,.un .not (.s 50),some (45,false)⟩,
 oP 52 45 51,
 oM 53 52,
 oFg 54 2 6 53 false,
 oLg 55 54 53 false,
 ⟨some 56,.len (.s 55),some (53,false)⟩,
 oFg 57 2 7 53 false,
 oLg 58 57 53 false,
 ⟨some 59,.len (.s 58),some (53,false)⟩,
 ⟨some 60,.bin .neq (.s 56) (.s 59),some (53,false)⟩,
 oP 61 53 60]))
 (.cond (.s 61) (.seq (rg [oJ 4 false])
 (.ret))
 (.skip)))
 (.seq (rg [oK 8 0])
 (.scope (.block 2 (.loop (.seq (.seq (rg [oM 62 8,
 oF 63 2 6,
 oL 64 63,
 oE 65 64,
 oB 66 .lss 62 65])
 (.cond (.s 66) (.skip)
 (.exit 2)))
 (.seq (.block 3 (.seq (.reg true false [oF 69 2 6,
 oL 70 69,
 oM 71 8,
 oI 72 1 70 71,
 oL 73 72,
 oF 74 2 7,
 oL 75 74,
 oM 76 8,
 oI 77 1 75 76,
 oL 78 77,
 oV 79 53 73 78,
 ⟨some 80,.un .not (.s 79),none⟩])
 (.cond (.s 80) (.seq (rg [oJ 4 false])
 (.ret))
 (.skip))))
 (rg [oM 67 8,
 oD 68 .add 67 1,
 oM 8 68]))))))))))
 (rg [oM 28 5,
 oD 29 .add 28 1,
 oM 5 29])))))))
 (.seq (rg [oJ 4 true])
 (.ret))))
theorem zkz:zlz mC 19=some (81,zh6,[.tmp 4],false):=zc8 (by kernel_rfl)
theorem zl3{p0:S_api_Net}{p1:S_api_Net}{r:Bool}(h:zec p0 p1=some r):Lx.Fn mC 19 [(.agg [(dI p0.grain),(fzE false zaa p0.nodes)]),(.agg [(dI p1.grain),(fzE false zaa p1.nodes)])] (dB r):=by
 refine Fn.of zkz (zcH rfl) (qah rfl) ?_;unfold zec at h;simp only[zh6,zfw];refine zab ?_;try simp only[rnA,Nat.reduceEqDiff,Nat.reduceLT,Nat.reduceAdd,reduceCtorEq]
 obtain⟨o1,j1,h⟩:=bind_some h;obtain⟨T1,hT1⟩:=mkT fun a:Bool=>⟨81,[(2,(.ptr 0 0)),(3,(.ptr 1 0)),(22,(dB a))],[.cells [(dI p0.grain),(fzE false zaa p0.nodes)],.cells [(dI p1.grain),(fzE false zaa p1.nodes)]]⟩
 refine EvL.jn T1 (fun a=>a=o1) ?_ ?_
 ·refine zab ?_;try simp only[rnA,Nat.reduceEqDiff,Nat.reduceLT,reduceCtorEq]
  cases c1:(p0.grain == p1.grain)
  ·rw[c1,cond_false]at j1;try simp only[rnA,Nat.reduceEqDiff,Nat.reduceLT,reduceCtorEq]
   replace j1:=qab j1; subst j1;exact lfj hT1 rfl (wm0 [.k,.k] ⟨MB.cs ⟨qcG,qcG,qcG⟩,⟨MB.cs ⟨qcG,qcG,qcG⟩,qcG⟩⟩)
  rw[c1,cond_true]at j1;try simp only[rnA,Nat.reduceEqDiff,Nat.reduceLT,reduceCtorEq,zaj]
  replace j1:=qab j1; subst j1;exact lfj hT1 rfl (wm0 [.k,.k] ⟨MB.cs ⟨qcG,qcG,qcG⟩,⟨MB.cs ⟨qcG,qcG,qcG⟩,qcG⟩⟩)
 rintro v22 rfl;rw[congrFun hT1 v22];refine zab ?_;try simp only[rnA,Nat.reduceEqDiff]
 cases c2:v22
 ·rw[c2,cond_false]at h;try simp only[rnA,Nat.reduceLT]
  obtain⟨o11,j11,h⟩:=bind_some h;obtain⟨T11,hT11⟩:=mkT fun a:Unit=>⟨81,[],[]⟩
  refine EvL.jn T11 (fun a=>o11=.go a) ?_ ?_
  ·refine zab ?_;simp only[rnA];obtain⟨T18,hT18⟩:=mkT fun a:Int=>⟨81,[(2,(.ptr 0 0)),(3,(.ptr 1 0)),(5,(dI a))],[.cells [(dI p0.grain),(fzE false zaa p0.nodes)],.cells [(dI p1.grain),(fzE false zaa p1.nodes)]]⟩
   refine EvL.rounds (α:=Int) T18 (fun n a=>zbY p0 p1 n a=some o11) ((p0.nodes.length:Int) - 0+2:Int).toNat 0 (by rw[hT18]; exact wm0 [.k,.k] ⟨MB.cs ⟨qcG,qcG,qcG⟩,⟨MB.cs ⟨qcG,qcG,qcG⟩,qcG⟩⟩) j11 (fun _ h=>nomatch (show(none:Option (Out Unit Bool))=some o11 from h)) ?_;rintro n v5 j11;simp only[zbY]at j11;rw[congrFun hT18 v5];refine zab ?_;try simp only[rnA,Nat.reduceEqDiff,Nat.reduceLT,zaj]
   cases c3:(decide (v5<(p0.nodes.length:Int)))
   ·rw[c3,cond_false]at j11;try simp only[rnA]
    replace j11:=qab j11; subst j11;exact lfj hT11 rfl (wm0 [] (by exact trivial))
   rw[c3,cond_true]at j11;obtain⟨x4,g5,j11⟩:=bind_some j11;obtain⟨x6,g7,j11⟩:=bind_some j11;try simp only[rnA,Nat.reduceEqDiff,Nat.reduceLT,Nat.reduceAdd,Nat.reduceLeDiff,Nat.reduceBEq,zac,zai (n:=3) (e:=zaa) rfl g5,zai (n:=3) (e:=zaa) rfl g7]
   obtain⟨o19,j19,j11⟩:=bind_some j11;obtain⟨T19,hT19⟩:=mkT fun a:Bool=>⟨81,[(2,(.ptr 0 0)),(3,(.ptr 1 0)),(5,(dI v5)),(6,(.ptr 2 0)),(7,(.ptr 3 0)),(61,(dB a))],[.cells [(dI p0.grain),(fzE false zaa p0.nodes)],.cells [(dI p1.grain),(fzE false zaa p1.nodes)],.cells [(dI x4.card),(fzE false (eI .i64) x4.parents),(fzE false (eL (eI .i64)) x4.rows)],.cells [(dI x6.card),(fzE false (eI .i64) x6.parents),(fzE false (eL (eI .i64)) x6.rows)]]⟩
   refine EvL.jn T19 (fun a=>a=o19) ?_ ?_
   ·refine zab ?_;try simp only[rnA,Nat.reduceEqDiff,Nat.reduceLT]
    cases c8:(x4.card == x6.card)
    ·rw[c8,cond_false]at j19;try simp only[rnA,Nat.reduceEqDiff,Nat.reduceLT]
     refine EvL.skip rfl ?_;try simp only[rnA,Nat.reduceEqDiff,Nat.reduceLT]
     replace j19:=qab j19; subst j19;exact lfj hT19 rfl (wm0 [.k,.k,.k,.k] ⟨MB.cs ⟨qcG,qcG,qcG⟩,⟨MB.cs ⟨qcG,qcG,qcG⟩,⟨MB.cs ⟨qcG,qcG,qcG,qcG⟩,⟨MB.cs ⟨qcG,qcG,qcG,qcG⟩,qcG⟩⟩⟩⟩)
    rw[c8,cond_true]at j19;obtain⟨r9,g10,j19⟩:=bind_some j19;try simp only[rnA,Nat.reduceEqDiff,Nat.reduceLT]
    refine EvL.fn (zhH g10) rfl rfl (.cons (zan _ _ (fun h=>nomatch h)) (.cons (zan _ _ (fun h=>nomatch h)) .nil)) ?_;try simp only[rnA,Nat.reduceEqDiff,Nat.reduceLT]
    cases c11:r9
    ·rw[c11,cond_false]at j19;try simp only[rnA,Nat.reduceEqDiff,Nat.reduceLT]
     replace j19:=qab j19; subst j19;exact lfj hT19 rfl (wm0 [.k,.k,.k,.k] ⟨MB.cs ⟨qcG,qcG,qcG⟩,⟨MB.cs ⟨qcG,qcG,qcG⟩,⟨MB.cs ⟨qcG,qcG,qcG,qcG⟩,⟨MB.cs ⟨qcG,qcG,qcG,qcG⟩,qcG⟩⟩⟩⟩)
    rw[c11,cond_true]at j19;try simp only[rnA,Nat.reduceEqDiff,Nat.reduceLT,zaj]
    replace j19:=qab j19; subst j19;exact lfj hT19 rfl (wm0 [.k,.k,.k,.k] ⟨MB.cs ⟨qcG,qcG,qcG⟩,⟨MB.cs ⟨qcG,qcG,qcG⟩,⟨MB.cs ⟨qcG,qcG,qcG,qcG⟩,⟨MB.cs ⟨qcG,qcG,qcG,qcG⟩,qcG⟩⟩⟩⟩)
   rintro v61 rfl;rw[congrFun hT19 v61];refine zab ?_;try simp only[rnA,Nat.reduceEqDiff]
   cases c12:v61
   ·rw[c12,cond_false]at j11;try simp only[rnA,Nat.reduceLT]
    obtain⟨o20,j20,j11⟩:=bind_some j11;obtain⟨T20,hT20⟩:=mkT fun a:Unit=>⟨81,[(2,(.ptr 0 0)),(3,(.ptr 1 0)),(5,(dI v5))],[.cells [(dI p0.grain),(fzE false zaa p0.nodes)],.cells [(dI p1.grain),(fzE false zaa p1.nodes)]]⟩
    refine EvL.jn T20 (fun a=>o20=.go a) ?_ ?_
    ·refine zab ?_;simp only[rnA];obtain⟨T21,hT21⟩:=mkT fun a:Int=>⟨81,[(2,(.ptr 0 0)),(3,(.ptr 1 0)),(5,(dI v5)),(6,(.ptr 2 0)),(7,(.ptr 3 0)),(8,(dI a))],[.cells [(dI p0.grain),(fzE false zaa p0.nodes)],.cells [(dI p1.grain),(fzE false zaa p1.nodes)],.cells [(dI x4.card),(fzE false (eI .i64) x4.parents),(fzE false (eL (eI .i64)) x4.rows)],.cells [(dI x6.card),(fzE false (eI .i64) x6.parents),(fzE false (eL (eI .i64)) x6.rows)]]⟩
     refine EvL.rounds (α:=Int) T21 (fun n a=>zbt x4 x6 n a=some o20) ((x4.rows.length:Int) - 0+2:Int).toNat 0 (by rw[hT21]; exact wm0 [.k,.k,.k,.k] ⟨MB.cs ⟨qcG,qcG,qcG⟩,⟨MB.cs ⟨qcG,qcG,qcG⟩,⟨MB.cs ⟨qcG,qcG,qcG,qcG⟩,⟨MB.cs ⟨qcG,qcG,qcG,qcG⟩,qcG⟩⟩⟩⟩) j20 (fun _ h=>nomatch (show(none:Option (Out Unit Bool))=some o20 from h)) ?_;rintro n v8 j20;simp only[zbt]at j20;rw[congrFun hT21 v8];refine zab ?_;try simp only[rnA,Nat.reduceEqDiff,Nat.reduceLT,zaj]
     cases c13:(decide (v8<(x4.rows.length:Int)))
     ·rw[c13,cond_false]at j20;try simp only[rnA,Nat.reduceEqDiff,Nat.reduceLT,reduceCtorEq]
      replace j20:=qab j20; subst j20;exact lfj hT20 rfl (wm0 [.k,.k] ⟨MB.cs ⟨qcG,qcG,qcG⟩,⟨MB.cs ⟨qcG,qcG,qcG⟩,qcG⟩⟩)
     rw[c13,cond_true]at j20;obtain⟨x14,g15,j20⟩:=bind_some j20;obtain⟨x16,g17,j20⟩:=bind_some j20;obtain⟨r18,g19,j20⟩:=bind_some j20;try simp only[rnA,Nat.reduceEqDiff,Nat.reduceLT,zai (n:=1) (e:=(eL (eI .i64))) rfl g15,zai (n:=1) (e:=(eL (eI .i64))) rfl g17]
     refine EvL.fn (zhH g19) rfl rfl (.cons (zan _ _ (fun h=>nomatch h)) (.cons (zan _ _ (fun h=>nomatch h)) .nil)) ?_;try simp only[rnA,Nat.reduceEqDiff,Nat.reduceLT]
     cases c20:r18
     ·rw[c20,cond_false]at j20;try simp only[rnA,Nat.reduceLT]
      replace j20:=qab j20; subst j20;dsimp only at j11;replace j11:=qab j11; subst j11;dsimp only at h;replace h:=qab h; subst h;exact za6.ret rfl (.lit _)
     rw[c20,cond_true]at j20;try simp only[rnA,Nat.reduceEqDiff,Nat.reduceLT]
     exact⟨(w64 (v8+1)),j20,by rw[hT21]; exact wm0 [.k,.k,.k,.k] ⟨MB.cs ⟨qcG,qcG,qcG⟩,⟨MB.cs ⟨qcG,qcG,qcG⟩,⟨MB.cs ⟨qcG,qcG,qcG,qcG⟩,⟨MB.cs ⟨qcG,qcG,qcG,qcG⟩,qcG⟩⟩⟩⟩⟩
    rintro⟨⟩ rfl;dsimp only at j11;rw[congrFun hT20 ()];refine zab ?_;try simp only[rnA,Nat.reduceEqDiff,Nat.reduceLT]
    exact⟨(w64 (v5+1)),j11,by rw[hT18]; exact wm0 [.k,.k] ⟨MB.cs ⟨qcG,qcG,qcG⟩,⟨MB.cs ⟨qcG,qcG,qcG⟩,qcG⟩⟩⟩
   rw[c12,cond_true]at j11;try simp only[rnA,Nat.reduceLT]
   replace j11:=qab j11; subst j11;dsimp only at h;replace h:=qab h; subst h;exact za6.ret rfl (.lit _)
  rintro⟨⟩ rfl;dsimp only at h;rw[congrFun hT11 ()];refine zab ?_;try simp only[rnA,Nat.reduceLT]
  replace h:=qab h; subst h;exact za6.ret rfl (.lit _)
 rw[c2,cond_true]at h;try simp only[rnA,Nat.reduceLT]
 replace h:=qab h; subst h;exact za6.ret rfl (.lit _)
end Go.Dc
