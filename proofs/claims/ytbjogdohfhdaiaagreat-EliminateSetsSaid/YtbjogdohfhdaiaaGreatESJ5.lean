/-
 What r02_Draft_Cards computes. Conditions: none.
-/
import Derived.Test.YtbjogdohfhdaiaaGreatESJ3
set_option linter.unusedSimpArgs false
set_option linter.unusedVariables false
set_option maxRecDepth 100000
set_option maxHeartbeats 4000000
namespace Go.Dc
open Go Go.Mx Go.Lx Go.Proofs
def zbg(p0:S_haruspexref02_Draft):Nat→Int→(List Int)→Option (List Int)
 | 0,_,_=>none
 | n+1,v4,l1=>(
((bif (decide (v4<(p0.c.length:Int)))then(
some (decide (v4<5)))
else(
some false):Option Bool)).bind fun v13=>
bif v13 then(
(za3 p0.c v4).bind fun x3=>
(zem 8 l1 [(w64 (1+(w64 (x3.tmod 4))))]).bind fun y5=>
zbg p0 n (w64 (v4+1)) y5)
else(
some l1))
def zbA(N:Nat)(p0:S_haruspexref02_Draft):Option (List Int):=
((zbg p0 N 0 []:Option (List Int))).bind fun l1=>
some l1
theorem zgi{N:Nat}{p0:S_haruspexref02_Draft}{r:(List Int)}(h:zbA N p0=some r):Lx.Fn mC 64 [(.agg [(fzE false (eI .u8) p0.c),(.lit (.int .u16 p0.which)),(fzE false (eI .u8) p0.order)])] (fzE true (eI .i64) r):=by
 refine fnO (by conv=>lhs; cbv) ?_;unfold zbA at h;refine zaa ?_;try simp only[rnA,Nat.reduceLT]
 obtain⟨o5,j5,h⟩:=bind_some h;obtain⟨T5,hT5⟩:=mkT fun a:(List Int)=>⟨28,[(3,(.sl 1 0 1 a.length none a.length))],[.gone,.grow 1 (a.map ((eI .i64).c true))]⟩
 refine EvL.jn T5 (fun a=>a=o5) ?_ ?_
 ·refine zaa ?_;simp only[rnA];obtain⟨T9,hT9⟩:=mkT fun a:(Int×(List Int))=>⟨28,[(1,(.ptr 0 0)),(3,(.sl 1 0 1 a.2.length none a.2.length)),(4,(dI a.1))],[.cells [(fzE false (eI .u8) p0.c),(.lit (.int .u16 p0.which)),(fzE false (eI .u8) p0.order)],.grow 1 (a.2.map ((eI .i64).c true))]⟩
  refine EvL.zqA (zbP.ghost (n:=1) (k:=3) (by decide) rfl) ?_;refine EvL.rounds (α:=(Int×(List Int))) T9 (fun n a=>zbg p0 n a.1 a.2=some o5) N (0,[]) (by rw[hT9]; exact wm0 [.k,.k] ⟨MB.cs ⟨qdn,qdn,qdn,qdn⟩,⟨MB.gs (eI .i64) true [],qdn⟩⟩) j5 (fun _ h=>nomatch (show(none:Option (List Int))=some o5 from h)) ?_;rintro n ⟨v4,l1⟩ j5;simp only[zbg]at j5;rw[congrFun hT9 (v4,l1)];refine zaa ?_;try simp only[rnA]
  obtain⟨o10,j10,j5⟩:=bind_some j5;obtain⟨T10,hT10⟩:=mkT fun a:Bool=>⟨28,[(1,(.ptr 0 0)),(3,(.sl 1 0 1 l1.length none l1.length)),(4,(dI v4)),(13,(dB a))],[.cells [(fzE false (eI .u8) p0.c),(.lit (.int .u16 p0.which)),(fzE false (eI .u8) p0.order)],.grow 1 (l1.map ((eI .i64).c true))]⟩
  refine EvL.jn T10 (fun a=>a=o10) ?_ ?_
  ·refine zaa ?_;try simp only[rnA,Nat.reduceEqDiff,Nat.reduceLT,zaC]
   cases c1:(decide (v4<(p0.c.length:Int)))
   ·rw[c1,cond_false]at j10;try simp only[rnA,Nat.reduceEqDiff,Nat.reduceLT]
    replace j10:=qae j10; subst j10;exact lfj hT10 rfl (wm0 [.k,.k] ⟨MB.cs ⟨qdn,qdn,qdn,qdn⟩,⟨MB.gs (eI .i64) true l1,qdn⟩⟩)
   rw[c1,cond_true]at j10;try simp only[rnA,Nat.reduceEqDiff,Nat.reduceLT]
   replace j10:=qae j10; subst j10;exact lfj hT10 rfl (wm0 [.k,.k] ⟨MB.cs ⟨qdn,qdn,qdn,qdn⟩,⟨MB.gs (eI .i64) true l1,qdn⟩⟩)
  rintro v13 rfl;rw[congrFun hT10 v13];refine zaa ?_;try simp only[rnA,Nat.reduceEqDiff]
  cases c2:v13
  ·rw[c2,cond_false]at j5;try simp only[rnA]
   replace j5:=qae j5; subst j5;exact lfj hT5 rfl (wm0 [.d,.k] ⟨rfl,⟨MB.gs (eI .i64) true l1,qdn⟩⟩)
  rw[c2,cond_true]at j5;obtain⟨x3,g4,j5⟩:=bind_some j5;obtain⟨y5,g6,j5⟩:=bind_some j5;try simp only[rnA,Nat.reduceEqDiff,Nat.reduceLT,Nat.reduceAdd,Nat.reduceLeDiff,Int.reduceBEq,zaS (n:=1) (e:=(eI .u8)) rfl g4,zdP g6,(show l1.length+1=y5.length from zcN g6),(show l1.map ((eI .i64).c true)++ [[(dI (w64 (1+(w64 (x3.tmod 4)))))]]=y5.map ((eI .i64).c true)from zdg g6 ((eI .i64).c true))]
  exact⟨((w64 (v4+1)),y5),j5,by rw[hT9]; exact wm0 [.k,.k] ⟨MB.cs ⟨qdn,qdn,qdn,qdn⟩,⟨MB.gs (eI .i64) true y5,qdn⟩⟩⟩
 rintro l1 rfl;rw[congrFun hT5 l1];refine zaa ?_;try simp only[rnA,Nat.reduceEqDiff,Nat.reduceLT]
 replace h:=qae h; subst h;exact zeb.ret rfl (zcn (e:=(eI .i64)) (t:=true) rfl (.inr rfl) rfl rfl (fun k h=>nomatch h) (fun _=>rfl))
def zaw(N:Nat)(p0:S_haruspexref02_Draft):Nat→Int→(List Int)→Option (List Int)
 | 0,_,_=>none
 | n+1,v4,l1=>(
(zbA N p0).bind fun r1=>
bif (decide (v4<(r1.length:Int)))then(
((bif (decide (v4<(p0.order.length:Int)))then(
(za3 p0.order v4).bind fun x5=>
(zpW (w64 x5) (w64 (v4+1))).bind fun q7=>
some q7)
else(
some 0):Option Int)).bind fun v5=>
(zdd l1 0 v5).bind fun y9=>
(ze3 8 y9).bind fun y11=>
(zem 8 y9 [v4]).bind fun y13=>
(zdd l1 v5 l1.length).bind fun y15=>
(zem 8 y13 y15).bind fun y17=>
zaw N p0 n (w64 (v4+1)) y17)
else(
some l1))
def za5(N:Nat)(p0:S_haruspexref02_Draft):Option (List Int):=
((zaw N p0 N 0 []:Option (List Int))).bind fun l1=>
some l1
theorem zd6{N:Nat}{p0:S_haruspexref02_Draft}{r:(List Int)}(h:za5 N p0=some r):Lx.Fn mC 35 [(.agg [(fzE false (eI .u8) p0.c),(.lit (.int .u16 p0.which)),(fzE false (eI .u8) p0.order)])] (fzE true (eI .i64) r):=by
 refine fnO (by conv=>lhs; cbv) ?_;unfold za5 at h;refine zaa ?_;try simp only[rnA,Nat.reduceLT]
 obtain⟨o5,j5,h⟩:=bind_some h;obtain⟨T5,hT5⟩:=mkT fun a:(List Int)=>⟨42,[(3,(.sl 1 0 1 a.length none a.length))],[.gone,.grow 1 (a.map ((eI .i64).c true))]⟩
 refine EvL.jn T5 (fun a=>a=o5) ?_ ?_
 ·refine zaa ?_;simp only[rnA];obtain⟨T9,hT9⟩:=mkT fun a:(Int×(List Int))=>⟨42,[(1,(.ptr 0 0)),(3,(.sl 1 0 1 a.2.length none a.2.length)),(4,(dI a.1))],[.cells [(fzE false (eI .u8) p0.c),(.lit (.int .u16 p0.which)),(fzE false (eI .u8) p0.order)],.grow 1 (a.2.map ((eI .i64).c true))]⟩
  refine EvL.zqA (zbP.ghost (n:=1) (k:=3) (by decide) rfl) ?_;refine EvL.rounds (α:=(Int×(List Int))) T9 (fun n a=>zaw N p0 n a.1 a.2=some o5) N (0,[]) (by rw[hT9]; exact wm0 [.k,.k] ⟨MB.cs ⟨qdn,qdn,qdn,qdn⟩,⟨MB.gs (eI .i64) true [],qdn⟩⟩) j5 (fun _ h=>nomatch (show(none:Option (List Int))=some o5 from h)) ?_;rintro n ⟨v4,l1⟩ j5;simp only[zaw]at j5;rw[congrFun hT9 (v4,l1)];refine zaa ?_;obtain⟨r1,g2,j5⟩:=bind_some j5;try simp only[rnA,Nat.reduceEqDiff,Nat.reduceLT,Nat.reduceAdd,Nat.reduceLeDiff]
  refine EvL.fn (zgi g2) rfl rfl (.cons (.zhg (.cons (zaO _ _ (fun h=>nomatch h)) (.cons (.lit _) (.cons (zaO _ _ (fun h=>nomatch h)) .nil)))) .nil) ?_;try simp only[rnA,Nat.reduceEqDiff,Nat.reduceLT,zaC]
  cases c3:(decide (v4<(r1.length:Int)))
  ·rw[c3,cond_false]at j5;try simp only[rnA]
   replace j5:=qae j5; subst j5;exact lfj hT5 rfl (wm0 [.d,.k] ⟨rfl,⟨MB.gs (eI .i64) true l1,qdn⟩⟩)
  rw[c3,cond_true]at j5;try simp only[rnA,Nat.reduceEqDiff,Nat.reduceLT,zaC]
  obtain⟨o10,j10,j5⟩:=bind_some j5;obtain⟨T10,hT10⟩:=mkT fun a:Int=>⟨42,[(1,(.ptr 0 0)),(3,(.sl 1 0 1 l1.length none l1.length)),(4,(dI v4)),(5,(dI a))],[.cells [(fzE false (eI .u8) p0.c),(.lit (.int .u16 p0.which)),(fzE false (eI .u8) p0.order)],.grow 1 (l1.map ((eI .i64).c true))]⟩
  refine EvL.jn T10 (fun a=>a=o10) ?_ ?_
  ·refine zaa ?_;try simp only[rnA,Nat.reduceEqDiff]
   cases c4:(decide (v4<(p0.order.length:Int)))
   ·rw[c4,cond_false]at j10;try simp only[rnA]
    replace j10:=qae j10; subst j10;exact lfj hT10 rfl (wm0 [.k,.k] ⟨MB.cs ⟨qdn,qdn,qdn,qdn⟩,⟨MB.gs (eI .i64) true l1,qdn⟩⟩)
   rw[c4,cond_true]at j10;obtain⟨x5,g6,j10⟩:=bind_some j10;obtain⟨q7,g8,j10⟩:=bind_some j10;try simp only[rnA,Nat.reduceEqDiff,Nat.reduceLT,zaS (n:=1) (e:=(eI .u8)) rfl g6,zh8 g8,zjU g8]
   replace j10:=qae j10; subst j10;exact lfj hT10 rfl (wm0 [.k,.k] ⟨MB.cs ⟨qdn,qdn,qdn,qdn⟩,⟨MB.gs (eI .i64) true l1,qdn⟩⟩)
  rintro v5 rfl;rw[congrFun hT10 v5];refine EvL.zqA (S':=⟨42,[(1,(.ptr 0 0)),(3,(fzE true (eI .i64) l1)),(4,(dI v4)),(5,(dI v5))],[.cells [(fzE false (eI .u8) p0.c),(.lit (.int .u16 p0.which)),(fzE false (eI .u8) p0.order)]]⟩) (zbP.m0 [.k,.f] rfl (msq (mf rfl (zu9 (e:=(eI .i64)) (t:=true) rfl rfl (.inr rfl) rfl rfl (fun k h=>nomatch h) (fun h=>by cases h<;>rfl)) (msq (msq trivial)))) ⟨MB.cs ⟨qdn,qdn,qdn,qdn⟩,qdn⟩) (zaa ?_);obtain⟨y9,g10,j5⟩:=bind_some j5;obtain⟨y11,g12,j5⟩:=bind_some j5;obtain⟨y13,g14,j5⟩:=bind_some j5;obtain⟨y15,g16,j5⟩:=bind_some j5;obtain⟨y17,g18,j5⟩:=bind_some j5;try simp only[rnA,Nat.reduceEqDiff,Nat.reduceLT,Nat.reduceAdd,Nat.reduceLeDiff,zzB (n:=1) (e:=(eI .i64)) rfl g10,zxH (n:=1) (e:=(eI .i64)) rfl,zqO g12,zdP g14,(show y9.length+1=y13.length from zcN g14),(show y9.map ((eI .i64).c true)++ [[(dI v4)]]=y13.map ((eI .i64).c true)from zdg g14 ((eI .i64).c true)),zzv (n:=1) (e:=(eI .i64)) rfl g16,zdP g18,(show y13.length+y15.length=y17.length from zcN g18),(show y13.map ((eI .i64).c true)++ y15.map ((eI .i64).c true)=y17.map ((eI .i64).c true)from zdg g18 ((eI .i64).c true))]
  exact⟨((w64 (v4+1)),y17),j5,by rw[hT9]; exact wm0 [.k,.k] ⟨MB.cs ⟨qdn,qdn,qdn,qdn⟩,⟨MB.gs (eI .i64) true y17,qdn⟩⟩⟩
 rintro l1 rfl;rw[congrFun hT5 l1];refine zaa ?_;try simp only[rnA,Nat.reduceEqDiff,Nat.reduceLT]
 replace h:=qae h; subst h;exact zeb.ret rfl (zcn (e:=(eI .i64)) (t:=true) rfl (.inr rfl) rfl rfl (fun k h=>nomatch h) (fun _=>rfl))
def zbh(p0:S_haruspexref05_Draft)(r5:(List Int)):Nat→Int→Int→(List S_api_Node)→Option (List S_api_Node)
 | 0,_,_,_=>none
 | n+1,v6,v7,l2=>(
bif (decide (v7<(zcF (zcC (p0.nodes.length:Int) 1) 5)))then(
((bif (decide (v7<(p0.nodes.length:Int)))then(
(za3 p0.nodes v7).bind fun x9=>
some (x9.zaD,x9.parents,x9.w))
else(
some (0,0,[])):Option ((Int×Int×(List Int))))).bind fun o=>match o with
|(b4_0,b4_1,b4_2)=>(
(zmB .i64 (w64 (v6 * (w64 (2+(w64 (b4_0.tmod 2)))))) (IntKind.u64.wrap (w64 ((w64 ((zcF (zcC (p0.nodes.length:Int) 1) 5) - 1)) - v7)))).bind fun q11=>
((bif (decide (100<q11))then(
some 2)
else(
some (w64 (2+(w64 (b4_0.tmod 2))))):Option Int)).bind fun v9=>
(za3 r5 v7).bind fun x14=>
(za3 l2 x14).bind fun x16=>
(zfo l2 x14 (S_api_Node.mk v9 x16.parents x16.rows)).bind fun y18=>
zbh p0 r5 n (w64 (v6 * v9)) (w64 (v7+1)) y18))
else(
some l2))
def zbp(N:Nat)(p0:S_haruspexref05_Draft)(r5:(List Int)):Nat→Int→(List S_api_Node)→Option (List S_api_Node)
 | 0,_,_=>none
 | n+1,v10,l2'=>(
bif (decide (v10<(zcF (zcC (p0.nodes.length:Int) 1) 5)))then(
((bif (decide (v10<(p0.nodes.length:Int)))then(
(za3 p0.nodes v10).bind fun x22=>
some (x22.zaD,x22.parents,x22.w))
else(
some (0,0,[])):Option ((Int×Int×(List Int))))).bind fun o=>match o with
|(b4_0,b4_1,b4_2)=>(
(za3 r5 v10).bind fun x24=>
(znf r5 v10 x24 (zcF (zcC (p0.nodes.length:Int) 1) 5) b4_1 l2').bind fun y26=>
(zn1 N (w64 (1+(w64 (p0.grain.tmod 60)))) x24 b4_2 y26).bind fun y28=>
zbp N p0 r5 n (w64 (v10+1)) y28))
else(
some l2'))
def zbV(N:Nat)(p0:S_haruspexref05_Draft):Option S_api_Net:=
(zen 56 (zcF (zcC (p0.nodes.length:Int) 1) 5) (S_api_Node.mk 0 [] [])).bind fun y1=>
(zen 1 (zcF (zcC (p0.nodes.length:Int) 1) 5) 0).bind fun y3=>
(za5 N (S_haruspexref02_Draft.mk y3 0 p0.order)).bind fun r5=>
((zbh p0 r5 ((zcF (zcC (p0.nodes.length:Int) 1) 5) - 0+2:Int).toNat 1 0 y1:Option (List S_api_Node))).bind fun l2=>
((zbp N p0 r5 ((zcF (zcC (p0.nodes.length:Int) 1) 5) - 0+2:Int).toNat 0 l2:Option (List S_api_Node))).bind fun l2'=>
some (S_api_Net.mk (w64 (1+(w64 (p0.grain.tmod 60)))) l2')
def zeU:C:=
 .seq (rg [oW 1 0,
 ⟨some 2,.alloc [(.int .i64 0),(.slice none 0 0)],none⟩])
 (.seq (rg [oF 16 1 1,
 oL 17 16,
 oE 18 17,
 ⟨some 19,.mm true [(.s 18),(.c (.int .i64 1))],none⟩,
 ⟨some 20,.mm false [(.s 19),(.c (.int .i64 5))],none⟩,
 oM 3 20])
 (.seq (.reg true false [oF 21 0 1,
 oL 22 21,
 ⟨some 23,.bin .rem (.s 22) (.c (.int .u8 60)),none⟩,
 ⟨some 24,.conv .i64 (.s 23),none⟩,
 ⟨some 25,.bin .add (.c (.int .i64 1)) (.s 24),none⟩,
 oM 26 3,
 ⟨some 27,.mk 3 56 [(.int .i64 0),(.slice none 0 0),(.slice none 0 0)] (.s 26) (.s 26),none⟩,
 ⟨some 28,.build [(.int .i64 0),(.slice none 0 0)] [(0,1,(.s 25)),(1,1,(.s 27))],none⟩,
 ⟨some 4,.alloc [(.int .i64 0),(.slice none 0 0)],none⟩,
 oS 2 4 28])
 (.seq (.reg true false [oM 29 3,
 oF 31 2 1,
 oL 32 31,
 ⟨some 30,.mk 1 1 [(.int .u8 0)] (.s 29) (.s 29),none⟩,
 ⟨some 33,.build [(.slice none 0 0),(.int .u16 0),(.slice none 0 0)] [(0,1,(.s 30)),(2,1,(.s 32))],none⟩,
 oU 34 35 33,
 oM 5 34])
 (.seq (rg [oK 6 1])
 (.seq (.seq (rg [oK 7 0])
 (.scope (.block 0 (.loop (.seq (.seq (rg [oM 35 7,
 oM 36 3,
 oB 37 .lss 35 36])
 (.cond (.s 37) (.skip)
 (.exit 0)))
 (.seq (.block 1 (.seq (rg [⟨some 8,.alloc [(.int .u8 0),(.int .u8 0),(.slice none 0 0)],none⟩])
 (.seq (.seq (rg [oM 40 7,
 oF 41 1 1,
 oL 42 41,
 oE 43 42,
 oB 44 .lss 40 43])
 (.scope (.cond (.s 44) (rg [oF 45 1 1,
 oL 46 45,
 oM 47 7,
 oI 48 3 46 47,
 oN 49 3 48,
 oS 3 8 49])
 (.skip))))
 (.seq (rg [oF 50 0 8,
 oL 51 50,
 ⟨some 52,.bin .rem (.s 51) (.c (.int .u8 2)),none⟩,
 ⟨some 53,.conv .i64 (.s 52),none⟩,
 ⟨some 54,.bin .add (.c (.int .i64 2)) (.s 53),none⟩,
 oM 9 54])
 (.seq (.seq (rg [oM 55 6,
 oM 56 9,
 oB 57 .mul 55 56,
 oM 58 3,
 oD 59 .sub 58 1,
 oM 60 7,
 oB 61 .sub 59 60,
 ⟨some 62,.conv .u64 (.s 61),none⟩,
 oB 63 .shl 57 62,
 oD 64 .gtr 63 100])
 (.scope (.cond (.s 64) (rg [oK 9 2])
 (.skip))))
 (.seq (rg [oM 65 6,
 oM 66 9,
 oB 67 .mul 65 66,
 oM 6 67])
 (.reg true false [oF 68 1 4,
 oL 69 68,
 oM 70 5,
 oM 71 7,
 oI 72 1 70 71,
 oL 73 72,
 oM 74 9,
 oI 75 3 69 73,
 oF 76 0 75,
 oS 1 76 74])))))))
 (rg [oM 38 7,
 oD 39 .add 38 1,
 oM 7 39])))))))
 (.seq (.seq (rg [oK 10 0])
 (.scope (.block 2 (.loop (.seq (.seq (rg [oM 77 10,
 oM 78 3,
 oB 79 .lss 77 78])
 (.cond (.s 79) (.skip)
 (.exit 2)))
 (.seq (.block 3 (.seq (rg [⟨some 11,.alloc [(.int .u8 0),(.int .u8 0),(.slice none 0 0)],none⟩])
 (.seq (.seq (rg [oM 82 10,
 oF 83 1 1,
 oL 84 83,
 oE 85 84,
 oB 86 .lss 82 85])
 (.scope (.cond (.s 86) (rg [oF 87 1 1,
 oL 88 87,
 oM 89 10,
 oI 90 3 88 89,
 oN 91 3 90,
 oS 3 11 91])
 (.skip))))
 (.seq (rg [oM 92 5,
 oM 93 10,
 oI 94 1 92 93,
 oL 95 94,
 oM 12 95])
 (.seq (.seq (rg [oK 13 0])
 (.scope (.block 4 (.loop (.seq (.seq (rg [oM 96 13,
 oM 97 3,
 oB 98 .lss 96 97])
 (.cond (.s 98) (.skip)
 (.exit 4)))
 (.seq (.block 5 (.seq (rg [oK 14 0])
 (.scope (.block 6 (.loop (.seq (.seq (rg [oM 101 14,
 oM 102 10,
 oB 103 .lss 101 102])
 (.cond (.s 103) (.skip)
 (.exit 6)))
 (.seq (.block 7 (.seq (.scope (rg [oM 106 5,
 oM 107 14,
 oI 108 1 106 107,
 oL 109 108,
 oM 110 13,
 oB 111 .eql 109 110,
 oM 112 111,
 oFg 113 1 11 112 true,
 oLg 114 113 112 true,
 oMg 115 14 112 true,
 ⟨some 116,.conv .u64 (.s 115),some (112,true)⟩,
 ⟨some 117,.bin .shr (.s 114) (.s 116),some (112,true)⟩,
 ⟨some 118,.bin .and (.s 117) (.c (.int .u8 1)),some (112,true)⟩,
 ⟨some 119,.bin .eql (.s 118) (.c (.int .u8 1)),some (112,true)⟩,
 ⟨some 120,.pick (.s 112) (.s 119) (.c (.bool false)),none⟩,
 oM 121 120,
 oFg 122 1 4 121 true,
 oLg 123 122 121 true,
 oMg 124 12 121 true,
 ⟨some 125,.idxS 3 (.s 123) (.s 124),some (121,true)⟩,
 oFg 126 1 125 121 true,
 oLg 127 126 121 true,
 ⟨some 128,.len (.s 127),some (121,true)⟩,
 oDg 129 .lss 128 3 121 true,
 ⟨some 130,.pick (.s 121) (.s 129) (.c (.bool false)),none⟩]))
 (.scope (.cond (.s 130) (.reg true false [oF 131 1 4,
 oL 132 131,
 oM 133 12,
 oF 134 1 4,
 oL 135 134,
 oM 136 12,
 oI 137 3 135 136,
 oF 138 1 137,
 oL 139 138,
 oM 140 13,
 ⟨some 141,.bsl 1 1 [(.int .i64 0)] [(0,(.s 140))],none⟩,
 ⟨none,.avo [(.s 131)] (.s 139),none⟩,
 oT 142 1 8 139 141,
 oI 143 3 132 133,
 oF 144 1 143,
 oS 1 144 142])
 (.skip)))))
 (rg [oM 104 14,
 oD 105 .add 104 1,
 oM 14 105]))))))))
 (rg [oM 99 13,
 oD 100 .add 99 1,
 oM 13 100])))))))
 (.seq (rg [oK 15 0])
 (.scope (.block 8 (.loop (.seq (.seq (rg [oM 145 15,
 oN 146 2 4,
 oM 147 12,
 oV 148 37 146 147,
 oU 149 36 148,
 oB 150 .lss 145 149])
 (.cond (.s 150) (.skip)
 (.exit 8)))
 (.seq (.block 9 (.reg true true [oF 153 1 4,
 oL 154 153,
 oM 155 12,
 oF 156 1 4,
 oL 157 156,
 oM 158 12,
 oI 159 3 157 158,
 oF 160 2 159,
 oL 161 160,
 oF 162 0 4,
 oL 163 162,
 oF 164 1 4,
 oL 165 164,
 oM 166 12,
 oI 167 3 165 166,
 oF 168 0 167,
 oL 169 168,
 oF 170 2 11,
 oL 171 170,
 oM 172 15,
 oF 173 1 4,
 oL 174 173,
 oM 175 12,
 oI 176 3 174 175,
 oF 177 0 176,
 oL 178 177,
 oD 179 .add 178 1,
 oB 180 .mul 172 179,
 ⟨some 181,.call 38 [(.s 163),(.s 169),(.s 171),(.s 180)],none⟩,
 ⟨some 182,.bsl 1 1 [(.slice none 0 0)] [(0,(.s 181))],none⟩,
 ⟨none,.avo [(.s 153)] (.s 161),none⟩,
 oT 183 1 24 161 182,
 oI 184 3 154 155,
 oF 185 2 184,
 oS 1 185 183]))
 (rg [oM 151 15,
 oD 152 .add 151 1,
 oM 15 152]))))))))))))
 (rg [oM 80 10,
 oD 81 .add 80 1,
 oM 10 81])))))))
 (.seq (rg [oN 186 2 4,
 oS 2 2 186])
 (.ret))))))))
theorem zg2:zl2 mC 13=some (187,zeU,[.cell 2 (some 2)],false):=zcP (by kernel_rfl)
theorem zhs{N:Nat}{p0:S_haruspexref05_Draft}{r:S_api_Net}(h:zbV N p0=some r):Lx.Fn mC 13 [(.agg [(dU8 p0.grain),(fzE false zah p0.nodes),(fzE false (eI .u8) p0.order)])] (.agg [(dI r.grain),(fzE true zab r.nodes)]):=by
 refine Fn.of zg2 (zcj rfl) (qai rfl) ?_;unfold zbV at h;simp only[zeU,zss];refine zaa ?_;obtain⟨y1,g2,h⟩:=bind_some h;obtain⟨y3,g4,h⟩:=bind_some h;obtain⟨r5,g6,h⟩:=bind_some h;try simp only[rnA,Nat.reduceEqDiff,Nat.reduceLT,Nat.reduceAdd,Nat.reduceLeDiff,Int.reduceBEq,reduceCtorEq,zaC,(zbX g2).1.1,(zbX g2).1.2,qdi,(show List.replicate (Int.toNat (zcF (zcC (p0.nodes.length:Int) 1) 5)) [(dI 0),zcE,zcE]=y1.map (zaf.c true)from zec g2 (zaf.c true)),(zbX g4).1.2,(show List.replicate (Int.toNat (zcF (zcC (p0.nodes.length:Int) 1) 5)) [(dU8 0)]=y3.map ((eI .u8).c true)from zec g4 ((eI .u8).c true))]
 refine EvL.fn (zd6 g6) rfl rfl (.cons (.zhg (.cons (zcn (e:=(eI .u8)) (t:=true) rfl (.inl rfl) (zdi g4).symm (zdi g4).symm (fun k h=>by cases h; exact qan _) (fun h=>nomatch h)) (.cons (.lit _) (.cons (zaO _ _ (fun h=>nomatch h)) .nil)))) .nil) ?_;try simp only[rnA,Nat.reduceEqDiff,Nat.reduceLT,reduceCtorEq]
 obtain⟨o7,j7,h⟩:=bind_some h;obtain⟨T7,hT7⟩:=mkT fun a:(List S_api_Node)=>⟨187,[(1,(.ptr 0 0)),(2,(.ptr 1 0)),(3,(dI (zcF (zcC (p0.nodes.length:Int) 1) 5))),(4,(.ptr 3 0)),(5,(fzE true (eI .i64) r5))],[.cells [(dU8 p0.grain),(fzE false zah p0.nodes),(fzE false (eI .u8) p0.order)],.cells [(dI 0),zcE],.els 3 (a.map (zaf.c true)),.cells [(dI (w64 (1+(w64 (p0.grain.tmod 60))))),(.sl 2 0 3 (Int.toNat (zcF (zcC (p0.nodes.length:Int) 1) 5)) (some (Int.toNat (zcF (zcC (p0.nodes.length:Int) 1) 5))) (Int.toNat (zcF (zcC (p0.nodes.length:Int) 1) 5)))]]⟩
 refine EvL.jn T7 (fun a=>a=o7∧a.length=(Int.toNat (zcF (zcC (p0.nodes.length:Int) 1) 5))) ?_ ?_
 ·refine zaa ?_;simp only[rnA];obtain⟨T12,hT12⟩:=mkT fun a:(Int×Int×(List S_api_Node))=>⟨187,[(1,(.ptr 0 0)),(2,(.ptr 1 0)),(3,(dI (zcF (zcC (p0.nodes.length:Int) 1) 5))),(4,(.ptr 3 0)),(5,(fzE true (eI .i64) r5)),(6,(dI a.1)),(7,(dI a.2.1))],[.cells [(dU8 p0.grain),(fzE false zah p0.nodes),(fzE false (eI .u8) p0.order)],.cells [(dI 0),zcE],.els 3 (a.2.2.map (zaf.c true)),.cells [(dI (w64 (1+(w64 (p0.grain.tmod 60))))),(.sl 2 0 3 (Int.toNat (zcF (zcC (p0.nodes.length:Int) 1) 5)) (some (Int.toNat (zcF (zcC (p0.nodes.length:Int) 1) 5))) (Int.toNat (zcF (zcC (p0.nodes.length:Int) 1) 5)))]]⟩
  refine EvL.rounds (α:=(Int×Int×(List S_api_Node))) T12 (fun n a=>zbh p0 r5 n a.1 a.2.1 a.2.2=some o7∧a.2.2.length=(Int.toNat (zcF (zcC (p0.nodes.length:Int) 1) 5))) ((zcF (zcC (p0.nodes.length:Int) 1) 5) - 0+2:Int).toNat (1,0,y1) (by rw[hT12]; exact wm0 [.k,.k,.k,.k] ⟨MB.cs ⟨qdn,qdn,qdn,qdn⟩,⟨MB.cs ⟨qdn,qdn,qdn⟩,⟨MB.es zaf true y1,⟨MB.cs ⟨qdn,rfl,qdn⟩,qdn⟩⟩⟩⟩) ⟨j7,zdi g2⟩ (fun _ h=>nomatch (show(none:Option (List S_api_Node))=some o7 from h.1)) ?_;rintro n ⟨v6,v7,l2⟩ ⟨j7,el2⟩;simp only[zbh]at j7;rw[congrFun hT12 (v6,v7,l2)];refine zaa ?_;try simp only[rnA,Nat.reduceEqDiff,Nat.reduceLT]
  cases c7:(decide (v7<(zcF (zcC (p0.nodes.length:Int) 1) 5)))
  ·rw[c7,cond_false]at j7;try simp only[rnA]
   replace j7:=qae j7; subst j7;exact⟨_,⟨rfl,el2⟩,by rw[hT7]; exact wm0 [.k,.k,.k,.k] ⟨MB.cs ⟨qdn,qdn,qdn,qdn⟩,⟨MB.cs ⟨qdn,qdn,qdn⟩,⟨MB.es zaf true l2,⟨MB.cs ⟨qdn,rfl,qdn⟩,qdn⟩⟩⟩⟩⟩
  rw[c7,cond_true]at j7;try simp only[rnA,Nat.reduceEqDiff,Nat.reduceLT,Nat.reduceAdd,zaC]
  obtain⟨o13,j13,j7⟩:=bind_some j7;obtain⟨T13,hT13⟩:=mkT fun a:(Int×Int×(List Int))=>⟨187,[(1,(.ptr 0 0)),(2,(.ptr 1 0)),(3,(dI (zcF (zcC (p0.nodes.length:Int) 1) 5))),(4,(.ptr 3 0)),(5,(fzE true (eI .i64) r5)),(6,(dI v6)),(7,(dI v7)),(8,(.ptr 4 0))],[.cells [(dU8 p0.grain),(fzE false zah p0.nodes),(fzE false (eI .u8) p0.order)],.cells [(dI 0),zcE],.els 3 (l2.map (zaf.c true)),.cells [(dI (w64 (1+(w64 (p0.grain.tmod 60))))),(.sl 2 0 3 (Int.toNat (zcF (zcC (p0.nodes.length:Int) 1) 5)) (some (Int.toNat (zcF (zcC (p0.nodes.length:Int) 1) 5))) (Int.toNat (zcF (zcC (p0.nodes.length:Int) 1) 5)))],.cells [(dU8 a.1),(dU8 a.2.1),(fzE false (eI .u8) a.2.2)]]⟩
  refine EvL.jn T13 (fun a=>a=o13) ?_ ?_
  ·refine zaa ?_;try simp only[rnA,Nat.reduceEqDiff]
   cases c8:(decide (v7<(p0.nodes.length:Int)))
   ·rw[c8,cond_false]at j13;try simp only[rnA]
    replace j13:=qae j13; subst j13;exact lfj hT13 rfl (wm0 [.k,.k,.k,.k,.k] ⟨MB.cs ⟨qdn,qdn,qdn,qdn⟩,⟨MB.cs ⟨qdn,qdn,qdn⟩,⟨MB.es zaf true l2,⟨MB.cs ⟨qdn,rfl,qdn⟩,⟨MB.zyD (.cons (.same trivial) (.cons (.same trivial) (.cons (.fr (zvL (eI .u8))) .nil))),qdn⟩⟩⟩⟩⟩)
   rw[c8,cond_true]at j13;obtain⟨x9,g10,j13⟩:=bind_some j13;try simp only[rnA,Nat.reduceEqDiff,Nat.reduceLT,Nat.reduceAdd,Nat.reduceLeDiff,zcu,zaS (n:=3) (e:=zah) rfl g10]
   replace j13:=qae j13; subst j13;exact lfj hT13 rfl (wm0 [.k,.k,.k,.k,.k] ⟨MB.cs ⟨qdn,qdn,qdn,qdn⟩,⟨MB.cs ⟨qdn,qdn,qdn⟩,⟨MB.es zaf true l2,⟨MB.cs ⟨qdn,rfl,qdn⟩,⟨MB.cs ⟨qdn,qdn,qdn,qdn⟩,qdn⟩⟩⟩⟩⟩)
  rintro⟨b4_0,b4_1,b4_2⟩ rfl;dsimp only at j7;rw[congrFun hT13 (b4_0,b4_1,b4_2)];refine zaa ?_;obtain⟨q11,g12,j7⟩:=bind_some j7;try simp only[rnA,Nat.reduceEqDiff,Nat.reduceLT,Int.reduceBEq,(za6 g12).1,(za6 g12).2]
  obtain⟨o14,j14,j7⟩:=bind_some j7;obtain⟨T14,hT14⟩:=mkT fun a:Int=>⟨187,[(1,(.ptr 0 0)),(2,(.ptr 1 0)),(3,(dI (zcF (zcC (p0.nodes.length:Int) 1) 5))),(4,(.ptr 3 0)),(5,(fzE true (eI .i64) r5)),(6,(dI v6)),(7,(dI v7)),(9,(dI a))],[.cells [(dU8 p0.grain),(fzE false zah p0.nodes),(fzE false (eI .u8) p0.order)],.cells [(dI 0),zcE],.els 3 (l2.map (zaf.c true)),.cells [(dI (w64 (1+(w64 (p0.grain.tmod 60))))),(.sl 2 0 3 (Int.toNat (zcF (zcC (p0.nodes.length:Int) 1) 5)) (some (Int.toNat (zcF (zcC (p0.nodes.length:Int) 1) 5))) (Int.toNat (zcF (zcC (p0.nodes.length:Int) 1) 5)))]]⟩
  refine EvL.jn T14 (fun a=>a=o14) ?_ ?_
  ·refine zaa ?_;try simp only[rnA,Nat.reduceEqDiff]
   cases c13:(decide (100<q11))
   ·rw[c13,cond_false]at j14;try simp only[rnA]
    replace j14:=qae j14; subst j14;exact lfj hT14 rfl (wm0 [.k,.k,.k,.k] ⟨MB.cs ⟨qdn,qdn,qdn,qdn⟩,⟨MB.cs ⟨qdn,qdn,qdn⟩,⟨MB.es zaf true l2,⟨MB.cs ⟨qdn,rfl,qdn⟩,qdn⟩⟩⟩⟩)
   rw[c13,cond_true]at j14;try simp only[rnA,Nat.reduceLT]
   replace j14:=qae j14; subst j14;exact lfj hT14 rfl (wm0 [.k,.k,.k,.k] ⟨MB.cs ⟨qdn,qdn,qdn,qdn⟩,⟨MB.cs ⟨qdn,qdn,qdn⟩,⟨MB.es zaf true l2,⟨MB.cs ⟨qdn,rfl,qdn⟩,qdn⟩⟩⟩⟩)
  rintro v9 rfl;rw[congrFun hT14 v9];refine zaa ?_;obtain⟨x14,g15,j7⟩:=bind_some j7;obtain⟨x16,g17,j7⟩:=bind_some j7;obtain⟨y18,g19,j7⟩:=bind_some j7;try simp only[rnA,Nat.reduceEqDiff,Nat.reduceLT,Nat.reduceAdd,Nat.reduceLeDiff,zdY,zaS (n:=1) (e:=(eI .i64)) rfl g15,el2,zcd g17,(show x14<(((Int.toNat (zcF (zcC (p0.nodes.length:Int) 1) 5)):Nat):Int)from el2 ▸ zcm g17),zby g17 (zaf.c true),(show(l2.map (zaf.c true)).set x14.toNat [(dI v9),(nE true (eI .i64) x16.parents),(nE true (eL (eI .i64)) x16.rows)]=y18.map (zaf.c true)from zdb g19 (zaf.c true))]
  exact⟨((w64 (v6 * v9)),(w64 (v7+1)),y18),⟨j7,(zcM g19).trans el2⟩,by rw[hT12]; exact wm0 [.k,.k,.k,.k] ⟨MB.cs ⟨qdn,qdn,qdn,qdn⟩,⟨MB.cs ⟨qdn,qdn,qdn⟩,⟨MB.es zaf true y18,⟨MB.cs ⟨qdn,rfl,qdn⟩,qdn⟩⟩⟩⟩⟩
 rintro l2 ⟨rfl,el2⟩;rw[congrFun hT7 l2];refine zaa ?_;try simp only[rnA,Nat.reduceLT]
 obtain⟨o18,j18,h⟩:=bind_some h;obtain⟨T18,hT18⟩:=mkT fun a:(List S_api_Node)=>⟨187,[(2,(.ptr 1 0)),(4,(.ptr 3 0))],[.gone,.cells [(dI 0),zcE],.els 3 (a.map (zaf.c true)),.cells [(dI (w64 (1+(w64 (p0.grain.tmod 60))))),(.sl 2 0 3 (Int.toNat (zcF (zcC (p0.nodes.length:Int) 1) 5)) (some (Int.toNat (zcF (zcC (p0.nodes.length:Int) 1) 5))) (Int.toNat (zcF (zcC (p0.nodes.length:Int) 1) 5)))]]⟩
 refine EvL.jn T18 (fun a=>a=o18∧a.length=(Int.toNat (zcF (zcC (p0.nodes.length:Int) 1) 5))) ?_ ?_
 ·refine zaa ?_;simp only[rnA];obtain⟨T21,hT21⟩:=mkT fun a:(Int×(List S_api_Node))=>⟨187,[(1,(.ptr 0 0)),(2,(.ptr 1 0)),(3,(dI (zcF (zcC (p0.nodes.length:Int) 1) 5))),(4,(.ptr 3 0)),(5,(fzE true (eI .i64) r5)),(10,(dI a.1))],[.cells [(dU8 p0.grain),(fzE false zah p0.nodes),(fzE false (eI .u8) p0.order)],.cells [(dI 0),zcE],.els 3 (a.2.map (zaf.c true)),.cells [(dI (w64 (1+(w64 (p0.grain.tmod 60))))),(.sl 2 0 3 (Int.toNat (zcF (zcC (p0.nodes.length:Int) 1) 5)) (some (Int.toNat (zcF (zcC (p0.nodes.length:Int) 1) 5))) (Int.toNat (zcF (zcC (p0.nodes.length:Int) 1) 5)))]]⟩
  refine EvL.rounds (α:=(Int×(List S_api_Node))) T21 (fun n a=>zbp N p0 r5 n a.1 a.2=some o18∧a.2.length=(Int.toNat (zcF (zcC (p0.nodes.length:Int) 1) 5))) ((zcF (zcC (p0.nodes.length:Int) 1) 5) - 0+2:Int).toNat (0,l2) (by rw[hT21]; exact wm0 [.k,.k,.k,.k] ⟨MB.cs ⟨qdn,qdn,qdn,qdn⟩,⟨MB.cs ⟨qdn,qdn,qdn⟩,⟨MB.es zaf true l2,⟨MB.cs ⟨qdn,rfl,qdn⟩,qdn⟩⟩⟩⟩) ⟨j18,el2⟩ (fun _ h=>nomatch (show(none:Option (List S_api_Node))=some o18 from h.1)) ?_;rintro n ⟨v10,l2'⟩ ⟨j18,el2'⟩;simp only[zbp]at j18;rw[congrFun hT21 (v10,l2')];refine zaa ?_;try simp only[rnA,Nat.reduceEqDiff,Nat.reduceLT]
  cases c20:(decide (v10<(zcF (zcC (p0.nodes.length:Int) 1) 5)))
  ·rw[c20,cond_false]at j18;try simp only[rnA]
   replace j18:=qae j18; subst j18;exact⟨_,⟨rfl,el2'⟩,by rw[hT18]; exact wm0 [.d,.k,.k,.k] ⟨rfl,⟨MB.cs ⟨qdn,qdn,qdn⟩,⟨MB.es zaf true l2',⟨MB.cs ⟨qdn,rfl,qdn⟩,qdn⟩⟩⟩⟩⟩
  rw[c20,cond_true]at j18;try simp only[rnA,Nat.reduceEqDiff,Nat.reduceLT,Nat.reduceAdd,zaC]
  obtain⟨o22,j22,j18⟩:=bind_some j18;obtain⟨T22,hT22⟩:=mkT fun a:(Int×Int×(List Int))=>⟨187,[(1,(.ptr 0 0)),(2,(.ptr 1 0)),(3,(dI (zcF (zcC (p0.nodes.length:Int) 1) 5))),(4,(.ptr 3 0)),(5,(fzE true (eI .i64) r5)),(10,(dI v10)),(11,(.ptr 4 0))],[.cells [(dU8 p0.grain),(fzE false zah p0.nodes),(fzE false (eI .u8) p0.order)],.cells [(dI 0),zcE],.els 3 (l2'.map (zaf.c true)),.cells [(dI (w64 (1+(w64 (p0.grain.tmod 60))))),(.sl 2 0 3 (Int.toNat (zcF (zcC (p0.nodes.length:Int) 1) 5)) (some (Int.toNat (zcF (zcC (p0.nodes.length:Int) 1) 5))) (Int.toNat (zcF (zcC (p0.nodes.length:Int) 1) 5)))],.cells [(dU8 a.1),(dU8 a.2.1),(fzE false (eI .u8) a.2.2)]]⟩
  refine EvL.jn T22 (fun a=>a=o22) ?_ ?_
  ·refine zaa ?_;try simp only[rnA,Nat.reduceEqDiff]
   cases c21:(decide (v10<(p0.nodes.length:Int)))
   ·rw[c21,cond_false]at j22;try simp only[rnA]
    replace j22:=qae j22; subst j22;exact lfj hT22 rfl (wm0 [.k,.k,.k,.k,.k] ⟨MB.cs ⟨qdn,qdn,qdn,qdn⟩,⟨MB.cs ⟨qdn,qdn,qdn⟩,⟨MB.es zaf true l2',⟨MB.cs ⟨qdn,rfl,qdn⟩,⟨MB.zyD (.cons (.same trivial) (.cons (.same trivial) (.cons (.fr (zvL (eI .u8))) .nil))),qdn⟩⟩⟩⟩⟩)
   rw[c21,cond_true]at j22;obtain⟨x22,g23,j22⟩:=bind_some j22;try simp only[rnA,Nat.reduceEqDiff,Nat.reduceLT,Nat.reduceAdd,Nat.reduceLeDiff,zcu,zaS (n:=3) (e:=zah) rfl g23]
   replace j22:=qae j22; subst j22;exact lfj hT22 rfl (wm0 [.k,.k,.k,.k,.k] ⟨MB.cs ⟨qdn,qdn,qdn,qdn⟩,⟨MB.cs ⟨qdn,qdn,qdn⟩,⟨MB.es zaf true l2',⟨MB.cs ⟨qdn,rfl,qdn⟩,⟨MB.cs ⟨qdn,qdn,qdn,qdn⟩,qdn⟩⟩⟩⟩⟩)
  rintro⟨b4_0,b4_1,b4_2⟩ rfl;dsimp only at j18;rw[congrFun hT22 (b4_0,b4_1,b4_2)];refine zaa ?_;obtain⟨x24,g25,j18⟩:=bind_some j18;try simp only[rnA,Nat.reduceEqDiff,Nat.reduceLT,zaS (n:=1) (e:=(eI .i64)) rfl g25]
  obtain⟨y26,g27,j18⟩:=bind_some j18;refine EvL.zqA (S':=⟨187,[(1,(.ptr 0 0)),(2,(.ptr 1 0)),(3,(dI (zcF (zcC (p0.nodes.length:Int) 1) 5))),(4,(.ptr 3 0)),(5,(fzE true (eI .i64) r5)),(10,(dI v10)),(11,(.ptr 4 0)),(12,(dI x24)),(13,(dI 0))],[.cells [(dU8 p0.grain),(fzE false zah p0.nodes),(fzE false (eI .u8) p0.order)],.cells [(dI 0),zcE],.els 3 (l2'.map (zaf.c true)),.cells [(dI (w64 (1+(w64 (p0.grain.tmod 60))))),(.sl 2 0 3 (Int.toNat (zcF (zcC (p0.nodes.length:Int) 1) 5)) (some (Int.toNat (zcF (zcC (p0.nodes.length:Int) 1) 5))) (Int.toNat (zcF (zcC (p0.nodes.length:Int) 1) 5)))],.cells [(dU8 b4_0),(dU8 b4_1),(fzE false (eI .u8) b4_2)]]⟩) (wm0 [.k,.k,.k,.k,.k] ⟨MB.cs ⟨qdn,qdn,qdn,qdn⟩,⟨MB.cs ⟨qdn,qdn,qdn⟩,⟨MB.es zaf true l2',⟨MB.cs ⟨qdn,rfl,qdn⟩,⟨MB.cs ⟨qdn,qdn,qdn,qdn⟩,qdn⟩⟩⟩⟩⟩) ?_;refine zyl g27 (fun kp=>⟨qdn,qdn,qdn,qdn⟩) (fun kp=>⟨qdn,qdn,qdn⟩) (fun kp=>trivial) (fun kp=>trivial) el2' (zaa ?_);try simp only[rnA,Nat.reduceLT]
  obtain⟨y28,g29,j18⟩:=bind_some j18;refine EvL.zqA (S':=⟨187,[(1,(.ptr 0 0)),(2,(.ptr 1 0)),(3,(dI (zcF (zcC (p0.nodes.length:Int) 1) 5))),(4,(.ptr 3 0)),(5,(fzE true (eI .i64) r5)),(10,(dI v10)),(11,(.ptr 4 0)),(12,(dI x24)),(15,(dI 0))],[.cells [(dU8 p0.grain),(fzE false zah p0.nodes),(fzE false (eI .u8) p0.order)],.cells [(dI 0),zcE],.els 3 (y26.map (zaf.c true)),.cells [(dI (w64 (1+(w64 (p0.grain.tmod 60))))),(.sl 2 0 3 (Int.toNat (zcF (zcC (p0.nodes.length:Int) 1) 5)) (some (Int.toNat (zcF (zcC (p0.nodes.length:Int) 1) 5))) (Int.toNat (zcF (zcC (p0.nodes.length:Int) 1) 5)))],.cells [(dU8 b4_0),(dU8 b4_1),(fzE false (eI .u8) b4_2)]]⟩) (wm0 [.k,.k,.k,.k,.k] ⟨MB.cs ⟨qdn,qdn,qdn,qdn⟩,⟨MB.cs ⟨qdn,qdn,qdn⟩,⟨MB.es zaf true y26,⟨MB.cs ⟨qdn,rfl,qdn⟩,⟨MB.cs ⟨qdn,qdn,qdn,qdn⟩,qdn⟩⟩⟩⟩⟩) ?_;refine zzl g29 (fun kp=>⟨qdn,qdn,qdn,qdn⟩) (fun kp=>⟨qdn,qdn,qdn⟩) (fun kp=>trivial) (fun kp=>trivial) ((zjs g27).trans el2') (zaa ?_);try simp only[rnA,Nat.reduceEqDiff,Nat.reduceLT]
  exact⟨((w64 (v10+1)),y28),⟨j18,((zps g29).trans ((zjs g27).trans el2'))⟩,by rw[hT21]; exact wm0 [.k,.k,.k,.k] ⟨MB.cs ⟨qdn,qdn,qdn,qdn⟩,⟨MB.cs ⟨qdn,qdn,qdn⟩,⟨MB.es zaf true y28,⟨MB.cs ⟨qdn,rfl,qdn⟩,qdn⟩⟩⟩⟩⟩
 rintro l2' ⟨rfl,el2'⟩;rw[congrFun hT18 l2'];refine zaa ?_;try simp only[rnA,Nat.reduceEqDiff,Nat.reduceLT,Nat.reduceAdd,Nat.reduceLeDiff]
 replace h:=qae h; subst h;exact zeb.ret rfl (.zhg (.cons (.lit _) (.cons (zo3 (e:=zab) rfl (.inl rfl) (by rw[qaA]; exact(el2').symm) (by rw[qaA]; exact(el2').symm) (fun k h=>by cases h; exact qan _) (zh4 (fun _=>rfl) l2')) .nil)))
def zbC(p1:S_api_Net)(p0:S_haruspexref05_Known):Nat→Int→(List Int)→Option (List Int)
 | 0,_,_=>none
 | n+1,v6,l2=>(
bif (decide (v6<(p1.nodes.length:Int)))then(
(zhP .u8 p0.which (IntKind.u64.wrap v6)).bind fun q2=>
((bif ((zfz .u8 q2 1)== 1)then(
(za3 [p0.v.a0,p0.v.a1,p0.v.a2,p0.v.a3,p0.v.a4,p0.v.a5,p0.v.a6,p0.v.a7] v6).bind fun x5=>
(za3 p1.nodes v6).bind fun x7=>
(zpW (w64 x5) x7.zaD).bind fun q9=>
some q9)
else(
some (-1)):Option Int)).bind fun v7=>
(zem 8 l2 [v7]).bind fun y11=>
zbC p1 p0 n (w64 (v6+1)) y11)
else(
some l2))
def zbw(p0:S_haruspexref05_Known)(p1:S_api_Net):Option (List Int):=
((zbC p1 p0 ((p1.nodes.length:Int) - 0+2:Int).toNat 0 []:Option (List Int))).bind fun l2=>
some l2
theorem zh2{p0:S_haruspexref05_Known}{p1:S_api_Net}{r:(List Int)}(h:zbw p0 p1=some r):Lx.Fn mC 25 [(.agg [(dU8 p0.which),(dU8 p0.v.a0),(dU8 p0.v.a1),(dU8 p0.v.a2),(dU8 p0.v.a3),(dU8 p0.v.a4),(dU8 p0.v.a5),(dU8 p0.v.a6),(dU8 p0.v.a7)]),(.agg [(dI p1.grain),(fzE false zab p1.nodes)])] (fzE true (eI .i64) r):=by
 refine fnO (by conv=>lhs; cbv) ?_;unfold zbw at h;refine zaa ?_;try simp only[rnA,Nat.reduceEqDiff,Nat.reduceLT,Nat.reduceAdd,reduceCtorEq]
 obtain⟨o5,j5,h⟩:=bind_some h;obtain⟨T5,hT5⟩:=mkT fun a:(List Int)=>⟨39,[(5,(.sl 2 0 1 a.length none a.length))],[.gone,.gone,.grow 1 (a.map ((eI .i64).c true))]⟩
 refine EvL.jn T5 (fun a=>a=o5) ?_ ?_
 ·refine zaa ?_;simp only[rnA];obtain⟨T9,hT9⟩:=mkT fun a:(Int×(List Int))=>⟨39,[(2,(.ptr 0 0)),(3,(.ptr 1 0)),(5,(.sl 2 0 1 a.2.length none a.2.length)),(6,(dI a.1))],[.cells [(dU8 p0.which),(dU8 p0.v.a0),(dU8 p0.v.a1),(dU8 p0.v.a2),(dU8 p0.v.a3),(dU8 p0.v.a4),(dU8 p0.v.a5),(dU8 p0.v.a6),(dU8 p0.v.a7)],.cells [(dI p1.grain),(fzE false zab p1.nodes)],.grow 1 (a.2.map ((eI .i64).c true))]⟩
  refine EvL.zqA (zbP.ghost (n:=1) (k:=5) (by decide) rfl) ?_;refine EvL.rounds (α:=(Int×(List Int))) T9 (fun n a=>zbC p1 p0 n a.1 a.2=some o5) ((p1.nodes.length:Int) - 0+2:Int).toNat (0,[]) (by rw[hT9]; exact wm0 [.k,.k,.k] ⟨MB.cs ⟨qdn,qdn,qdn,qdn,qdn,qdn,qdn,qdn,qdn,qdn⟩,⟨MB.cs ⟨qdn,qdn,qdn⟩,⟨MB.gs (eI .i64) true [],qdn⟩⟩⟩) j5 (fun _ h=>nomatch (show(none:Option (List Int))=some o5 from h)) ?_;rintro n ⟨v6,l2⟩ j5;simp only[zbC]at j5;rw[congrFun hT9 (v6,l2)];refine zaa ?_;try simp only[rnA,Nat.reduceEqDiff,Nat.reduceLT,zaC]
  cases c1:(decide (v6<(p1.nodes.length:Int)))
  ·rw[c1,cond_false]at j5;try simp only[rnA]
   replace j5:=qae j5; subst j5;exact lfj hT5 rfl (wm0 [.d,.d,.k] ⟨rfl,⟨rfl,⟨MB.gs (eI .i64) true l2,qdn⟩⟩⟩)
  rw[c1,cond_true]at j5;obtain⟨q2,g3,j5⟩:=bind_some j5;try simp only[rnA,Nat.reduceEqDiff,Nat.reduceLT,(zaX g3).1,(zaX g3).2]
  obtain⟨o10,j10,j5⟩:=bind_some j5;obtain⟨T10,hT10⟩:=mkT fun a:Int=>⟨39,[(2,(.ptr 0 0)),(3,(.ptr 1 0)),(5,(.sl 2 0 1 l2.length none l2.length)),(6,(dI v6)),(7,(dI a))],[.cells [(dU8 p0.which),(dU8 p0.v.a0),(dU8 p0.v.a1),(dU8 p0.v.a2),(dU8 p0.v.a3),(dU8 p0.v.a4),(dU8 p0.v.a5),(dU8 p0.v.a6),(dU8 p0.v.a7)],.cells [(dI p1.grain),(fzE false zab p1.nodes)],.grow 1 (l2.map ((eI .i64).c true))]⟩
  refine EvL.jn T10 (fun a=>a=o10) ?_ ?_
  ·refine zaa ?_;try simp only[rnA,Nat.reduceEqDiff]
   cases c4:((zfz .u8 q2 1)== 1)
   ·rw[c4,cond_false]at j10;try simp only[rnA]
    replace j10:=qae j10; subst j10;exact lfj hT10 rfl (wm0 [.k,.k,.k] ⟨MB.cs ⟨qdn,qdn,qdn,qdn,qdn,qdn,qdn,qdn,qdn,qdn⟩,⟨MB.cs ⟨qdn,qdn,qdn⟩,⟨MB.gs (eI .i64) true l2,qdn⟩⟩⟩)
   rw[c4,cond_true]at j10;obtain⟨x5,g6,j10⟩:=bind_some j10;obtain⟨x7,g8,j10⟩:=bind_some j10;obtain⟨q9,g10,j10⟩:=bind_some j10;try simp only[rnA,Nat.reduceEqDiff,Nat.reduceLT,Nat.reduceAdd,Nat.reduceLeDiff,zak,zcd g6,(show v6<((8:Nat):Int)from zcm g6),qc8,(show [(dU8 p0.which),(dU8 p0.v.a0),(dU8 p0.v.a1),(dU8 p0.v.a2),(dU8 p0.v.a3),(dU8 p0.v.a4),(dU8 p0.v.a5),(dU8 p0.v.a6),(dU8 p0.v.a7)][1+v6.toNat]? = some (.lit (.int .u8 x5))from zxc (a:=1) (i:=v6) g6 (fun x=>(.lit (.int .u8 x):D)) rfl),zaS (n:=3) (e:=zab) rfl g8,zh8 g10,zjU g10]
   replace j10:=qae j10; subst j10;exact lfj hT10 rfl (wm0 [.k,.k,.k] ⟨MB.cs ⟨qdn,qdn,qdn,qdn,qdn,qdn,qdn,qdn,qdn,qdn⟩,⟨MB.cs ⟨qdn,qdn,qdn⟩,⟨MB.gs (eI .i64) true l2,qdn⟩⟩⟩)
  rintro v7 rfl;rw[congrFun hT10 v7];refine zaa ?_;obtain⟨y11,g12,j5⟩:=bind_some j5;try simp only[rnA,Nat.reduceEqDiff,Nat.reduceLT,Nat.reduceAdd,Nat.reduceLeDiff,zdP g12,(show l2.length+1=y11.length from zcN g12),(show l2.map ((eI .i64).c true)++ [[(dI v7)]]=y11.map ((eI .i64).c true)from zdg g12 ((eI .i64).c true))]
  exact⟨((w64 (v6+1)),y11),j5,by rw[hT9]; exact wm0 [.k,.k,.k] ⟨MB.cs ⟨qdn,qdn,qdn,qdn,qdn,qdn,qdn,qdn,qdn,qdn⟩,⟨MB.cs ⟨qdn,qdn,qdn⟩,⟨MB.gs (eI .i64) true y11,qdn⟩⟩⟩⟩
 rintro l2 rfl;rw[congrFun hT5 l2];refine zaa ?_;try simp only[rnA,Nat.reduceEqDiff,Nat.reduceLT]
 replace h:=qae h; subst h;exact zeb.ret rfl (zcn (e:=(eI .i64)) (t:=true) rfl (.inr rfl) rfl rfl (fun k h=>nomatch h) (fun _=>rfl))
def zbt(p0:S_haruspexlaw09_Ask)(p1:Int):Option Int:=
(zpW (IntKind.u64.wrap p0.v) (IntKind.u64.wrap (zcC p1 1))).bind fun q1=>
some (w64 q1)
theorem ziK{p0:S_haruspexlaw09_Ask}{p1:Int}{r:Int}(h:zbt p0 p1=some r):Lx.Fn mC 26 [(.agg [(dU8 p0.known.which),(dU8 p0.known.v.a0),(dU8 p0.known.v.a1),(dU8 p0.known.v.a2),(dU8 p0.known.v.a3),(dU8 p0.known.v.a4),(dU8 p0.known.v.a5),(dU8 p0.known.v.a6),(dU8 p0.known.v.a7),(dI p0.v),(dU8 p0.l.a0),(dU8 p0.l.a1),(dU8 p0.l.a2),(dU8 p0.l.a3),(dU8 p0.l.a4),(dU8 p0.l.a5),(dU8 p0.l.a6),(dU8 p0.l.a7),(fzE false (eI .i64) p0.e),(fzE false (eI .i64) p0.order)]),(dI p1)] (dI r):=by
 refine fnO (by conv=>lhs; cbv) ?_;unfold zbt at h;refine zaa ?_;obtain⟨q1,g2,h⟩:=bind_some h;try simp only[rnA,Nat.reduceEqDiff,reduceIte,Nat.reduceLT,Nat.reduceAdd,Nat.reduceLeDiff,Nat.reduceMul,Nat.reduceSub,Int.reduceLE,Int.reduceLT,Int.reduceBEq,Nat.reduceBEq,reduceCtorEq,zeH,zea,zh8 g2,zjU g2]
 replace h:=qae h; subst h;exact zeb.ret rfl (.lit _)
def zcL(p0:Int)(p1:Int)(p2:A8_Intu8):Nat→(List Int)→Int→Option (List Int)
 | 0,_,_=>none
 | n+1,v7,v8=>(
bif (decide (v8<p0))then(
((bif (v8 == p1)then(
some v7)
else(
(za3 [p2.a0,p2.a1,p2.a2,p2.a3,p2.a4,p2.a5,p2.a6,p2.a7] (v8.tmod 8)).bind fun x3=>
(zpW (w64 x3) (w64 ((v7.length:Int)+1))).bind fun q5=>
(zdd v7 0 q5).bind fun y7=>
(ze3 8 y7).bind fun y9=>
(zem 8 y7 [v8]).bind fun y11=>
(zdd v7 q5 v7.length).bind fun y13=>
(zem 8 y11 y13).bind fun y15=>
some y15):Option (List Int))).bind fun v7'=>
zcL p0 p1 p2 n v7' (w64 (v8+1)))
else(
some v7))
def zdV(p0:Int)(p1:Int)(p2:A8_Intu8):Option (List Int):=
((zcL p0 p1 p2 (p0 - 0+2:Int).toNat [] 0:Option (List Int))).bind fun v7=>
some v7
def ze2(p0:S_haruspexlaw09_Ask)(p1:S_api_Net):Option A4_S_haruspexlaw09_Ask:=
(zbw p0.known p1).bind fun r1=>
(zbt p0 (p1.nodes.length:Int)).bind fun r3=>
(zdd p0.e 0 (zcF (p0.e.length:Int) 10)).bind fun y5=>
(zdd p0.order 0 (zcF (p0.order.length:Int) 10)).bind fun y7=>
(zdV (p1.nodes.length:Int) r3 p0.l).bind fun r9=>
some (A4_S_haruspexlaw09_Ask.mk (S_haruspexlaw09_Ask.mk (S_haruspexref05_Known.mk 0 (A8_Intu8.mk 0 0 0 0 0 0 0 0)) r3 (A8_Intu8.mk 0 0 0 0 0 0 0 0) r1 r9) (S_haruspexlaw09_Ask.mk (S_haruspexref05_Known.mk 0 (A8_Intu8.mk 0 0 0 0 0 0 0 0)) r3 (A8_Intu8.mk 0 0 0 0 0 0 0 0) y5 r9) (S_haruspexlaw09_Ask.mk (S_haruspexref05_Known.mk 0 (A8_Intu8.mk 0 0 0 0 0 0 0 0)) p0.v (A8_Intu8.mk 0 0 0 0 0 0 0 0) r1 r9) (S_haruspexlaw09_Ask.mk (S_haruspexref05_Known.mk 0 (A8_Intu8.mk 0 0 0 0 0 0 0 0)) r3 (A8_Intu8.mk 0 0 0 0 0 0 0 0) r1 y7))
end Go.Dc
