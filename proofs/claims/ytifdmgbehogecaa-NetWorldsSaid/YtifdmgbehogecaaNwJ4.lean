/-
 What r02_Draft_Cards computes. Conditions: none.
-/
import Derived.Test.YtifdmgbehogecaaNwJ3
set_option linter.unusedSimpArgs false
set_option linter.unusedVariables false
set_option maxRecDepth 100000
set_option maxHeartbeats 4000000
namespace Go.Dc
open Go Go.Mx Go.Lx Go.Proofs
def za7(p0:S_haruspexref02_Draft):Nat→Int→(List Int)→Option (List Int)
 | 0,_,_=>none
 | n+1,v4,l1=>(
((bif (decide (v4<(p0.c.length:Int)))then(
some (decide (v4<5)))
else(
some false):Option Bool)).bind fun v13=>
bif v13 then(
(zaF p0.c v4).bind fun x3=>
(zd6 8 l1 [(w64 (1+(w64 (x3.tmod 4))))]).bind fun y5=>
za7 p0 n (w64 (v4+1)) y5)
else(
some l1))
def zbF(N:Nat)(p0:S_haruspexref02_Draft):Option (List Int):=
((za7 p0 N 0 []:Option (List Int))).bind fun l1=>
some l1
theorem zgi{N:Nat}{p0:S_haruspexref02_Draft}{r:(List Int)}(h:zbF N p0=some r):Lx.Fn mC 79 [(.agg [(fzE false (eI .u8) p0.c),(.lit (.int .u16 p0.which)),(fzE false (eI .u8) p0.order)])] (fzE true (eI .i64) r):=by
 refine fnO (by conv=>lhs; cbv) ?_;unfold zbF at h;refine zab ?_;try simp only[rnA,Nat.reduceLT]
 obtain⟨o5,j5,h⟩:=bind_some h;obtain⟨T5,hT5⟩:=mkT fun a:(List Int)=>⟨28,[(3,(.sl 1 0 1 a.length none a.length))],[.gone,.grow 1 (a.map ((eI .i64).c true))]⟩
 refine EvL.jn T5 (fun a=>a=o5) ?_ ?_
 ·refine zab ?_;simp only[rnA];obtain⟨T9,hT9⟩:=mkT fun a:(Int×(List Int))=>⟨28,[(1,(.ptr 0 0)),(3,(.sl 1 0 1 a.2.length none a.2.length)),(4,(dI a.1))],[.cells [(fzE false (eI .u8) p0.c),(.lit (.int .u16 p0.which)),(fzE false (eI .u8) p0.order)],.grow 1 (a.2.map ((eI .i64).c true))]⟩
  refine EvL.zec (zbx.ghost (n:=1) (k:=3) (by decide) rfl) ?_;refine EvL.rounds (α:=(Int×(List Int))) T9 (fun n a=>za7 p0 n a.1 a.2=some o5) N (0,[]) (by rw[hT9]; exact wm0 [.k,.k] ⟨MB.cs ⟨qcK,qcK,qcK,qcK⟩,⟨MB.gs (eI .i64) true [],qcK⟩⟩) j5 (fun _ h=>nomatch (show(none:Option (List Int))=some o5 from h)) ?_;rintro n ⟨v4,l1⟩ j5;simp only[za7]at j5;rw[congrFun hT9 (v4,l1)];refine zab ?_;try simp only[rnA]
  obtain⟨o10,j10,j5⟩:=bind_some j5;obtain⟨T10,hT10⟩:=mkT fun a:Bool=>⟨28,[(1,(.ptr 0 0)),(3,(.sl 1 0 1 l1.length none l1.length)),(4,(dI v4)),(13,(dB a))],[.cells [(fzE false (eI .u8) p0.c),(.lit (.int .u16 p0.which)),(fzE false (eI .u8) p0.order)],.grow 1 (l1.map ((eI .i64).c true))]⟩
  refine EvL.jn T10 (fun a=>a=o10) ?_ ?_
  ·refine zab ?_;try simp only[rnA,Nat.reduceEqDiff,Nat.reduceLT,zaj]
   cases c1:(decide (v4<(p0.c.length:Int)))
   ·rw[c1,cond_false]at j10;try simp only[rnA,Nat.reduceEqDiff,Nat.reduceLT]
    replace j10:=qab j10; subst j10;exact lfj hT10 rfl (wm0 [.k,.k] ⟨MB.cs ⟨qcK,qcK,qcK,qcK⟩,⟨MB.gs (eI .i64) true l1,qcK⟩⟩)
   rw[c1,cond_true]at j10;try simp only[rnA,Nat.reduceEqDiff,Nat.reduceLT]
   replace j10:=qab j10; subst j10;exact lfj hT10 rfl (wm0 [.k,.k] ⟨MB.cs ⟨qcK,qcK,qcK,qcK⟩,⟨MB.gs (eI .i64) true l1,qcK⟩⟩)
  rintro v13 rfl;rw[congrFun hT10 v13];refine zab ?_;try simp only[rnA,Nat.reduceEqDiff]
  cases c2:v13
  ·rw[c2,cond_false]at j5;try simp only[rnA]
   replace j5:=qab j5; subst j5;exact lfj hT5 rfl (wm0 [.d,.k] ⟨rfl,⟨MB.gs (eI .i64) true l1,qcK⟩⟩)
  rw[c2,cond_true]at j5;obtain⟨x3,g4,j5⟩:=bind_some j5;obtain⟨y5,g6,j5⟩:=bind_some j5;try simp only[rnA,Nat.reduceEqDiff,Nat.reduceLT,Nat.reduceAdd,Nat.reduceLeDiff,Int.reduceBEq,zai (n:=1) (e:=(eI .u8)) rfl g4,zcL g6,(show l1.length+1=y5.length from zbU g6),(show l1.map ((eI .i64).c true)++ [[(dI (w64 (1+(w64 (x3.tmod 4)))))]]=y5.map ((eI .i64).c true)from zcr g6 ((eI .i64).c true))]
  exact⟨((w64 (v4+1)),y5),j5,by rw[hT9]; exact wm0 [.k,.k] ⟨MB.cs ⟨qcK,qcK,qcK,qcK⟩,⟨MB.gs (eI .i64) true y5,qcK⟩⟩⟩
 rintro l1 rfl;rw[congrFun hT5 l1];refine zab ?_;try simp only[rnA,Nat.reduceEqDiff,Nat.reduceLT]
 replace h:=qab h; subst h;exact zbe.ret rfl (zal (e:=(eI .i64)) (t:=true) rfl (.inr rfl) rfl rfl (fun k h=>nomatch h) (fun _=>rfl))
def zaB(N:Nat)(p0:S_haruspexref02_Draft):Nat→Int→(List Int)→Option (List Int)
 | 0,_,_=>none
 | n+1,v4,l1=>(
(zbF N p0).bind fun r1=>
bif (decide (v4<(r1.length:Int)))then(
((bif (decide (v4<(p0.order.length:Int)))then(
(zaF p0.order v4).bind fun x5=>
(zj6 (w64 x5) (w64 (v4+1))).bind fun q7=>
some q7)
else(
some 0):Option Int)).bind fun v5=>
(zcX l1 0 v5).bind fun y9=>
(zir 8 y9).bind fun y11=>
(zd6 8 y9 [v4]).bind fun y13=>
(zcX l1 v5 l1.length).bind fun y15=>
(zd6 8 y13 y15).bind fun y17=>
zaB N p0 n (w64 (v4+1)) y17)
else(
some l1))
def zaX(N:Nat)(p0:S_haruspexref02_Draft):Option (List Int):=
((zaB N p0 N 0 []:Option (List Int))).bind fun l1=>
some l1
theorem zeq{N:Nat}{p0:S_haruspexref02_Draft}{r:(List Int)}(h:zaX N p0=some r):Lx.Fn mC 58 [(.agg [(fzE false (eI .u8) p0.c),(.lit (.int .u16 p0.which)),(fzE false (eI .u8) p0.order)])] (fzE true (eI .i64) r):=by
 refine fnO (by conv=>lhs; cbv) ?_;unfold zaX at h;refine zab ?_;try simp only[rnA,Nat.reduceLT]
 obtain⟨o5,j5,h⟩:=bind_some h;obtain⟨T5,hT5⟩:=mkT fun a:(List Int)=>⟨42,[(3,(.sl 1 0 1 a.length none a.length))],[.gone,.grow 1 (a.map ((eI .i64).c true))]⟩
 refine EvL.jn T5 (fun a=>a=o5) ?_ ?_
 ·refine zab ?_;simp only[rnA];obtain⟨T9,hT9⟩:=mkT fun a:(Int×(List Int))=>⟨42,[(1,(.ptr 0 0)),(3,(.sl 1 0 1 a.2.length none a.2.length)),(4,(dI a.1))],[.cells [(fzE false (eI .u8) p0.c),(.lit (.int .u16 p0.which)),(fzE false (eI .u8) p0.order)],.grow 1 (a.2.map ((eI .i64).c true))]⟩
  refine EvL.zec (zbx.ghost (n:=1) (k:=3) (by decide) rfl) ?_;refine EvL.rounds (α:=(Int×(List Int))) T9 (fun n a=>zaB N p0 n a.1 a.2=some o5) N (0,[]) (by rw[hT9]; exact wm0 [.k,.k] ⟨MB.cs ⟨qcK,qcK,qcK,qcK⟩,⟨MB.gs (eI .i64) true [],qcK⟩⟩) j5 (fun _ h=>nomatch (show(none:Option (List Int))=some o5 from h)) ?_;rintro n ⟨v4,l1⟩ j5;simp only[zaB]at j5;rw[congrFun hT9 (v4,l1)];refine zab ?_;obtain⟨r1,g2,j5⟩:=bind_some j5;try simp only[rnA,Nat.reduceEqDiff,Nat.reduceLT,Nat.reduceAdd,Nat.reduceLeDiff]
  refine EvL.fn (zgi g2) rfl rfl (.cons (.zcp (.cons (zao _ _ (fun h=>nomatch h)) (.cons (.lit _) (.cons (zao _ _ (fun h=>nomatch h)) .nil)))) .nil) ?_;try simp only[rnA,Nat.reduceEqDiff,Nat.reduceLT,zaj]
  cases c3:(decide (v4<(r1.length:Int)))
  ·rw[c3,cond_false]at j5;try simp only[rnA]
   replace j5:=qab j5; subst j5;exact lfj hT5 rfl (wm0 [.d,.k] ⟨rfl,⟨MB.gs (eI .i64) true l1,qcK⟩⟩)
  rw[c3,cond_true]at j5;try simp only[rnA,Nat.reduceEqDiff,Nat.reduceLT,zaj]
  obtain⟨o10,j10,j5⟩:=bind_some j5;obtain⟨T10,hT10⟩:=mkT fun a:Int=>⟨42,[(1,(.ptr 0 0)),(3,(.sl 1 0 1 l1.length none l1.length)),(4,(dI v4)),(5,(dI a))],[.cells [(fzE false (eI .u8) p0.c),(.lit (.int .u16 p0.which)),(fzE false (eI .u8) p0.order)],.grow 1 (l1.map ((eI .i64).c true))]⟩
  refine EvL.jn T10 (fun a=>a=o10) ?_ ?_
  ·refine zab ?_;try simp only[rnA,Nat.reduceEqDiff]
   cases c4:(decide (v4<(p0.order.length:Int)))
   ·rw[c4,cond_false]at j10;try simp only[rnA]
    replace j10:=qab j10; subst j10;exact lfj hT10 rfl (wm0 [.k,.k] ⟨MB.cs ⟨qcK,qcK,qcK,qcK⟩,⟨MB.gs (eI .i64) true l1,qcK⟩⟩)
   rw[c4,cond_true]at j10;obtain⟨x5,g6,j10⟩:=bind_some j10;obtain⟨q7,g8,j10⟩:=bind_some j10;try simp only[rnA,Nat.reduceEqDiff,Nat.reduceLT,zai (n:=1) (e:=(eI .u8)) rfl g6,zfL g8,zgG g8]
   replace j10:=qab j10; subst j10;exact lfj hT10 rfl (wm0 [.k,.k] ⟨MB.cs ⟨qcK,qcK,qcK,qcK⟩,⟨MB.gs (eI .i64) true l1,qcK⟩⟩)
  rintro v5 rfl;rw[congrFun hT10 v5];refine EvL.zec (S':=⟨42,[(1,(.ptr 0 0)),(3,(fzE true (eI .i64) l1)),(4,(dI v4)),(5,(dI v5))],[.cells [(fzE false (eI .u8) p0.c),(.lit (.int .u16 p0.which)),(fzE false (eI .u8) p0.order)]]⟩) (zbx.m0 [.k,.f] rfl (msq (mf rfl (zei (e:=(eI .i64)) (t:=true) rfl rfl (.inr rfl) rfl rfl (fun k h=>nomatch h) (fun h=>by cases h<;>rfl)) (msq (msq trivial)))) ⟨MB.cs ⟨qcK,qcK,qcK,qcK⟩,qcK⟩) (zab ?_);obtain⟨y9,g10,j5⟩:=bind_some j5;obtain⟨y11,g12,j5⟩:=bind_some j5;obtain⟨y13,g14,j5⟩:=bind_some j5;obtain⟨y15,g16,j5⟩:=bind_some j5;obtain⟨y17,g18,j5⟩:=bind_some j5;try simp only[rnA,Nat.reduceEqDiff,Nat.reduceLT,Nat.reduceAdd,Nat.reduceLeDiff,ziE (n:=1) (e:=(eI .i64)) rfl g10,zdK (n:=1) (e:=(eI .i64)) rfl,zoZ g12,zcL g14,(show y9.length+1=y13.length from zbU g14),(show y9.map ((eI .i64).c true)++ [[(dI v4)]]=y13.map ((eI .i64).c true)from zcr g14 ((eI .i64).c true)),zvw (n:=1) (e:=(eI .i64)) rfl g16,zcL g18,(show y13.length+y15.length=y17.length from zbU g18),(show y13.map ((eI .i64).c true)++ y15.map ((eI .i64).c true)=y17.map ((eI .i64).c true)from zcr g18 ((eI .i64).c true))]
  exact⟨((w64 (v4+1)),y17),j5,by rw[hT9]; exact wm0 [.k,.k] ⟨MB.cs ⟨qcK,qcK,qcK,qcK⟩,⟨MB.gs (eI .i64) true y17,qcK⟩⟩⟩
 rintro l1 rfl;rw[congrFun hT5 l1];refine zab ?_;try simp only[rnA,Nat.reduceEqDiff,Nat.reduceLT]
 replace h:=qab h; subst h;exact zbe.ret rfl (zal (e:=(eI .i64)) (t:=true) rfl (.inr rfl) rfl rfl (fun k h=>nomatch h) (fun _=>rfl))
def za8(p0:S_haruspexref05_Draft)(r5:(List Int)):Nat→Int→Int→(List S_api_Node)→Option (List S_api_Node)
 | 0,_,_,_=>none
 | n+1,v6,v7,l2=>(
bif (decide (v7<(zcA (zcV (p0.nodes.length:Int) 1) 5)))then(
((bif (decide (v7<(p0.nodes.length:Int)))then(
(zaF p0.nodes v7).bind fun x9=>
some (x9.card,x9.parents,x9.w))
else(
some (0,0,[])):Option ((Int×Int×(List Int))))).bind fun o=>match o with
|(b4_0,b4_1,b4_2)=>(
(znn .i64 (w64 (v6 * (w64 (2+(w64 (b4_0.tmod 2)))))) (IntKind.u64.wrap (w64 ((w64 ((zcA (zcV (p0.nodes.length:Int) 1) 5) - 1)) - v7)))).bind fun q11=>
((bif (decide (100<q11))then(
some 2)
else(
some (w64 (2+(w64 (b4_0.tmod 2))))):Option Int)).bind fun v9=>
(zaF r5 v7).bind fun x14=>
(zaF l2 x14).bind fun x16=>
(zgt l2 x14 (S_api_Node.mk v9 x16.parents x16.rows)).bind fun y18=>
za8 p0 r5 n (w64 (v6 * v9)) (w64 (v7+1)) y18))
else(
some l2))
def zbu(N:Nat)(p0:S_haruspexref05_Draft)(r5:(List Int)):Nat→Int→(List S_api_Node)→Option (List S_api_Node)
 | 0,_,_=>none
 | n+1,v10,l2'=>(
bif (decide (v10<(zcA (zcV (p0.nodes.length:Int) 1) 5)))then(
((bif (decide (v10<(p0.nodes.length:Int)))then(
(zaF p0.nodes v10).bind fun x22=>
some (x22.card,x22.parents,x22.w))
else(
some (0,0,[])):Option ((Int×Int×(List Int))))).bind fun o=>match o with
|(b4_0,b4_1,b4_2)=>(
(zaF r5 v10).bind fun x24=>
(zlO r5 v10 x24 (zcA (zcV (p0.nodes.length:Int) 1) 5) b4_1 l2').bind fun y26=>
(zmt N (w64 (1+(w64 (p0.grain.tmod 60)))) x24 b4_2 y26).bind fun y28=>
zbu N p0 r5 n (w64 (v10+1)) y28))
else(
some l2'))
def zbn(N:Nat)(p0:S_haruspexref05_Draft):Option S_api_Net:=
(zfE 56 (zcA (zcV (p0.nodes.length:Int) 1) 5) (S_api_Node.mk 0 [] [])).bind fun y1=>
(zfE 1 (zcA (zcV (p0.nodes.length:Int) 1) 5) 0).bind fun y3=>
(zaX N (S_haruspexref02_Draft.mk y3 0 p0.order)).bind fun r5=>
((za8 p0 r5 ((zcA (zcV (p0.nodes.length:Int) 1) 5) - 0+2:Int).toNat 1 0 y1:Option (List S_api_Node))).bind fun l2=>
((zbu N p0 r5 ((zcA (zcV (p0.nodes.length:Int) 1) 5) - 0+2:Int).toNat 0 l2:Option (List S_api_Node))).bind fun l2'=>
some (S_api_Net.mk (w64 (1+(w64 (p0.grain.tmod 60)))) l2')
def zfb:C:=
 .seq (rg [oW 1 0,
 ⟨some 2,.alloc [(.int .i64 0),(.slice none 0 0)],none⟩])
 (.seq (rg [oF 16 1 1,
 oL 17 16,
 oE 18 17,
 ⟨some 19,.mm true [(.s 18),(.c (.int .i64 1))],none⟩,
 ⟨some 20,.mm false [(.s 19),(.c (.int .i64 5))],none⟩,
 oM 3 20])
 (.seq (.reg true false [oF 21 0 1,
 oL 22 21,
 ⟨some 23,.bin .rem (.s 22) (.c (.int .u8 60)),none⟩,
 ⟨some 24,.conv .i64 (.s 23),none⟩,
 ⟨some 25,.bin .add (.c (.int .i64 1)) (.s 24),none⟩,
 oM 26 3,
 ⟨some 27,.mk 3 56 [(.int .i64 0),(.slice none 0 0),(.slice none 0 0)] (.s 26) (.s 26),none⟩,
 ⟨some 28,.build [(.int .i64 0),(.slice none 0 0)] [(0,1,(.s 25)),(1,1,(.s 27))],none⟩,
 ⟨some 4,.alloc [(.int .i64 0),(.slice none 0 0)],none⟩,
 oS 2 4 28])
 (.seq (.reg true false [oM 29 3,
 oF 31 2 1,
 oL 32 31,
 ⟨some 30,.mk 1 1 [(.int .u8 0)] (.s 29) (.s 29),none⟩,
 ⟨some 33,.build [(.slice none 0 0),(.int .u16 0),(.slice none 0 0)] [(0,1,(.s 30)),(2,1,(.s 32))],none⟩,
 oU 34 58 33,
 oM 5 34])
 (.seq (rg [oK 6 1])
 (.seq (.seq (rg [oK 7 0])
 (.scope (.block 0 (.loop (.seq (.seq (rg [oM 35 7,
 oM 36 3,
 oB 37 .lss 35 36])
 (.cond (.s 37) (.skip)
 (.exit 0)))
 (.seq (.block 1 (.seq (rg [⟨some 8,.alloc [(.int .u8 0),(.int .u8 0),(.slice none 0 0)],none⟩])
 (.seq (.seq (rg [oM 40 7,
 oF 41 1 1,
 oL 42 41,
 oE 43 42,
 oB 44 .lss 40 43])
 (.scope (.cond (.s 44) (rg [oF 45 1 1,
 oL 46 45,
 oM 47 7,
 oI 48 3 46 47,
 oN 49 3 48,
 oS 3 8 49])
 (.skip))))
 (.seq (rg [oF 50 0 8,
 oL 51 50,
 ⟨some 52,.bin .rem (.s 51) (.c (.int .u8 2)),none⟩,
 ⟨some 53,.conv .i64 (.s 52),none⟩,
 ⟨some 54,.bin .add (.c (.int .i64 2)) (.s 53),none⟩,
 oM 9 54])
 (.seq (.seq (rg [oM 55 6,
 oM 56 9,
 oB 57 .mul 55 56,
 oM 58 3,
 oD 59 .sub 58 1,
 oM 60 7,
 oB 61 .sub 59 60,
 ⟨some 62,.conv .u64 (.s 61),none⟩,
 oB 63 .shl 57 62,
 oD 64 .gtr 63 100])
 (.scope (.cond (.s 64) (rg [oK 9 2])
 (.skip))))
 (.seq (rg [oM 65 6,
 oM 66 9,
 oB 67 .mul 65 66,
 oM 6 67])
 (.reg true false [oF 68 1 4,
 oL 69 68,
 oM 70 5,
 oM 71 7,
 oI 72 1 70 71,
 oL 73 72,
 oM 74 9,
 oI 75 3 69 73,
 oF 76 0 75,
 oS 1 76 74])))))))
 (rg [oM 38 7,
 oD 39 .add 38 1,
 oM 7 39])))))))
 (.seq (.seq (rg [oK 10 0])
 (.scope (.block 2 (.loop (.seq (.seq (rg [oM 77 10,
 oM 78 3,
 oB 79 .lss 77 78])
 (.cond (.s 79) (.skip)
 (.exit 2)))
 (.seq (.block 3 (.seq (rg [⟨some 11,.alloc [(.int .u8 0),(.int .u8 0),(.slice none 0 0)],none⟩])
 (.seq (.seq (rg [oM 82 10,
 oF 83 1 1,
 oL 84 83,
 oE 85 84,
 oB 86 .lss 82 85])
 (.scope (.cond (.s 86) (rg [oF 87 1 1,
 oL 88 87,
 oM 89 10,
 oI 90 3 88 89,
 oN 91 3 90,
 oS 3 11 91])
 (.skip))))
 (.seq (rg [oM 92 5,
 oM 93 10,
 oI 94 1 92 93,
 oL 95 94,
 oM 12 95])
 (.seq (.seq (rg [oK 13 0])
 (.scope (.block 4 (.loop (.seq (.seq (rg [oM 96 13,
 oM 97 3,
 oB 98 .lss 96 97])
 (.cond (.s 98) (.skip)
 (.exit 4)))
 (.seq (.block 5 (.seq (rg [oK 14 0])
 (.scope (.block 6 (.loop (.seq (.seq (rg [oM 101 14,
 oM 102 10,
 oB 103 .lss 101 102])
 (.cond (.s 103) (.skip)
 (.exit 6)))
 (.seq (.block 7 (.seq (.scope (rg [oM 106 5,
 oM 107 14,
 oI 108 1 106 107,
 oL 109 108,
 oM 110 13,
 oB 111 .eql 109 110,
 oM 112 111,
 oFg 113 1 11 112 true,
 oLg 114 113 112 true,
 oMg 115 14 112 true,
 ⟨some 116,.conv .u64 (.s 115),some (112,true)⟩,
 ⟨some 117,.bin .shr (.s 114) (.s 116),some (112,true)⟩,
 ⟨some 118,.bin .and (.s 117) (.c (.int .u8 1)),some (112,true)⟩,
 ⟨some 119,.bin .eql (.s 118) (.c (.int .u8 1)),some (112,true)⟩,
 ⟨some 120,.pick (.s 112) (.s 119) (.c (.bool false)),none⟩,
 oM 121 120,
 oFg 122 1 4 121 true,
 oLg 123 122 121 true,
 oMg 124 12 121 true,
 ⟨some 125,.idxS 3 (.s 123) (.s 124),some (121,true)⟩,
 oFg 126 1 125 121 true,
 oLg 127 126 121 true,
 ⟨some 128,.len (.s 127),some (121,true)⟩,
 oDg 129 .lss 128 3 121 true,
 ⟨some 130,.pick (.s 121) (.s 129) (.c (.bool false)),none⟩]))
 (.scope (.cond (.s 130) (.reg true false [oF 131 1 4,
 oL 132 131,
 oM 133 12,
 oF 134 1 4,
 oL 135 134,
 oM 136 12,
 oI 137 3 135 136,
 oF 138 1 137,
 oL 139 138,
 oM 140 13,
 ⟨some 141,.bsl 1 1 [(.int .i64 0)] [(0,(.s 140))],none⟩,
 ⟨none,.avo [(.s 131)] (.s 139),none⟩,
 oT 142 1 8 139 141,
 oI 143 3 132 133,
 oF 144 1 143,
 oS 1 144 142])
 (.skip)))))
 (rg [oM 104 14,
 oD 105 .add 104 1,
 oM 14 105]))))))))
 (rg [oM 99 13,
 oD 100 .add 99 1,
 oM 13 100])))))))
 (.seq (rg [oK 15 0])
 (.scope (.block 8 (.loop (.seq (.seq (rg [oM 145 15,
 oN 146 2 4,
 oM 147 12,
 oV 148 52 146 147,
 oU 149 51 148,
 oB 150 .lss 145 149])
 (.cond (.s 150) (.skip)
 (.exit 8)))
 (.seq (.block 9 (.reg true true [oF 153 1 4,
 oL 154 153,
 oM 155 12,
 oF 156 1 4,
 oL 157 156,
 oM 158 12,
 oI 159 3 157 158,
 oF 160 2 159,
 oL 161 160,
 oF 162 0 4,
 oL 163 162,
 oF 164 1 4,
 oL 165 164,
 oM 166 12,
 oI 167 3 165 166,
 oF 168 0 167,
 oL 169 168,
 oF 170 2 11,
 oL 171 170,
 oM 172 15,
 oF 173 1 4,
 oL 174 173,
 oM 175 12,
 oI 176 3 174 175,
 oF 177 0 176,
 oL 178 177,
 oD 179 .add 178 1,
 oB 180 .mul 172 179,
 ⟨some 181,.call 59 [(.s 163),(.s 169),(.s 171),(.s 180)],none⟩,
 ⟨some 182,.bsl 1 1 [(.slice none 0 0)] [(0,(.s 181))],none⟩,
 ⟨none,.avo [(.s 153)] (.s 161),none⟩,
 oT 183 1 24 161 182,
 oI 184 3 154 155,
 oF 185 2 184,
 oS 1 185 183]))
 (rg [oM 151 15,
 oD 152 .add 151 1,
 oM 15 152]))))))))))))
 (rg [oM 80 10,
 oD 81 .add 80 1,
 oM 10 81])))))))
 (.seq (rg [oN 186 2 4,
 oS 2 2 186])
 (.ret))))))))
theorem zgC:zjK mC 16=some (187,zfb,[.cell 2 (some 2)],false):=zbT (by kernel_rfl)
theorem zds{N:Nat}{p0:S_haruspexref05_Draft}{r:S_api_Net}(h:zbn N p0=some r):Lx.Fn mC 16 [(.agg [(dU8 p0.grain),(fzE false zae p0.nodes),(fzE false (eI .u8) p0.order)])] (.agg [(dI r.grain),(fzE true zaa r.nodes)]):=by
 refine Fn.of zgC (zbE rfl) (qah rfl) ?_;unfold zbn at h;simp only[zfb,zeJ];refine zab ?_;obtain⟨y1,g2,h⟩:=bind_some h;obtain⟨y3,g4,h⟩:=bind_some h;obtain⟨r5,g6,h⟩:=bind_some h;try simp only[rnA,Nat.reduceEqDiff,Nat.reduceLT,Nat.reduceAdd,Nat.reduceLeDiff,Int.reduceBEq,reduceCtorEq,zaj,(zbD g2).1.1,(zbD g2).1.2,qca,(show List.replicate (Int.toNat (zcA (zcV (p0.nodes.length:Int) 1) 5)) [(dI 0),zb3,zb3]=y1.map (zag.c true)from zdS g2 (zag.c true)),(zbD g4).1.2,(show List.replicate (Int.toNat (zcA (zcV (p0.nodes.length:Int) 1) 5)) [(dU8 0)]=y3.map ((eI .u8).c true)from zdS g4 ((eI .u8).c true))]
 refine EvL.fn (zeq g6) rfl rfl (.cons (.zcp (.cons (zal (e:=(eI .u8)) (t:=true) rfl (.inl rfl) (zdi g4).symm (zdi g4).symm (fun k h=>by cases h; exact qal _) (fun h=>nomatch h)) (.cons (.lit _) (.cons (zao _ _ (fun h=>nomatch h)) .nil)))) .nil) ?_;try simp only[rnA,Nat.reduceEqDiff,Nat.reduceLT,reduceCtorEq]
 obtain⟨o7,j7,h⟩:=bind_some h;obtain⟨T7,hT7⟩:=mkT fun a:(List S_api_Node)=>⟨187,[(1,(.ptr 0 0)),(2,(.ptr 1 0)),(3,(dI (zcA (zcV (p0.nodes.length:Int) 1) 5))),(4,(.ptr 3 0)),(5,(fzE true (eI .i64) r5))],[.cells [(dU8 p0.grain),(fzE false zae p0.nodes),(fzE false (eI .u8) p0.order)],.cells [(dI 0),zb3],.els 3 (a.map (zag.c true)),.cells [(dI (w64 (1+(w64 (p0.grain.tmod 60))))),(.sl 2 0 3 (Int.toNat (zcA (zcV (p0.nodes.length:Int) 1) 5)) (some (Int.toNat (zcA (zcV (p0.nodes.length:Int) 1) 5))) (Int.toNat (zcA (zcV (p0.nodes.length:Int) 1) 5)))]]⟩
 refine EvL.jn T7 (fun a=>a=o7∧a.length=(Int.toNat (zcA (zcV (p0.nodes.length:Int) 1) 5))) ?_ ?_
 ·refine zab ?_;simp only[rnA];obtain⟨T12,hT12⟩:=mkT fun a:(Int×Int×(List S_api_Node))=>⟨187,[(1,(.ptr 0 0)),(2,(.ptr 1 0)),(3,(dI (zcA (zcV (p0.nodes.length:Int) 1) 5))),(4,(.ptr 3 0)),(5,(fzE true (eI .i64) r5)),(6,(dI a.1)),(7,(dI a.2.1))],[.cells [(dU8 p0.grain),(fzE false zae p0.nodes),(fzE false (eI .u8) p0.order)],.cells [(dI 0),zb3],.els 3 (a.2.2.map (zag.c true)),.cells [(dI (w64 (1+(w64 (p0.grain.tmod 60))))),(.sl 2 0 3 (Int.toNat (zcA (zcV (p0.nodes.length:Int) 1) 5)) (some (Int.toNat (zcA (zcV (p0.nodes.length:Int) 1) 5))) (Int.toNat (zcA (zcV (p0.nodes.length:Int) 1) 5)))]]⟩
  refine EvL.rounds (α:=(Int×Int×(List S_api_Node))) T12 (fun n a=>za8 p0 r5 n a.1 a.2.1 a.2.2=some o7∧a.2.2.length=(Int.toNat (zcA (zcV (p0.nodes.length:Int) 1) 5))) ((zcA (zcV (p0.nodes.length:Int) 1) 5) - 0+2:Int).toNat (1,0,y1) (by rw[hT12]; exact wm0 [.k,.k,.k,.k] ⟨MB.cs ⟨qcK,qcK,qcK,qcK⟩,⟨MB.cs ⟨qcK,qcK,qcK⟩,⟨MB.es zag true y1,⟨MB.cs ⟨qcK,rfl,qcK⟩,qcK⟩⟩⟩⟩) ⟨j7,zdi g2⟩ (fun _ h=>nomatch (show(none:Option (List S_api_Node))=some o7 from h.1)) ?_;rintro n ⟨v6,v7,l2⟩ ⟨j7,el2⟩;simp only[za8]at j7;rw[congrFun hT12 (v6,v7,l2)];refine zab ?_;try simp only[rnA,Nat.reduceEqDiff,Nat.reduceLT]
  cases c7:(decide (v7<(zcA (zcV (p0.nodes.length:Int) 1) 5)))
  ·rw[c7,cond_false]at j7;try simp only[rnA]
   replace j7:=qab j7; subst j7;exact⟨_,⟨rfl,el2⟩,by rw[hT7]; exact wm0 [.k,.k,.k,.k] ⟨MB.cs ⟨qcK,qcK,qcK,qcK⟩,⟨MB.cs ⟨qcK,qcK,qcK⟩,⟨MB.es zag true l2,⟨MB.cs ⟨qcK,rfl,qcK⟩,qcK⟩⟩⟩⟩⟩
  rw[c7,cond_true]at j7;try simp only[rnA,Nat.reduceEqDiff,Nat.reduceLT,Nat.reduceAdd,zaj]
  obtain⟨o13,j13,j7⟩:=bind_some j7;obtain⟨T13,hT13⟩:=mkT fun a:(Int×Int×(List Int))=>⟨187,[(1,(.ptr 0 0)),(2,(.ptr 1 0)),(3,(dI (zcA (zcV (p0.nodes.length:Int) 1) 5))),(4,(.ptr 3 0)),(5,(fzE true (eI .i64) r5)),(6,(dI v6)),(7,(dI v7)),(8,(.ptr 4 0))],[.cells [(dU8 p0.grain),(fzE false zae p0.nodes),(fzE false (eI .u8) p0.order)],.cells [(dI 0),zb3],.els 3 (l2.map (zag.c true)),.cells [(dI (w64 (1+(w64 (p0.grain.tmod 60))))),(.sl 2 0 3 (Int.toNat (zcA (zcV (p0.nodes.length:Int) 1) 5)) (some (Int.toNat (zcA (zcV (p0.nodes.length:Int) 1) 5))) (Int.toNat (zcA (zcV (p0.nodes.length:Int) 1) 5)))],.cells [(dU8 a.1),(dU8 a.2.1),(fzE false (eI .u8) a.2.2)]]⟩
  refine EvL.jn T13 (fun a=>a=o13) ?_ ?_
  ·refine zab ?_;try simp only[rnA,Nat.reduceEqDiff]
   cases c8:(decide (v7<(p0.nodes.length:Int)))
   ·rw[c8,cond_false]at j13;try simp only[rnA]
    replace j13:=qab j13; subst j13;exact lfj hT13 rfl (wm0 [.k,.k,.k,.k,.k] ⟨MB.cs ⟨qcK,qcK,qcK,qcK⟩,⟨MB.cs ⟨qcK,qcK,qcK⟩,⟨MB.es zag true l2,⟨MB.cs ⟨qcK,rfl,qcK⟩,⟨MB.zvV (.cons (.same trivial) (.cons (.same trivial) (.cons (.fr (zsD (eI .u8))) .nil))),qcK⟩⟩⟩⟩⟩)
   rw[c8,cond_true]at j13;obtain⟨x9,g10,j13⟩:=bind_some j13;try simp only[rnA,Nat.reduceEqDiff,Nat.reduceLT,Nat.reduceAdd,Nat.reduceLeDiff,zaA,zai (n:=3) (e:=zae) rfl g10]
   replace j13:=qab j13; subst j13;exact lfj hT13 rfl (wm0 [.k,.k,.k,.k,.k] ⟨MB.cs ⟨qcK,qcK,qcK,qcK⟩,⟨MB.cs ⟨qcK,qcK,qcK⟩,⟨MB.es zag true l2,⟨MB.cs ⟨qcK,rfl,qcK⟩,⟨MB.cs ⟨qcK,qcK,qcK,qcK⟩,qcK⟩⟩⟩⟩⟩)
  rintro⟨b4_0,b4_1,b4_2⟩ rfl;dsimp only at j7;rw[congrFun hT13 (b4_0,b4_1,b4_2)];refine zab ?_;obtain⟨q11,g12,j7⟩:=bind_some j7;try simp only[rnA,Nat.reduceEqDiff,Nat.reduceLT,Int.reduceBEq,(zd2 g12).1,(zd2 g12).2]
  obtain⟨o14,j14,j7⟩:=bind_some j7;obtain⟨T14,hT14⟩:=mkT fun a:Int=>⟨187,[(1,(.ptr 0 0)),(2,(.ptr 1 0)),(3,(dI (zcA (zcV (p0.nodes.length:Int) 1) 5))),(4,(.ptr 3 0)),(5,(fzE true (eI .i64) r5)),(6,(dI v6)),(7,(dI v7)),(9,(dI a))],[.cells [(dU8 p0.grain),(fzE false zae p0.nodes),(fzE false (eI .u8) p0.order)],.cells [(dI 0),zb3],.els 3 (l2.map (zag.c true)),.cells [(dI (w64 (1+(w64 (p0.grain.tmod 60))))),(.sl 2 0 3 (Int.toNat (zcA (zcV (p0.nodes.length:Int) 1) 5)) (some (Int.toNat (zcA (zcV (p0.nodes.length:Int) 1) 5))) (Int.toNat (zcA (zcV (p0.nodes.length:Int) 1) 5)))]]⟩
  refine EvL.jn T14 (fun a=>a=o14) ?_ ?_
  ·refine zab ?_;try simp only[rnA,Nat.reduceEqDiff]
   cases c13:(decide (100<q11))
   ·rw[c13,cond_false]at j14;try simp only[rnA]
    replace j14:=qab j14; subst j14;exact lfj hT14 rfl (wm0 [.k,.k,.k,.k] ⟨MB.cs ⟨qcK,qcK,qcK,qcK⟩,⟨MB.cs ⟨qcK,qcK,qcK⟩,⟨MB.es zag true l2,⟨MB.cs ⟨qcK,rfl,qcK⟩,qcK⟩⟩⟩⟩)
   rw[c13,cond_true]at j14;try simp only[rnA,Nat.reduceLT]
   replace j14:=qab j14; subst j14;exact lfj hT14 rfl (wm0 [.k,.k,.k,.k] ⟨MB.cs ⟨qcK,qcK,qcK,qcK⟩,⟨MB.cs ⟨qcK,qcK,qcK⟩,⟨MB.es zag true l2,⟨MB.cs ⟨qcK,rfl,qcK⟩,qcK⟩⟩⟩⟩)
  rintro v9 rfl;rw[congrFun hT14 v9];refine zab ?_;obtain⟨x14,g15,j7⟩:=bind_some j7;obtain⟨x16,g17,j7⟩:=bind_some j7;obtain⟨y18,g19,j7⟩:=bind_some j7;try simp only[rnA,Nat.reduceEqDiff,Nat.reduceLT,Nat.reduceAdd,Nat.reduceLeDiff,zea,zai (n:=1) (e:=(eI .i64)) rfl g15,el2,zbs g17,(show x14<(((Int.toNat (zcA (zcV (p0.nodes.length:Int) 1) 5)):Nat):Int)from el2 ▸ zbN g17),zbd g17 (zag.c true),(show(l2.map (zag.c true)).set x14.toNat [(dI v9),(nE true (eI .i64) x16.parents),(nE true (eL (eI .i64)) x16.rows)]=y18.map (zag.c true)from zcy g19 (zag.c true))]
  exact⟨((w64 (v6 * v9)),(w64 (v7+1)),y18),⟨j7,(zce g19).trans el2⟩,by rw[hT12]; exact wm0 [.k,.k,.k,.k] ⟨MB.cs ⟨qcK,qcK,qcK,qcK⟩,⟨MB.cs ⟨qcK,qcK,qcK⟩,⟨MB.es zag true y18,⟨MB.cs ⟨qcK,rfl,qcK⟩,qcK⟩⟩⟩⟩⟩
 rintro l2 ⟨rfl,el2⟩;rw[congrFun hT7 l2];refine zab ?_;try simp only[rnA,Nat.reduceLT]
 obtain⟨o18,j18,h⟩:=bind_some h;obtain⟨T18,hT18⟩:=mkT fun a:(List S_api_Node)=>⟨187,[(2,(.ptr 1 0)),(4,(.ptr 3 0))],[.gone,.cells [(dI 0),zb3],.els 3 (a.map (zag.c true)),.cells [(dI (w64 (1+(w64 (p0.grain.tmod 60))))),(.sl 2 0 3 (Int.toNat (zcA (zcV (p0.nodes.length:Int) 1) 5)) (some (Int.toNat (zcA (zcV (p0.nodes.length:Int) 1) 5))) (Int.toNat (zcA (zcV (p0.nodes.length:Int) 1) 5)))]]⟩
 refine EvL.jn T18 (fun a=>a=o18∧a.length=(Int.toNat (zcA (zcV (p0.nodes.length:Int) 1) 5))) ?_ ?_
 ·refine zab ?_;simp only[rnA];obtain⟨T21,hT21⟩:=mkT fun a:(Int×(List S_api_Node))=>⟨187,[(1,(.ptr 0 0)),(2,(.ptr 1 0)),(3,(dI (zcA (zcV (p0.nodes.length:Int) 1) 5))),(4,(.ptr 3 0)),(5,(fzE true (eI .i64) r5)),(10,(dI a.1))],[.cells [(dU8 p0.grain),(fzE false zae p0.nodes),(fzE false (eI .u8) p0.order)],.cells [(dI 0),zb3],.els 3 (a.2.map (zag.c true)),.cells [(dI (w64 (1+(w64 (p0.grain.tmod 60))))),(.sl 2 0 3 (Int.toNat (zcA (zcV (p0.nodes.length:Int) 1) 5)) (some (Int.toNat (zcA (zcV (p0.nodes.length:Int) 1) 5))) (Int.toNat (zcA (zcV (p0.nodes.length:Int) 1) 5)))]]⟩
  refine EvL.rounds (α:=(Int×(List S_api_Node))) T21 (fun n a=>zbu N p0 r5 n a.1 a.2=some o18∧a.2.length=(Int.toNat (zcA (zcV (p0.nodes.length:Int) 1) 5))) ((zcA (zcV (p0.nodes.length:Int) 1) 5) - 0+2:Int).toNat (0,l2) (by rw[hT21]; exact wm0 [.k,.k,.k,.k] ⟨MB.cs ⟨qcK,qcK,qcK,qcK⟩,⟨MB.cs ⟨qcK,qcK,qcK⟩,⟨MB.es zag true l2,⟨MB.cs ⟨qcK,rfl,qcK⟩,qcK⟩⟩⟩⟩) ⟨j18,el2⟩ (fun _ h=>nomatch (show(none:Option (List S_api_Node))=some o18 from h.1)) ?_;rintro n ⟨v10,l2'⟩ ⟨j18,el2'⟩;simp only[zbu]at j18;rw[congrFun hT21 (v10,l2')];refine zab ?_;try simp only[rnA,Nat.reduceEqDiff,Nat.reduceLT]
  cases c20:(decide (v10<(zcA (zcV (p0.nodes.length:Int) 1) 5)))
  ·rw[c20,cond_false]at j18;try simp only[rnA]
   replace j18:=qab j18; subst j18;exact⟨_,⟨rfl,el2'⟩,by rw[hT18]; exact wm0 [.d,.k,.k,.k] ⟨rfl,⟨MB.cs ⟨qcK,qcK,qcK⟩,⟨MB.es zag true l2',⟨MB.cs ⟨qcK,rfl,qcK⟩,qcK⟩⟩⟩⟩⟩
  rw[c20,cond_true]at j18;try simp only[rnA,Nat.reduceEqDiff,Nat.reduceLT,Nat.reduceAdd,zaj]
  obtain⟨o22,j22,j18⟩:=bind_some j18;obtain⟨T22,hT22⟩:=mkT fun a:(Int×Int×(List Int))=>⟨187,[(1,(.ptr 0 0)),(2,(.ptr 1 0)),(3,(dI (zcA (zcV (p0.nodes.length:Int) 1) 5))),(4,(.ptr 3 0)),(5,(fzE true (eI .i64) r5)),(10,(dI v10)),(11,(.ptr 4 0))],[.cells [(dU8 p0.grain),(fzE false zae p0.nodes),(fzE false (eI .u8) p0.order)],.cells [(dI 0),zb3],.els 3 (l2'.map (zag.c true)),.cells [(dI (w64 (1+(w64 (p0.grain.tmod 60))))),(.sl 2 0 3 (Int.toNat (zcA (zcV (p0.nodes.length:Int) 1) 5)) (some (Int.toNat (zcA (zcV (p0.nodes.length:Int) 1) 5))) (Int.toNat (zcA (zcV (p0.nodes.length:Int) 1) 5)))],.cells [(dU8 a.1),(dU8 a.2.1),(fzE false (eI .u8) a.2.2)]]⟩
  refine EvL.jn T22 (fun a=>a=o22) ?_ ?_
  ·refine zab ?_;try simp only[rnA,Nat.reduceEqDiff]
   cases c21:(decide (v10<(p0.nodes.length:Int)))
   ·rw[c21,cond_false]at j22;try simp only[rnA]
    replace j22:=qab j22; subst j22;exact lfj hT22 rfl (wm0 [.k,.k,.k,.k,.k] ⟨MB.cs ⟨qcK,qcK,qcK,qcK⟩,⟨MB.cs ⟨qcK,qcK,qcK⟩,⟨MB.es zag true l2',⟨MB.cs ⟨qcK,rfl,qcK⟩,⟨MB.zvV (.cons (.same trivial) (.cons (.same trivial) (.cons (.fr (zsD (eI .u8))) .nil))),qcK⟩⟩⟩⟩⟩)
   rw[c21,cond_true]at j22;obtain⟨x22,g23,j22⟩:=bind_some j22;try simp only[rnA,Nat.reduceEqDiff,Nat.reduceLT,Nat.reduceAdd,Nat.reduceLeDiff,zaA,zai (n:=3) (e:=zae) rfl g23]
   replace j22:=qab j22; subst j22;exact lfj hT22 rfl (wm0 [.k,.k,.k,.k,.k] ⟨MB.cs ⟨qcK,qcK,qcK,qcK⟩,⟨MB.cs ⟨qcK,qcK,qcK⟩,⟨MB.es zag true l2',⟨MB.cs ⟨qcK,rfl,qcK⟩,⟨MB.cs ⟨qcK,qcK,qcK,qcK⟩,qcK⟩⟩⟩⟩⟩)
  rintro⟨b4_0,b4_1,b4_2⟩ rfl;dsimp only at j18;rw[congrFun hT22 (b4_0,b4_1,b4_2)];refine zab ?_;obtain⟨x24,g25,j18⟩:=bind_some j18;try simp only[rnA,Nat.reduceEqDiff,Nat.reduceLT,zai (n:=1) (e:=(eI .i64)) rfl g25]
  obtain⟨y26,g27,j18⟩:=bind_some j18;refine EvL.zec (S':=⟨187,[(1,(.ptr 0 0)),(2,(.ptr 1 0)),(3,(dI (zcA (zcV (p0.nodes.length:Int) 1) 5))),(4,(.ptr 3 0)),(5,(fzE true (eI .i64) r5)),(10,(dI v10)),(11,(.ptr 4 0)),(12,(dI x24)),(13,(dI 0))],[.cells [(dU8 p0.grain),(fzE false zae p0.nodes),(fzE false (eI .u8) p0.order)],.cells [(dI 0),zb3],.els 3 (l2'.map (zag.c true)),.cells [(dI (w64 (1+(w64 (p0.grain.tmod 60))))),(.sl 2 0 3 (Int.toNat (zcA (zcV (p0.nodes.length:Int) 1) 5)) (some (Int.toNat (zcA (zcV (p0.nodes.length:Int) 1) 5))) (Int.toNat (zcA (zcV (p0.nodes.length:Int) 1) 5)))],.cells [(dU8 b4_0),(dU8 b4_1),(fzE false (eI .u8) b4_2)]]⟩) (wm0 [.k,.k,.k,.k,.k] ⟨MB.cs ⟨qcK,qcK,qcK,qcK⟩,⟨MB.cs ⟨qcK,qcK,qcK⟩,⟨MB.es zag true l2',⟨MB.cs ⟨qcK,rfl,qcK⟩,⟨MB.cs ⟨qcK,qcK,qcK,qcK⟩,qcK⟩⟩⟩⟩⟩) ?_;refine zu0 g27 (fun kp=>⟨qcK,qcK,qcK,qcK⟩) (fun kp=>⟨qcK,qcK,qcK⟩) (fun kp=>trivial) (fun kp=>trivial) el2' (zab ?_);try simp only[rnA,Nat.reduceLT]
  obtain⟨y28,g29,j18⟩:=bind_some j18;refine EvL.zec (S':=⟨187,[(1,(.ptr 0 0)),(2,(.ptr 1 0)),(3,(dI (zcA (zcV (p0.nodes.length:Int) 1) 5))),(4,(.ptr 3 0)),(5,(fzE true (eI .i64) r5)),(10,(dI v10)),(11,(.ptr 4 0)),(12,(dI x24)),(15,(dI 0))],[.cells [(dU8 p0.grain),(fzE false zae p0.nodes),(fzE false (eI .u8) p0.order)],.cells [(dI 0),zb3],.els 3 (y26.map (zag.c true)),.cells [(dI (w64 (1+(w64 (p0.grain.tmod 60))))),(.sl 2 0 3 (Int.toNat (zcA (zcV (p0.nodes.length:Int) 1) 5)) (some (Int.toNat (zcA (zcV (p0.nodes.length:Int) 1) 5))) (Int.toNat (zcA (zcV (p0.nodes.length:Int) 1) 5)))],.cells [(dU8 b4_0),(dU8 b4_1),(fzE false (eI .u8) b4_2)]]⟩) (wm0 [.k,.k,.k,.k,.k] ⟨MB.cs ⟨qcK,qcK,qcK,qcK⟩,⟨MB.cs ⟨qcK,qcK,qcK⟩,⟨MB.es zag true y26,⟨MB.cs ⟨qcK,rfl,qcK⟩,⟨MB.cs ⟨qcK,qcK,qcK,qcK⟩,qcK⟩⟩⟩⟩⟩) ?_;refine zuG g29 (fun kp=>⟨qcK,qcK,qcK,qcK⟩) (fun kp=>⟨qcK,qcK,qcK⟩) (fun kp=>trivial) (fun kp=>trivial) ((ziK g27).trans el2') (zab ?_);try simp only[rnA,Nat.reduceEqDiff,Nat.reduceLT]
  exact⟨((w64 (v10+1)),y28),⟨j18,((zoe g29).trans ((ziK g27).trans el2'))⟩,by rw[hT21]; exact wm0 [.k,.k,.k,.k] ⟨MB.cs ⟨qcK,qcK,qcK,qcK⟩,⟨MB.cs ⟨qcK,qcK,qcK⟩,⟨MB.es zag true y28,⟨MB.cs ⟨qcK,rfl,qcK⟩,qcK⟩⟩⟩⟩⟩
 rintro l2' ⟨rfl,el2'⟩;rw[congrFun hT18 l2'];refine zab ?_;try simp only[rnA,Nat.reduceEqDiff,Nat.reduceLT,Nat.reduceAdd,Nat.reduceLeDiff]
 replace h:=qab h; subst h;exact zbe.ret rfl (.zcp (.cons (.lit _) (.cons (zas (e:=zaa) rfl (.inl rfl) (by rw[qaD]; exact(el2').symm) (by rw[qaD]; exact(el2').symm) (fun k h=>by cases h; exact qal _) (zhB (fun _=>rfl) l2')) .nil)))
def zeZ(N:Nat)(p0:S_api_Net)(p1:Int):Option (Int×Int):=
(zaO p0).bind fun r1=>
bif (r1.2 == 0)then(
(zi2 .u64 p1 (r1.1.net.nodes.length:Int)).bind fun q4=>
bif (q4 == 0)then(
(zgb N r1.1.sets p1).bind fun r7=>
some (r7,0))
else(
some (0,2)))
else(
some (0,r1.2))
def zdv(p0:S_net_network)(x4:Int)(q6:Int):Nat→Int→(List Int)→Option (List Int)
 | 0,_,_=>none
 | n+1,v26,l1'=>(
bif (decide (v26<(((Int.toNat (p0.sets.length:Int)):Nat):Int)))then(
(zi2 .u64 (orI .u64 x4 q6) v26).bind fun q9=>
((bif ((zlo .u64 q9 1)== 1)then(
(zaF l1' v26).bind fun x12=>
(znn .u64 1 v26).bind fun q14=>
(zgt l1' v26 (orI .u64 x12 (zus .u64 (orI .u64 x4 q6) q14))).bind fun y16=>
some y16)
else(
some l1'):Option (List Int))).bind fun l1''=>
zdv p0 x4 q6 n (w64 (v26+1)) l1'')
else(
some l1'))
def zdw(p0:S_net_network):Nat→Int→(List Int)→Option (List Int)
 | 0,_,_=>none
 | n+1,v15,l1=>(
bif (decide (v15<(p0.sets.length:Int)))then(
(zaF p0.sets v15).bind fun x4=>
(znn .u64 1 v15).bind fun q6=>
((zdv p0 x4 q6 ((((Int.toNat (p0.sets.length:Int)):Nat):Int) - 0+2:Int).toNat 0 l1:Option (List Int))).bind fun l1'=>
zdw p0 n (w64 (v15+1)) l1')
else(
some l1))
def zdR(p0:S_net_network):Option (List Int):=
(zfE 8 (p0.sets.length:Int) 0).bind fun y1=>
((zdw p0 ((p0.sets.length:Int) - 0+2:Int).toNat 0 y1:Option (List Int))).bind fun l1=>
some l1
def zhQ(p0:S_api_Net):Option ((List Int)×Int):=
(zaO p0).bind fun r1=>
bif (r1.2 == 0)then(
(zdR r1.1).bind fun r4=>
some (r4,0))
else(
some ([],r1.2))
def zgf(p0:S_api_Net)(p1:Int):Option (Int×Int):=
(zaO p0).bind fun r1=>
bif (r1.2 == 0)then(
((bif (decide (p1<0))then(
some true)
else(
some (decide ((r1.1.net.nodes.length:Int)≤p1))):Option Bool)).bind fun v25=>
bif v25 then(
some (0,2))
else(
(zdR r1.1).bind fun r6=>
(zaF r6 p1).bind fun x8=>
some (x8,0)))
else(
some (0,r1.2))
def zfl(p0:Int)(p1:Int):Option Bool:=
(zi2 .u64 p0 (IntKind.u64.wrap p1)).bind fun q1=>
some ((zlo .u64 q1 1)== 1)
theorem zks{p0:Int}{p1:Int}{r:Bool}(h:zfl p0 p1=some r):Lx.Fn mC 61 [(dU p0),(dI p1)] (dB r):=by
 refine fnO (by conv=>lhs; cbv) ?_;unfold zfl at h;refine zab ?_;obtain⟨q1,g2,h⟩:=bind_some h;try simp only[rnA,Nat.reduceEqDiff,reduceIte,Nat.reduceLT,Nat.reduceAdd,Nat.reduceLeDiff,Nat.reduceMul,Nat.reduceSub,Int.reduceLE,Int.reduceLT,Int.reduceBEq,Nat.reduceBEq,reduceCtorEq,(zc9 g2).1,(zc9 g2).2]
 replace h:=qab h; subst h;exact zbe.ret rfl (.lit _)
def zbj(p0:S_api_Net)(v4:Int):Nat→Int→Int→Option Int
 | 0,_,_=>none
 | n+1,v5,v6=>(
(zaF p0.nodes v4).bind fun x2=>
bif (decide (v6<(x2.parents.length:Int)))then(
(zaF x2.parents v6).bind fun x5=>
(znn .u64 1 (IntKind.u64.wrap x5)).bind fun q7=>
zbj p0 v4 n (orI .u64 v5 q7) (w64 (v6+1)))
else(
some v5))
def zbi(p0:S_api_Net):Nat→Int→(List Int)→Option (List Int)
 | 0,_,_=>none
 | n+1,v4,l1=>(
bif (decide (v4<(p0.nodes.length:Int)))then(
((zbj p0 v4 ((((zaF p0.nodes v4).getD default).parents.length:Int) - 0+2:Int).toNat 0 0:Option Int)).bind fun v5=>
(zd6 8 l1 [v5]).bind fun y11=>
zbi p0 n (w64 (v4+1)) y11)
else(
some l1))
def zbV(p0:S_api_Net):Option (List Int):=
((zbi p0 ((p0.nodes.length:Int) - 0+2:Int).toNat 0 []:Option (List Int))).bind fun l1=>
some l1
theorem zgx{p0:S_api_Net}{r:(List Int)}(h:zbV p0=some r):Lx.Fn mC 22 [(.agg [(dI p0.grain),(fzE false zaa p0.nodes)])] (fzE true (eI .u64) r):=by
 refine fnO (by conv=>lhs; cbv) ?_;unfold zbV at h;refine zab ?_;try simp only[rnA,Nat.reduceLT]
 obtain⟨o9,j9,h⟩:=bind_some h;obtain⟨T9,hT9⟩:=mkT fun a:(List Int)=>⟨43,[(3,(.sl 1 0 1 a.length none a.length))],[.gone,.grow 1 (a.map ((eI .u64).c true))]⟩
 refine EvL.jn T9 (fun a=>a=o9) ?_ ?_
 ·refine zab ?_;simp only[rnA];obtain⟨T16,hT16⟩:=mkT fun a:(Int×(List Int))=>⟨43,[(1,(.ptr 0 0)),(3,(.sl 1 0 1 a.2.length none a.2.length)),(4,(dI a.1))],[.cells [(dI p0.grain),(fzE false zaa p0.nodes)],.grow 1 (a.2.map ((eI .u64).c true))]⟩
  refine EvL.zec (zbx.ghost (n:=1) (k:=3) (by decide) rfl) ?_;refine EvL.rounds (α:=(Int×(List Int))) T16 (fun n a=>zbi p0 n a.1 a.2=some o9) ((p0.nodes.length:Int) - 0+2:Int).toNat (0,[]) (by rw[hT16]; exact wm0 [.k,.k] ⟨MB.cs ⟨qcK,qcK,qcK⟩,⟨MB.gs (eI .u64) true [],qcK⟩⟩) j9 (fun _ h=>nomatch (show(none:Option (List Int))=some o9 from h)) ?_;rintro n ⟨v4,l1⟩ j9;simp only[zbi]at j9;rw[congrFun hT16 (v4,l1)];refine zab ?_;try simp only[rnA,Nat.reduceEqDiff,Nat.reduceLT,zaj]
  cases c1:(decide (v4<(p0.nodes.length:Int)))
  ·rw[c1,cond_false]at j9;try simp only[rnA]
   replace j9:=qab j9; subst j9;exact lfj hT9 rfl (wm0 [.d,.k] ⟨rfl,⟨MB.gs (eI .u64) true l1,qcK⟩⟩)
  rw[c1,cond_true]at j9;try simp only[rnA,Nat.reduceLT]
  obtain⟨o17,j17,j9⟩:=bind_some j9;obtain⟨T17,hT17⟩:=mkT fun a:Int=>⟨43,[(1,(.ptr 0 0)),(3,(.sl 1 0 1 l1.length none l1.length)),(4,(dI v4)),(5,(dU a))],[.cells [(dI p0.grain),(fzE false zaa p0.nodes)],.grow 1 (l1.map ((eI .u64).c true))]⟩
  refine EvL.jn T17 (fun a=>a=o17) ?_ ?_
  ·refine zab ?_;simp only[rnA];obtain⟨T18,hT18⟩:=mkT fun a:(Int×Int)=>⟨43,[(1,(.ptr 0 0)),(3,(.sl 1 0 1 l1.length none l1.length)),(4,(dI v4)),(5,(dU a.1)),(6,(dI a.2))],[.cells [(dI p0.grain),(fzE false zaa p0.nodes)],.grow 1 (l1.map ((eI .u64).c true))]⟩
   refine EvL.rounds (α:=(Int×Int)) T18 (fun n a=>zbj p0 v4 n a.1 a.2=some o17) ((((zaF p0.nodes v4).getD default).parents.length:Int) - 0+2:Int).toNat (0,0) (by rw[hT18]; exact wm0 [.k,.k] ⟨MB.cs ⟨qcK,qcK,qcK⟩,⟨MB.gs (eI .u64) true l1,qcK⟩⟩) j17 (fun _ h=>nomatch (show(none:Option Int)=some o17 from h)) ?_;rintro n ⟨v5,v6⟩ j17;simp only[zbj]at j17;rw[congrFun hT18 (v5,v6)];refine zab ?_;obtain⟨x2,g3,j17⟩:=bind_some j17;try simp only[rnA,Nat.reduceEqDiff,Nat.reduceLT,Nat.reduceAdd,Nat.reduceLeDiff,zac,zai (n:=3) (e:=zaa) rfl g3,zaj]
   cases c4:(decide (v6<(x2.parents.length:Int)))
   ·rw[c4,cond_false]at j17;try simp only[rnA,Nat.reduceEqDiff,Nat.reduceLT,reduceCtorEq]
    replace j17:=qab j17; subst j17;exact lfj hT17 rfl (wm0 [.k,.k] ⟨MB.cs ⟨qcK,qcK,qcK⟩,⟨MB.gs (eI .u64) true l1,qcK⟩⟩)
   rw[c4,cond_true]at j17;obtain⟨x5,g6,j17⟩:=bind_some j17;obtain⟨q7,g8,j17⟩:=bind_some j17;try simp only[rnA,Nat.reduceEqDiff,Nat.reduceLT,Nat.reduceAdd,Nat.reduceLeDiff,zac,zai (n:=3) (e:=zaa) rfl g3,zai (n:=1) (e:=(eI .i64)) rfl g6,(zd2 g8).1,(zd2 g8).2]
   exact⟨((orI .u64 v5 q7),(w64 (v6+1))),j17,by rw[hT18]; exact wm0 [.k,.k] ⟨MB.cs ⟨qcK,qcK,qcK⟩,⟨MB.gs (eI .u64) true l1,qcK⟩⟩⟩
  rintro v5 rfl;rw[congrFun hT17 v5];refine zab ?_;obtain⟨y11,g12,j9⟩:=bind_some j9;try simp only[rnA,Nat.reduceEqDiff,Nat.reduceLT,Nat.reduceAdd,Nat.reduceLeDiff,zcL g12,(show l1.length+1=y11.length from zbU g12),(show l1.map ((eI .u64).c true)++ [[(dU v5)]]=y11.map ((eI .u64).c true)from zcr g12 ((eI .u64).c true))]
  exact⟨((w64 (v4+1)),y11),j9,by rw[hT16]; exact wm0 [.k,.k] ⟨MB.cs ⟨qcK,qcK,qcK⟩,⟨MB.gs (eI .u64) true y11,qcK⟩⟩⟩
 rintro l1 rfl;rw[congrFun hT9 l1];refine zab ?_;try simp only[rnA,Nat.reduceEqDiff,Nat.reduceLT]
 replace h:=qab h; subst h;exact zbe.ret rfl (zal (e:=(eI .u64)) (t:=true) rfl (.inr rfl) rfl rfl (fun k h=>nomatch h) (fun _=>rfl))
def zfY(p0:S_api_Net):Option ((List Int)×Int):=
(zaO p0).bind fun r1=>
some (r1.1.sets,r1.2)
def zhe(p0:S_api_Net):Option ((List Int)×Int):=
(zaO p0).bind fun r1=>
some (r1.1.order,r1.2)
def zbm(p1:(List Int))(p0:S_api_Net):Nat→Int→Option (Out Unit Bool)
 | 0,_=>none
 | n+1,v5=>(
bif (decide (v5<(p1.length:Int)))then(
(((zaF p1 v5).bind fun x3=>
bif (decide (x3<(-1)))then(
some true)
else(
(zaF p0.nodes v5).bind fun x6=>
some (decide (x6.card≤x3))):Option Bool)).bind fun v35=>
bif v35 then(
some (.ret false))
else(
zbm p1 p0 n (w64 (v5+1))))
else(
some (.go ())))
def zcu(p0:S_api_Net)(p1:(List Int)):Option Bool:=
bif ((p1.length:Int)==(p0.nodes.length:Int))then(
((zbm p1 p0 ((p1.length:Int) - 0+2:Int).toNat 0:Option (Out Unit Bool))).bind fun o=>match o with
| .go _=>(
some true)
| .ret r=>some r)
else(
some false)
def zfB:C:=
 .seq (rg [oW 2 0,
 oJ 4 false])
 (.seq (.seq (rg [oM 6 1,
 oE 7 6,
 oF 8 1 2,
 oL 9 8,
 oE 10 9,
 oB 11 .neq 7 10])
 (.cond (.s 11) (.seq (rg [oJ 4 false])
 (.ret))
 (.skip)))
 (.seq (.seq (rg [oK 5 0])
 (.scope (.block 0 (.loop (.seq (.seq (rg [oM 12 5,
 oM 13 1,
 oE 14 13,
 oB 15 .lss 12 14])
 (.cond (.s 15) (.skip)
 (.exit 0)))
 (.seq (.block 1 (.seq (.scope (.reg true false [oM 18 1,
 oM 19 5,
 oI 20 1 18 19,
 oL 21 20,
 ⟨some 22,.bin .lss (.s 21) (.c (.int .i64 (-1))),none⟩,
 oM 23 22,
 oMg 24 1 23 false,
 oMg 25 5 23 false,
 ⟨some 26,.idxS 1 (.s 24) (.s 25),some (23,false)⟩,
 oLg 27 26 23 false,
 oFg 28 1 2 23 false,
 oLg 29 28 23 false,
 oMg 30 5 23 false,
 ⟨some 31,.idxS 3 (.s 29) (.s 30),some (23,false)⟩,
 oFg 32 0 31 23 false,
 oLg 33 32 23 false,
 ⟨some 34,.bin .geq (.s 27) (.s 33),some (23,false)⟩,
 oP 35 23 34]))
 (.cond (.s 35) (.seq (rg [oJ 4 false])
 (.ret))
 (.skip))))
 (rg [oM 16 5,
 oD 17 .add 16 1,
 oM 5 17])))))))
 (.seq (rg [oJ 4 true])
 (.ret))))
theorem zgO:zjK mC 17=some (36,zfB,[.tmp 4],false):=zbT (by kernel_rfl)
theorem zhV{p0:S_api_Net}{p1:(List Int)}{r:Bool}(h:zcu p0 p1=some r):Lx.Fn mC 17 [(.agg [(dI p0.grain),(fzE false zaa p0.nodes)]),(fzE false (eI .i64) p1)] (dB r):=by
 refine Fn.of zgO (zbE rfl) (qah rfl) ?_;unfold zcu at h;simp only[zfB,zeJ];refine zab ?_;try simp only[rnA,Nat.reduceEqDiff,Nat.reduceLT,Nat.reduceAdd,reduceCtorEq,zaj]
 cases c1:((p1.length:Int)==(p0.nodes.length:Int))
 ·rw[c1,cond_false]at h;try simp only[rnA,Nat.reduceLT]
  replace h:=qab h; subst h;exact zbe.ret rfl (.lit _)
 rw[c1,cond_true]at h;try simp only[rnA,Nat.reduceLT]
 obtain⟨o4,j4,h⟩:=bind_some h;obtain⟨T4,hT4⟩:=mkT fun a:Unit=>⟨36,[],[]⟩
 refine EvL.jn T4 (fun a=>o4=.go a) ?_ ?_
 ·refine zab ?_;simp only[rnA];obtain⟨T7,hT7⟩:=mkT fun a:Int=>⟨36,[(1,(fzE false (eI .i64) p1)),(2,(.ptr 0 0)),(5,(dI a))],[.cells [(dI p0.grain),(fzE false zaa p0.nodes)]]⟩
  refine EvL.rounds (α:=Int) T7 (fun n a=>zbm p1 p0 n a=some o4) ((p1.length:Int) - 0+2:Int).toNat 0 (by rw[hT7]; exact wm0 [.k] ⟨MB.cs ⟨qcK,qcK,qcK⟩,qcK⟩) j4 (fun _ h=>nomatch (show(none:Option (Out Unit Bool))=some o4 from h)) ?_;rintro n v5 j4;simp only[zbm]at j4;rw[congrFun hT7 v5];refine zab ?_;try simp only[rnA,Nat.reduceEqDiff,Nat.reduceLT,zaj]
  cases c2:(decide (v5<(p1.length:Int)))
  ·rw[c2,cond_false]at j4;try simp only[rnA]
   replace j4:=qab j4; subst j4;exact lfj hT4 rfl (wm0 [] (by exact trivial))
  rw[c2,cond_true]at j4;try simp only[rnA]
  obtain⟨o8,j8,j4⟩:=bind_some j4;obtain⟨T8,hT8⟩:=mkT fun a:Bool=>⟨36,[(1,(fzE false (eI .i64) p1)),(2,(.ptr 0 0)),(5,(dI v5)),(35,(dB a))],[.cells [(dI p0.grain),(fzE false zaa p0.nodes)]]⟩
  refine EvL.jn T8 (fun a=>a=o8) ?_ ?_
  ·refine zab ?_;obtain⟨x3,g4,j8⟩:=bind_some j8;try simp only[rnA,Nat.reduceEqDiff,Nat.reduceLT,zai (n:=1) (e:=(eI .i64)) rfl g4]
   cases c5:(decide (x3<(-1)))
   ·rw[c5,cond_false]at j8;obtain⟨x6,g7,j8⟩:=bind_some j8;try simp only[rnA,Nat.reduceEqDiff,Nat.reduceLT,Nat.reduceAdd,Nat.reduceLeDiff,zac,zai (n:=1) (e:=(eI .i64)) rfl g4,zai (n:=3) (e:=zaa) rfl g7]
    replace j8:=qab j8; subst j8;exact lfj hT8 rfl (wm0 [.k] ⟨MB.cs ⟨qcK,qcK,qcK⟩,qcK⟩)
   rw[c5,cond_true]at j8;try simp only[rnA,Nat.reduceEqDiff,Nat.reduceLT]
   replace j8:=qab j8; subst j8;exact lfj hT8 rfl (wm0 [.k] ⟨MB.cs ⟨qcK,qcK,qcK⟩,qcK⟩)
  rintro v35 rfl;rw[congrFun hT8 v35];refine zab ?_;try simp only[rnA,Nat.reduceEqDiff]
  cases c8:v35
  ·rw[c8,cond_false]at j4;try simp only[rnA,Nat.reduceEqDiff,Nat.reduceLT]
   exact⟨(w64 (v5+1)),j4,by rw[hT7]; exact wm0 [.k] ⟨MB.cs ⟨qcK,qcK,qcK⟩,qcK⟩⟩
  rw[c8,cond_true]at j4;try simp only[rnA,Nat.reduceLT]
  replace j4:=qab j4; subst j4;dsimp only at h;replace h:=qab h; subst h;exact zbe.ret rfl (.lit _)
 rintro⟨⟩ rfl;dsimp only at h;rw[congrFun hT4 ()];refine zab ?_;try simp only[rnA,Nat.reduceLT]
 replace h:=qab h; subst h;exact zbe.ret rfl (.lit _)
def zaM(p1:(List Int))(r1:(S_net_network×Int)):Nat→Int→Option (Out Unit Int)
 | 0,_=>none
 | n+1,v26=>(
bif (decide (v26<(p1.length:Int)))then(
(zaF p1 v26).bind fun x6=>
((bif (decide (x6<(-1)))then(
some true)
else(
(zaF r1.1.cards v26).bind fun x9=>
some (decide (x9≤x6))):Option Bool)).bind fun v41=>
bif v41 then(
some (.ret 2))
else(
zaM p1 r1 n (w64 (v26+1))))
else(
some (.go ())))
def zaR(p0:S_api_Net)(p1:(List Int)):Option Int:=
(zaO p0).bind fun r1=>
bif (r1.2 == 0)then(
bif ((p1.length:Int)==(r1.1.net.nodes.length:Int))then(
((zaM p1 r1 ((p1.length:Int) - 0+2:Int).toNat 0:Option (Out Unit Int))).bind fun o=>match o with
| .go _=>(
some 0)
| .ret r=>some r)
else(
some 2))
else(
some r1.2)
theorem zfs{p0:S_api_Net}{p1:(List Int)}{r:Int}(h:zaR p0 p1=some r):Lx.Fn mC 18 [(.agg [(dI p0.grain),(fzE false zaa p0.nodes)]),(fzE false (eI .i64) p1)] (dI r):=by
 refine fnO (by conv=>lhs; cbv) ?_;unfold zaR at h;refine zab ?_;obtain⟨r1,g2,h⟩:=bind_some h;try simp only[rnA,Nat.reduceEqDiff,Nat.reduceLT,Nat.reduceAdd,Nat.reduceLeDiff,reduceCtorEq]
 refine EvL.fnS (zfH g2) rfl rfl (.cons (Mzs.agg (.cons (.lit _) (.cons (zdU _ _ (fun h=>by cases h<;>contradiction)) .nil))) .nil) ⟨⟨qcK,(zbg _ _),qcK⟩,qcK⟩ ⟨⟨qcK,(zbg _ _),(zbg _ _),(zbg _ _),(zbg _ _),qcK⟩,qcK,qcK⟩ ?_;try simp only[rnA,Nat.reduceEqDiff,Nat.reduceLT,Nat.reduceAdd,Nat.reduceLeDiff,reduceCtorEq]
 cases c3:(r1.2 == 0)
 ·rw[c3,cond_false]at h;try simp only[rnA,Nat.reduceEqDiff,Nat.reduceLT,reduceCtorEq]
  replace h:=qab h; subst h;exact zbe.ret rfl (.lit _)
 rw[c3,cond_true]at h;try simp only[rnA,Nat.reduceEqDiff,Nat.reduceLT,reduceCtorEq,zaj]
 cases c4:((p1.length:Int)==(r1.1.net.nodes.length:Int))
 ·rw[c4,cond_false]at h;try simp only[rnA,Nat.reduceLT]
  replace h:=qab h; subst h;exact zbe.ret rfl (.lit _)
 rw[c4,cond_true]at h;try simp only[rnA,Nat.reduceEqDiff,Nat.reduceLT,reduceCtorEq,zaj]
 obtain⟨o4,j4,h⟩:=bind_some h;obtain⟨T4,hT4⟩:=mkT fun a:Unit=>⟨43,[],[]⟩
 refine EvL.jn T4 (fun a=>o4=.go a) ?_ ?_
 ·refine zab ?_;simp only[rnA];obtain⟨T7,hT7⟩:=mkT fun a:Int=>⟨43,[(5,(.ptr 1 0)),(24,(fzE false (eI .i64) p1)),(25,(dI (p1.length:Int))),(26,(dI a))],[.gone,.cells [(dI r1.1.net.grain),(fzE false zaa r1.1.net.nodes),(fzE false (eI .i64) r1.1.cards),(fzE false (eI .u64) r1.1.sets),(fzE false (eI .i64) r1.1.order)]]⟩
  refine EvL.rounds (α:=Int) T7 (fun n a=>zaM p1 r1 n a=some o4) ((p1.length:Int) - 0+2:Int).toNat 0 (by rw[hT7]; exact wm0 [.d,.k] ⟨rfl,⟨MB.cs ⟨qcK,qcK,qcK,qcK,qcK,qcK⟩,qcK⟩⟩) j4 (fun _ h=>nomatch (show(none:Option (Out Unit Int))=some o4 from h)) ?_;rintro n v26 j4;simp only[zaM]at j4;rw[congrFun hT7 v26];refine zab ?_;try simp only[rnA,Nat.reduceEqDiff,Nat.reduceLT]
  cases c5:(decide (v26<(p1.length:Int)))
  ·rw[c5,cond_false]at j4;try simp only[rnA]
   replace j4:=qab j4; subst j4;exact lfj hT4 rfl (wm0 [] (by exact trivial))
  rw[c5,cond_true]at j4;obtain⟨x6,g7,j4⟩:=bind_some j4;try simp only[rnA,Nat.reduceEqDiff,Nat.reduceLT,zai (n:=1) (e:=(eI .i64)) rfl g7]
  obtain⟨o8,j8,j4⟩:=bind_some j4;obtain⟨T8,hT8⟩:=mkT fun a:Bool=>⟨43,[(5,(.ptr 1 0)),(24,(fzE false (eI .i64) p1)),(25,(dI (p1.length:Int))),(26,(dI v26)),(41,(dB a))],[.gone,.cells [(dI r1.1.net.grain),(fzE false zaa r1.1.net.nodes),(fzE false (eI .i64) r1.1.cards),(fzE false (eI .u64) r1.1.sets),(fzE false (eI .i64) r1.1.order)]]⟩
  refine EvL.jn T8 (fun a=>a=o8) ?_ ?_
  ·refine zab ?_;try simp only[rnA,Nat.reduceEqDiff,Nat.reduceLT]
   cases c8:(decide (x6<(-1)))
   ·rw[c8,cond_false]at j8;obtain⟨x9,g10,j8⟩:=bind_some j8;try simp only[rnA,Nat.reduceEqDiff,Nat.reduceLT,zai (n:=1) (e:=(eI .i64)) rfl g10]
    replace j8:=qab j8; subst j8;exact lfj hT8 rfl (wm0 [.d,.k] ⟨rfl,⟨MB.cs ⟨qcK,qcK,qcK,qcK,qcK,qcK⟩,qcK⟩⟩)
   rw[c8,cond_true]at j8;try simp only[rnA,Nat.reduceEqDiff,Nat.reduceLT]
   replace j8:=qab j8; subst j8;exact lfj hT8 rfl (wm0 [.d,.k] ⟨rfl,⟨MB.cs ⟨qcK,qcK,qcK,qcK,qcK,qcK⟩,qcK⟩⟩)
  rintro v41 rfl;rw[congrFun hT8 v41];refine zab ?_;try simp only[rnA,Nat.reduceEqDiff]
  cases c11:v41
  ·rw[c11,cond_false]at j4;try simp only[rnA,Nat.reduceEqDiff,Nat.reduceLT]
   exact⟨(w64 (v26+1)),j4,by rw[hT7]; exact wm0 [.d,.k] ⟨rfl,⟨MB.cs ⟨qcK,qcK,qcK,qcK,qcK,qcK⟩,qcK⟩⟩⟩
  rw[c11,cond_true]at j4;try simp only[rnA,Nat.reduceLT]
  replace j4:=qab j4; subst j4;dsimp only at h;replace h:=qab h; subst h;exact zbe.ret rfl (.lit _)
 rintro⟨⟩ rfl;dsimp only at h;rw[congrFun hT4 ()];refine zab ?_;try simp only[rnA,Nat.reduceLT]
 replace h:=qab h; subst h;exact zbe.ret rfl (.lit _)
end Go.Dc
