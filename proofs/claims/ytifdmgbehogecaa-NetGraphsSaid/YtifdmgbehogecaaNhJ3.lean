/-
 What r02_Draft_Cards computes. Conditions: none.
-/
import Derived.Test.YtifdmgbehogecaaNhJ1
set_option linter.unusedSimpArgs false
set_option linter.unusedVariables false
set_option maxRecDepth 100000
set_option maxHeartbeats 4000000
namespace Go.Dc
open Go Go.Mx Go.Lx Go.Proofs
def zbd(p0:S_haruspexref02_Draft):Nat→Int→(List Int)→Option (List Int)
 | 0,_,_=>none
 | n+1,v4,l1=>(
((bif (decide (v4<(p0.c.length:Int)))then(
some (decide (v4<5)))
else(
some false):Option Bool)).bind fun v13=>
bif v13 then(
(zaK p0.c v4).bind fun x3=>
(zd7 8 l1 [(w64 (1+(w64 (x3.tmod 4))))]).bind fun y5=>
zbd p0 n (w64 (v4+1)) y5)
else(
some l1))
def zbI(N:Nat)(p0:S_haruspexref02_Draft):Option (List Int):=
((zbd p0 N 0 []:Option (List Int))).bind fun l1=>
some l1
theorem zfK{N:Nat}{p0:S_haruspexref02_Draft}{r:(List Int)}(h:zbI N p0=some r):Lx.Fn mC 79 [(.agg [(fzE false (eI .u8) p0.c),(.lit (.int .u16 p0.which)),(fzE false (eI .u8) p0.order)])] (fzE true (eI .i64) r):=by
 refine fnO (by conv=>lhs; cbv) ?_;unfold zbI at h;refine zab ?_;try simp only[rnA,Nat.reduceLT]
 obtain⟨o5,j5,h⟩:=bind_some h;obtain⟨T5,hT5⟩:=mkT fun a:(List Int)=>⟨28,[(3,(.sl 1 0 1 a.length none a.length))],[.gone,.grow 1 (a.map ((eI .i64).c true))]⟩
 refine EvL.jn T5 (fun a=>a=o5) ?_ ?_
 ·refine zab ?_;simp only[rnA];obtain⟨T9,hT9⟩:=mkT fun a:(Int×(List Int))=>⟨28,[(1,(.ptr 0 0)),(3,(.sl 1 0 1 a.2.length none a.2.length)),(4,(dI a.1))],[.cells [(fzE false (eI .u8) p0.c),(.lit (.int .u16 p0.which)),(fzE false (eI .u8) p0.order)],.grow 1 (a.2.map ((eI .i64).c true))]⟩
  refine EvL.zed (zbD.ghost (n:=1) (k:=3) (by decide) rfl) ?_;refine EvL.rounds (α:=(Int×(List Int))) T9 (fun n a=>zbd p0 n a.1 a.2=some o5) N (0,[]) (by rw[hT9]; exact wm0 [.k,.k] ⟨MB.cs ⟨qcO,qcO,qcO,qcO⟩,⟨MB.gs (eI .i64) true [],qcO⟩⟩) j5 (fun _ h=>nomatch (show(none:Option (List Int))=some o5 from h)) ?_;rintro n ⟨v4,l1⟩ j5;simp only[zbd]at j5;rw[congrFun hT9 (v4,l1)];refine zab ?_;try simp only[rnA]
  obtain⟨o10,j10,j5⟩:=bind_some j5;obtain⟨T10,hT10⟩:=mkT fun a:Bool=>⟨28,[(1,(.ptr 0 0)),(3,(.sl 1 0 1 l1.length none l1.length)),(4,(dI v4)),(13,(dB a))],[.cells [(fzE false (eI .u8) p0.c),(.lit (.int .u16 p0.which)),(fzE false (eI .u8) p0.order)],.grow 1 (l1.map ((eI .i64).c true))]⟩
  refine EvL.jn T10 (fun a=>a=o10) ?_ ?_
  ·refine zab ?_;try simp only[rnA,Nat.reduceEqDiff,Nat.reduceLT,zaj]
   cases c1:(decide (v4<(p0.c.length:Int)))
   ·rw[c1,cond_false]at j10;try simp only[rnA,Nat.reduceEqDiff,Nat.reduceLT]
    replace j10:=qab j10; subst j10;exact lfj hT10 rfl (wm0 [.k,.k] ⟨MB.cs ⟨qcO,qcO,qcO,qcO⟩,⟨MB.gs (eI .i64) true l1,qcO⟩⟩)
   rw[c1,cond_true]at j10;try simp only[rnA,Nat.reduceEqDiff,Nat.reduceLT]
   replace j10:=qab j10; subst j10;exact lfj hT10 rfl (wm0 [.k,.k] ⟨MB.cs ⟨qcO,qcO,qcO,qcO⟩,⟨MB.gs (eI .i64) true l1,qcO⟩⟩)
  rintro v13 rfl;rw[congrFun hT10 v13];refine zab ?_;try simp only[rnA,Nat.reduceEqDiff]
  cases c2:v13
  ·rw[c2,cond_false]at j5;try simp only[rnA]
   replace j5:=qab j5; subst j5;exact lfj hT5 rfl (wm0 [.d,.k] ⟨rfl,⟨MB.gs (eI .i64) true l1,qcO⟩⟩)
  rw[c2,cond_true]at j5;obtain⟨x3,g4,j5⟩:=bind_some j5;obtain⟨y5,g6,j5⟩:=bind_some j5;try simp only[rnA,Nat.reduceEqDiff,Nat.reduceLT,Nat.reduceAdd,Nat.reduceLeDiff,Int.reduceBEq,zak (n:=1) (e:=(eI .u8)) rfl g4,zcS g6,(show l1.length+1=y5.length from zbT g6),(show l1.map ((eI .i64).c true)++ [[(dI (w64 (1+(w64 (x3.tmod 4)))))]]=y5.map ((eI .i64).c true)from zcr g6 ((eI .i64).c true))]
  exact⟨((w64 (v4+1)),y5),j5,by rw[hT9]; exact wm0 [.k,.k] ⟨MB.cs ⟨qcO,qcO,qcO,qcO⟩,⟨MB.gs (eI .i64) true y5,qcO⟩⟩⟩
 rintro l1 rfl;rw[congrFun hT5 l1];refine zab ?_;try simp only[rnA,Nat.reduceEqDiff,Nat.reduceLT]
 replace h:=qab h; subst h;exact zbq.ret rfl (zan (e:=(eI .i64)) (t:=true) rfl (.inr rfl) rfl rfl (fun k h=>nomatch h) (fun _=>rfl))
def zax(N:Nat)(p0:S_haruspexref02_Draft):Nat→Int→(List Int)→Option (List Int)
 | 0,_,_=>none
 | n+1,v4,l1=>(
(zbI N p0).bind fun r1=>
bif (decide (v4<(r1.length:Int)))then(
((bif (decide (v4<(p0.order.length:Int)))then(
(zaK p0.order v4).bind fun x5=>
(zsf (w64 x5) (w64 (v4+1))).bind fun q7=>
some q7)
else(
some 0):Option Int)).bind fun v5=>
(zdp l1 0 v5).bind fun y9=>
(ziC 8 y9).bind fun y11=>
(zd7 8 y9 [v4]).bind fun y13=>
(zdp l1 v5 l1.length).bind fun y15=>
(zd7 8 y13 y15).bind fun y17=>
zax N p0 n (w64 (v4+1)) y17)
else(
some l1))
def zaZ(N:Nat)(p0:S_haruspexref02_Draft):Option (List Int):=
((zax N p0 N 0 []:Option (List Int))).bind fun l1=>
some l1
theorem zee{N:Nat}{p0:S_haruspexref02_Draft}{r:(List Int)}(h:zaZ N p0=some r):Lx.Fn mC 58 [(.agg [(fzE false (eI .u8) p0.c),(.lit (.int .u16 p0.which)),(fzE false (eI .u8) p0.order)])] (fzE true (eI .i64) r):=by
 refine fnO (by conv=>lhs; cbv) ?_;unfold zaZ at h;refine zab ?_;try simp only[rnA,Nat.reduceLT]
 obtain⟨o5,j5,h⟩:=bind_some h;obtain⟨T5,hT5⟩:=mkT fun a:(List Int)=>⟨42,[(3,(.sl 1 0 1 a.length none a.length))],[.gone,.grow 1 (a.map ((eI .i64).c true))]⟩
 refine EvL.jn T5 (fun a=>a=o5) ?_ ?_
 ·refine zab ?_;simp only[rnA];obtain⟨T9,hT9⟩:=mkT fun a:(Int×(List Int))=>⟨42,[(1,(.ptr 0 0)),(3,(.sl 1 0 1 a.2.length none a.2.length)),(4,(dI a.1))],[.cells [(fzE false (eI .u8) p0.c),(.lit (.int .u16 p0.which)),(fzE false (eI .u8) p0.order)],.grow 1 (a.2.map ((eI .i64).c true))]⟩
  refine EvL.zed (zbD.ghost (n:=1) (k:=3) (by decide) rfl) ?_;refine EvL.rounds (α:=(Int×(List Int))) T9 (fun n a=>zax N p0 n a.1 a.2=some o5) N (0,[]) (by rw[hT9]; exact wm0 [.k,.k] ⟨MB.cs ⟨qcO,qcO,qcO,qcO⟩,⟨MB.gs (eI .i64) true [],qcO⟩⟩) j5 (fun _ h=>nomatch (show(none:Option (List Int))=some o5 from h)) ?_;rintro n ⟨v4,l1⟩ j5;simp only[zax]at j5;rw[congrFun hT9 (v4,l1)];refine zab ?_;obtain⟨r1,g2,j5⟩:=bind_some j5;try simp only[rnA,Nat.reduceEqDiff,Nat.reduceLT,Nat.reduceAdd,Nat.reduceLeDiff]
  refine EvL.fn (zfK g2) rfl rfl (.cons (.zcX (.cons (zar _ _ (fun h=>nomatch h)) (.cons (.lit _) (.cons (zar _ _ (fun h=>nomatch h)) .nil)))) .nil) ?_;try simp only[rnA,Nat.reduceEqDiff,Nat.reduceLT,zaj]
  cases c3:(decide (v4<(r1.length:Int)))
  ·rw[c3,cond_false]at j5;try simp only[rnA]
   replace j5:=qab j5; subst j5;exact lfj hT5 rfl (wm0 [.d,.k] ⟨rfl,⟨MB.gs (eI .i64) true l1,qcO⟩⟩)
  rw[c3,cond_true]at j5;try simp only[rnA,Nat.reduceEqDiff,Nat.reduceLT,zaj]
  obtain⟨o10,j10,j5⟩:=bind_some j5;obtain⟨T10,hT10⟩:=mkT fun a:Int=>⟨42,[(1,(.ptr 0 0)),(3,(.sl 1 0 1 l1.length none l1.length)),(4,(dI v4)),(5,(dI a))],[.cells [(fzE false (eI .u8) p0.c),(.lit (.int .u16 p0.which)),(fzE false (eI .u8) p0.order)],.grow 1 (l1.map ((eI .i64).c true))]⟩
  refine EvL.jn T10 (fun a=>a=o10) ?_ ?_
  ·refine zab ?_;try simp only[rnA,Nat.reduceEqDiff]
   cases c4:(decide (v4<(p0.order.length:Int)))
   ·rw[c4,cond_false]at j10;try simp only[rnA]
    replace j10:=qab j10; subst j10;exact lfj hT10 rfl (wm0 [.k,.k] ⟨MB.cs ⟨qcO,qcO,qcO,qcO⟩,⟨MB.gs (eI .i64) true l1,qcO⟩⟩)
   rw[c4,cond_true]at j10;obtain⟨x5,g6,j10⟩:=bind_some j10;obtain⟨q7,g8,j10⟩:=bind_some j10;try simp only[rnA,Nat.reduceEqDiff,Nat.reduceLT,zak (n:=1) (e:=(eI .u8)) rfl g6,zmc g8,zpp g8]
   replace j10:=qab j10; subst j10;exact lfj hT10 rfl (wm0 [.k,.k] ⟨MB.cs ⟨qcO,qcO,qcO,qcO⟩,⟨MB.gs (eI .i64) true l1,qcO⟩⟩)
  rintro v5 rfl;rw[congrFun hT10 v5];refine EvL.zed (S':=⟨42,[(1,(.ptr 0 0)),(3,(fzE true (eI .i64) l1)),(4,(dI v4)),(5,(dI v5))],[.cells [(fzE false (eI .u8) p0.c),(.lit (.int .u16 p0.which)),(fzE false (eI .u8) p0.order)]]⟩) (zbD.m0 [.k,.f] rfl (msq (mf rfl (zep (e:=(eI .i64)) (t:=true) rfl rfl (.inr rfl) rfl rfl (fun k h=>nomatch h) (fun h=>by cases h<;>rfl)) (msq (msq trivial)))) ⟨MB.cs ⟨qcO,qcO,qcO,qcO⟩,qcO⟩) (zab ?_);obtain⟨y9,g10,j5⟩:=bind_some j5;obtain⟨y11,g12,j5⟩:=bind_some j5;obtain⟨y13,g14,j5⟩:=bind_some j5;obtain⟨y15,g16,j5⟩:=bind_some j5;obtain⟨y17,g18,j5⟩:=bind_some j5;try simp only[rnA,Nat.reduceEqDiff,Nat.reduceLT,Nat.reduceAdd,Nat.reduceLeDiff,zkZ (n:=1) (e:=(eI .i64)) rfl g10,zdS (n:=1) (e:=(eI .i64)) rfl,zph g12,zcS g14,(show y9.length+1=y13.length from zbT g14),(show y9.map ((eI .i64).c true)++ [[(dI v4)]]=y13.map ((eI .i64).c true)from zcr g14 ((eI .i64).c true)),zui (n:=1) (e:=(eI .i64)) rfl g16,zcS g18,(show y13.length+y15.length=y17.length from zbT g18),(show y13.map ((eI .i64).c true)++ y15.map ((eI .i64).c true)=y17.map ((eI .i64).c true)from zcr g18 ((eI .i64).c true))]
  exact⟨((w64 (v4+1)),y17),j5,by rw[hT9]; exact wm0 [.k,.k] ⟨MB.cs ⟨qcO,qcO,qcO,qcO⟩,⟨MB.gs (eI .i64) true y17,qcO⟩⟩⟩
 rintro l1 rfl;rw[congrFun hT5 l1];refine zab ?_;try simp only[rnA,Nat.reduceEqDiff,Nat.reduceLT]
 replace h:=qab h; subst h;exact zbq.ret rfl (zan (e:=(eI .i64)) (t:=true) rfl (.inr rfl) rfl rfl (fun k h=>nomatch h) (fun _=>rfl))
def zbg(p0:S_haruspexref05_Draft)(r5:(List Int)):Nat→Int→Int→(List S_api_Node)→Option (List S_api_Node)
 | 0,_,_,_=>none
 | n+1,v6,v7,l2=>(
bif (decide (v7<(zcA (zcZ (p0.nodes.length:Int) 1) 5)))then(
((bif (decide (v7<(p0.nodes.length:Int)))then(
(zaK p0.nodes v7).bind fun x9=>
some (x9.card,x9.parents,x9.w))
else(
some (0,0,[])):Option ((Int×Int×(List Int))))).bind fun o=>match o with
|(b4_0,b4_1,b4_2)=>(
(zhO .i64 (w64 (v6 * (w64 (2+(w64 (b4_0.tmod 2)))))) (IntKind.u64.wrap (w64 ((w64 ((zcA (zcZ (p0.nodes.length:Int) 1) 5) - 1)) - v7)))).bind fun q11=>
((bif (decide (100<q11))then(
some 2)
else(
some (w64 (2+(w64 (b4_0.tmod 2))))):Option Int)).bind fun v9=>
(zaK r5 v7).bind fun x14=>
(zaK l2 x14).bind fun x16=>
(zgm l2 x14 (S_api_Node.mk v9 x16.parents x16.rows)).bind fun y18=>
zbg p0 r5 n (w64 (v6 * v9)) (w64 (v7+1)) y18))
else(
some l2))
def zbB(N:Nat)(p0:S_haruspexref05_Draft)(r5:(List Int)):Nat→Int→(List S_api_Node)→Option (List S_api_Node)
 | 0,_,_=>none
 | n+1,v10,l2'=>(
bif (decide (v10<(zcA (zcZ (p0.nodes.length:Int) 1) 5)))then(
((bif (decide (v10<(p0.nodes.length:Int)))then(
(zaK p0.nodes v10).bind fun x22=>
some (x22.card,x22.parents,x22.w))
else(
some (0,0,[])):Option ((Int×Int×(List Int))))).bind fun o=>match o with
|(b4_0,b4_1,b4_2)=>(
(zaK r5 v10).bind fun x24=>
(zlO r5 v10 x24 (zcA (zcZ (p0.nodes.length:Int) 1) 5) b4_1 l2').bind fun y26=>
(zl0 N (w64 (1+(w64 (p0.grain.tmod 60)))) x24 b4_2 y26).bind fun y28=>
zbB N p0 r5 n (w64 (v10+1)) y28))
else(
some l2'))
def zbH(N:Nat)(p0:S_haruspexref05_Draft):Option S_api_Net:=
(zgd 56 (zcA (zcZ (p0.nodes.length:Int) 1) 5) (S_api_Node.mk 0 [] [])).bind fun y1=>
(zgd 1 (zcA (zcZ (p0.nodes.length:Int) 1) 5) 0).bind fun y3=>
(zaZ N (S_haruspexref02_Draft.mk y3 0 p0.order)).bind fun r5=>
((zbg p0 r5 ((zcA (zcZ (p0.nodes.length:Int) 1) 5) - 0+2:Int).toNat 1 0 y1:Option (List S_api_Node))).bind fun l2=>
((zbB N p0 r5 ((zcA (zcZ (p0.nodes.length:Int) 1) 5) - 0+2:Int).toNat 0 l2:Option (List S_api_Node))).bind fun l2'=>
some (S_api_Net.mk (w64 (1+(w64 (p0.grain.tmod 60)))) l2')
def ze1:C:=
 .seq (rg [oW 1 0,
 ⟨some 2,.alloc [(.int .i64 0),(.slice none 0 0)],none⟩])
 (.seq (rg [oF 16 1 1,
 oL 17 16,
 oE 18 17,
 ⟨some 19,.mm true [(.s 18),(.c (.int .i64 1))],none⟩,
 ⟨some 20,.mm false [(.s 19),(.c (.int .i64 5))],none⟩,
 oM 3 20])
 (.seq (.reg true false [oF 21 0 1,
 oL 22 21,
 ⟨some 23,.bin .rem (.s 22) (.c (.int .u8 60)),none⟩,
 ⟨some 24,.conv .i64 (.s 23),none⟩,
 ⟨some 25,.bin .add (.c (.int .i64 1)) (.s 24),none⟩,
 oM 26 3,
 ⟨some 27,.mk 3 56 [(.int .i64 0),(.slice none 0 0),(.slice none 0 0)] (.s 26) (.s 26),none⟩,
 ⟨some 28,.build [(.int .i64 0),(.slice none 0 0)] [(0,1,(.s 25)),(1,1,(.s 27))],none⟩,
 ⟨some 4,.alloc [(.int .i64 0),(.slice none 0 0)],none⟩,
 oS 2 4 28])
 (.seq (.reg true false [oM 29 3,
 oF 31 2 1,
 oL 32 31,
 ⟨some 30,.mk 1 1 [(.int .u8 0)] (.s 29) (.s 29),none⟩,
 ⟨some 33,.build [(.slice none 0 0),(.int .u16 0),(.slice none 0 0)] [(0,1,(.s 30)),(2,1,(.s 32))],none⟩,
 oU 34 58 33,
 oM 5 34])
 (.seq (rg [oK 6 1])
 (.seq (.seq (rg [oK 7 0])
 (.scope (.block 0 (.loop (.seq (.seq (rg [oM 35 7,
 oM 36 3,
 oB 37 .lss 35 36])
 (.cond (.s 37) (.skip)
 (.exit 0)))
 (.seq (.block 1 (.seq (rg [⟨some 8,.alloc [(.int .u8 0),(.int .u8 0),(.slice none 0 0)],none⟩])
 (.seq (.seq (rg [oM 40 7,
 oF 41 1 1,
 oL 42 41,
 oE 43 42,
 oB 44 .lss 40 43])
 (.scope (.cond (.s 44) (rg [oF 45 1 1,
 oL 46 45,
 oM 47 7,
 oI 48 3 46 47,
 oN 49 3 48,
 oS 3 8 49])
 (.skip))))
 (.seq (rg [oF 50 0 8,
 oL 51 50,
 ⟨some 52,.bin .rem (.s 51) (.c (.int .u8 2)),none⟩,
 ⟨some 53,.conv .i64 (.s 52),none⟩,
 ⟨some 54,.bin .add (.c (.int .i64 2)) (.s 53),none⟩,
 oM 9 54])
 (.seq (.seq (rg [oM 55 6,
 oM 56 9,
 oB 57 .mul 55 56,
 oM 58 3,
 oD 59 .sub 58 1,
 oM 60 7,
 oB 61 .sub 59 60,
 ⟨some 62,.conv .u64 (.s 61),none⟩,
 oB 63 .shl 57 62,
 oD 64 .gtr 63 100])
 (.scope (.cond (.s 64) (rg [oK 9 2])
 (.skip))))
 (.seq (rg [oM 65 6,
 oM 66 9,
 oB 67 .mul 65 66,
 oM 6 67])
 (.reg true false [oF 68 1 4,
 oL 69 68,
 oM 70 5,
 oM 71 7,
 oI 72 1 70 71,
 oL 73 72,
 oM 74 9,
 oI 75 3 69 73,
 oF 76 0 75,
 oS 1 76 74])))))))
 (rg [oM 38 7,
 oD 39 .add 38 1,
 oM 7 39])))))))
 (.seq (.seq (rg [oK 10 0])
 (.scope (.block 2 (.loop (.seq (.seq (rg [oM 77 10,
 oM 78 3,
 oB 79 .lss 77 78])
 (.cond (.s 79) (.skip)
 (.exit 2)))
 (.seq (.block 3 (.seq (rg [⟨some 11,.alloc [(.int .u8 0),(.int .u8 0),(.slice none 0 0)],none⟩])
 (.seq (.seq (rg [oM 82 10,
 oF 83 1 1,
 oL 84 83,
 oE 85 84,
 oB 86 .lss 82 85])
 (.scope (.cond (.s 86) (rg [oF 87 1 1,
 oL 88 87,
 oM 89 10,
 oI 90 3 88 89,
 oN 91 3 90,
 oS 3 11 91])
 (.skip))))
 (.seq (rg [oM 92 5,
 oM 93 10,
 oI 94 1 92 93,
 oL 95 94,
 oM 12 95])
 (.seq (.seq (rg [oK 13 0])
 (.scope (.block 4 (.loop (.seq (.seq (rg [oM 96 13,
 oM 97 3,
 oB 98 .lss 96 97])
 (.cond (.s 98) (.skip)
 (.exit 4)))
 (.seq (.block 5 (.seq (rg [oK 14 0])
 (.scope (.block 6 (.loop (.seq (.seq (rg [oM 101 14,
 oM 102 10,
 oB 103 .lss 101 102])
 (.cond (.s 103) (.skip)
 (.exit 6)))
 (.seq (.block 7 (.seq (.scope (rg [oM 106 5,
 oM 107 14,
 oI 108 1 106 107,
 oL 109 108,
 oM 110 13,
 oB 111 .eql 109 110,
 oM 112 111,
 oFg 113 1 11 112 true,
 oLg 114 113 112 true,
 oMg 115 14 112 true,
 ⟨some 116,.conv .u64 (.s 115),some (112,true)⟩,
 ⟨some 117,.bin .shr (.s 114) (.s 116),some (112,true)⟩,
 ⟨some 118,.bin .and (.s 117) (.c (.int .u8 1)),some (112,true)⟩,
 ⟨some 119,.bin .eql (.s 118) (.c (.int .u8 1)),some (112,true)⟩,
 ⟨some 120,.pick (.s 112) (.s 119) (.c (.bool false)),none⟩,
 oM 121 120,
 oFg 122 1 4 121 true,
 oLg 123 122 121 true,
 oMg 124 12 121 true,
 ⟨some 125,.idxS 3 (.s 123) (.s 124),some (121,true)⟩,
 oFg 126 1 125 121 true,
 oLg 127 126 121 true,
 ⟨some 128,.len (.s 127),some (121,true)⟩,
 oDg 129 .lss 128 3 121 true,
 ⟨some 130,.pick (.s 121) (.s 129) (.c (.bool false)),none⟩]))
 (.scope (.cond (.s 130) (.reg true false [oF 131 1 4,
 oL 132 131,
 oM 133 12,
 oF 134 1 4,
 oL 135 134,
 oM 136 12,
 oI 137 3 135 136,
 oF 138 1 137,
 oL 139 138,
 oM 140 13,
 ⟨some 141,.bsl 1 1 [(.int .i64 0)] [(0,(.s 140))],none⟩,
 ⟨none,.avo [(.s 131)] (.s 139),none⟩,
 oT 142 1 8 139 141,
 oI 143 3 132 133,
 oF 144 1 143,
 oS 1 144 142])
 (.skip)))))
 (rg [oM 104 14,
 oD 105 .add 104 1,
 oM 14 105]))))))))
 (rg [oM 99 13,
 oD 100 .add 99 1,
 oM 13 100])))))))
 (.seq (rg [oK 15 0])
 (.scope (.block 8 (.loop (.seq (.seq (rg [oM 145 15,
 oN 146 2 4,
 oM 147 12,
 oV 148 52 146 147,
 oU 149 51 148,
 oB 150 .lss 145 149])
 (.cond (.s 150) (.skip)
 (.exit 8)))
 (.seq (.block 9 (.reg true true [oF 153 1 4,
 oL 154 153,
 oM 155 12,
 oF 156 1 4,
 oL 157 156,
 oM 158 12,
 oI 159 3 157 158,
 oF 160 2 159,
 oL 161 160,
 oF 162 0 4,
 oL 163 162,
 oF 164 1 4,
 oL 165 164,
 oM 166 12,
 oI 167 3 165 166,
 oF 168 0 167,
 oL 169 168,
 oF 170 2 11,
 oL 171 170,
 oM 172 15,
 oF 173 1 4,
 oL 174 173,
 oM 175 12,
 oI 176 3 174 175,
 oF 177 0 176,
 oL 178 177,
 oD 179 .add 178 1,
 oB 180 .mul 172 179,
 ⟨some 181,.call 59 [(.s 163),(.s 169),(.s 171),(.s 180)],none⟩,
 ⟨some 182,.bsl 1 1 [(.slice none 0 0)] [(0,(.s 181))],none⟩,
 ⟨none,.avo [(.s 153)] (.s 161),none⟩,
 oT 183 1 24 161 182,
 oI 184 3 154 155,
 oF 185 2 184,
 oS 1 185 183]))
 (rg [oM 151 15,
 oD 152 .add 151 1,
 oM 15 152]))))))))))))
 (rg [oM 80 10,
 oD 81 .add 80 1,
 oM 10 81])))))))
 (.seq (rg [oN 186 2 4,
 oS 2 2 186])
 (.ret))))))))
theorem zgh:zlk mC 16=some (187,ze1,[.cell 2 (some 2)],false):=zcT (by kernel_rfl)
theorem zeE{N:Nat}{p0:S_haruspexref05_Draft}{r:S_api_Net}(h:zbH N p0=some r):Lx.Fn mC 16 [(.agg [(dU8 p0.grain),(fzE false zai p0.nodes),(fzE false (eI .u8) p0.order)])] (.agg [(dI r.grain),(fzE true zaa r.nodes)]):=by
 refine Fn.of zgh (zcq rfl) (qah rfl) ?_;unfold zbH at h;simp only[ze1,zfA];refine zab ?_;obtain⟨y1,g2,h⟩:=bind_some h;obtain⟨y3,g4,h⟩:=bind_some h;obtain⟨r5,g6,h⟩:=bind_some h;try simp only[rnA,Nat.reduceEqDiff,Nat.reduceLT,Nat.reduceAdd,Nat.reduceLeDiff,Int.reduceBEq,reduceCtorEq,zaj,(zbt g2).1.1,(zbt g2).1.2,qb5,(show List.replicate (Int.toNat (zcA (zcZ (p0.nodes.length:Int) 1) 5)) [(dI 0),zb0,zb0]=y1.map (zaf.c true)from zdn g2 (zaf.c true)),(zbt g4).1.2,(show List.replicate (Int.toNat (zcA (zcZ (p0.nodes.length:Int) 1) 5)) [(dU8 0)]=y3.map ((eI .u8).c true)from zdn g4 ((eI .u8).c true))]
 refine EvL.fn (zee g6) rfl rfl (.cons (.zcX (.cons (zan (e:=(eI .u8)) (t:=true) rfl (.inl rfl) (zcR g4).symm (zcR g4).symm (fun k h=>by cases h; exact qal _) (fun h=>nomatch h)) (.cons (.lit _) (.cons (zar _ _ (fun h=>nomatch h)) .nil)))) .nil) ?_;try simp only[rnA,Nat.reduceEqDiff,Nat.reduceLT,reduceCtorEq]
 obtain⟨o7,j7,h⟩:=bind_some h;obtain⟨T7,hT7⟩:=mkT fun a:(List S_api_Node)=>⟨187,[(1,(.ptr 0 0)),(2,(.ptr 1 0)),(3,(dI (zcA (zcZ (p0.nodes.length:Int) 1) 5))),(4,(.ptr 3 0)),(5,(fzE true (eI .i64) r5))],[.cells [(dU8 p0.grain),(fzE false zai p0.nodes),(fzE false (eI .u8) p0.order)],.cells [(dI 0),zb0],.els 3 (a.map (zaf.c true)),.cells [(dI (w64 (1+(w64 (p0.grain.tmod 60))))),(.sl 2 0 3 (Int.toNat (zcA (zcZ (p0.nodes.length:Int) 1) 5)) (some (Int.toNat (zcA (zcZ (p0.nodes.length:Int) 1) 5))) (Int.toNat (zcA (zcZ (p0.nodes.length:Int) 1) 5)))]]⟩
 refine EvL.jn T7 (fun a=>a=o7∧a.length=(Int.toNat (zcA (zcZ (p0.nodes.length:Int) 1) 5))) ?_ ?_
 ·refine zab ?_;simp only[rnA];obtain⟨T12,hT12⟩:=mkT fun a:(Int×Int×(List S_api_Node))=>⟨187,[(1,(.ptr 0 0)),(2,(.ptr 1 0)),(3,(dI (zcA (zcZ (p0.nodes.length:Int) 1) 5))),(4,(.ptr 3 0)),(5,(fzE true (eI .i64) r5)),(6,(dI a.1)),(7,(dI a.2.1))],[.cells [(dU8 p0.grain),(fzE false zai p0.nodes),(fzE false (eI .u8) p0.order)],.cells [(dI 0),zb0],.els 3 (a.2.2.map (zaf.c true)),.cells [(dI (w64 (1+(w64 (p0.grain.tmod 60))))),(.sl 2 0 3 (Int.toNat (zcA (zcZ (p0.nodes.length:Int) 1) 5)) (some (Int.toNat (zcA (zcZ (p0.nodes.length:Int) 1) 5))) (Int.toNat (zcA (zcZ (p0.nodes.length:Int) 1) 5)))]]⟩
  refine EvL.rounds (α:=(Int×Int×(List S_api_Node))) T12 (fun n a=>zbg p0 r5 n a.1 a.2.1 a.2.2=some o7∧a.2.2.length=(Int.toNat (zcA (zcZ (p0.nodes.length:Int) 1) 5))) ((zcA (zcZ (p0.nodes.length:Int) 1) 5) - 0+2:Int).toNat (1,0,y1) (by rw[hT12]; exact wm0 [.k,.k,.k,.k] ⟨MB.cs ⟨qcO,qcO,qcO,qcO⟩,⟨MB.cs ⟨qcO,qcO,qcO⟩,⟨MB.es zaf true y1,⟨MB.cs ⟨qcO,rfl,qcO⟩,qcO⟩⟩⟩⟩) ⟨j7,zcR g2⟩ (fun _ h=>nomatch (show(none:Option (List S_api_Node))=some o7 from h.1)) ?_;rintro n ⟨v6,v7,l2⟩ ⟨j7,el2⟩;simp only[zbg]at j7;rw[congrFun hT12 (v6,v7,l2)];refine zab ?_;try simp only[rnA,Nat.reduceEqDiff,Nat.reduceLT]
  cases c7:(decide (v7<(zcA (zcZ (p0.nodes.length:Int) 1) 5)))
  ·rw[c7,cond_false]at j7;try simp only[rnA]
   replace j7:=qab j7; subst j7;exact⟨_,⟨rfl,el2⟩,by rw[hT7]; exact wm0 [.k,.k,.k,.k] ⟨MB.cs ⟨qcO,qcO,qcO,qcO⟩,⟨MB.cs ⟨qcO,qcO,qcO⟩,⟨MB.es zaf true l2,⟨MB.cs ⟨qcO,rfl,qcO⟩,qcO⟩⟩⟩⟩⟩
  rw[c7,cond_true]at j7;try simp only[rnA,Nat.reduceEqDiff,Nat.reduceLT,Nat.reduceAdd,zaj]
  obtain⟨o13,j13,j7⟩:=bind_some j7;obtain⟨T13,hT13⟩:=mkT fun a:(Int×Int×(List Int))=>⟨187,[(1,(.ptr 0 0)),(2,(.ptr 1 0)),(3,(dI (zcA (zcZ (p0.nodes.length:Int) 1) 5))),(4,(.ptr 3 0)),(5,(fzE true (eI .i64) r5)),(6,(dI v6)),(7,(dI v7)),(8,(.ptr 4 0))],[.cells [(dU8 p0.grain),(fzE false zai p0.nodes),(fzE false (eI .u8) p0.order)],.cells [(dI 0),zb0],.els 3 (l2.map (zaf.c true)),.cells [(dI (w64 (1+(w64 (p0.grain.tmod 60))))),(.sl 2 0 3 (Int.toNat (zcA (zcZ (p0.nodes.length:Int) 1) 5)) (some (Int.toNat (zcA (zcZ (p0.nodes.length:Int) 1) 5))) (Int.toNat (zcA (zcZ (p0.nodes.length:Int) 1) 5)))],.cells [(dU8 a.1),(dU8 a.2.1),(fzE false (eI .u8) a.2.2)]]⟩
  refine EvL.jn T13 (fun a=>a=o13) ?_ ?_
  ·refine zab ?_;try simp only[rnA,Nat.reduceEqDiff]
   cases c8:(decide (v7<(p0.nodes.length:Int)))
   ·rw[c8,cond_false]at j13;try simp only[rnA]
    replace j13:=qab j13; subst j13;exact lfj hT13 rfl (wm0 [.k,.k,.k,.k,.k] ⟨MB.cs ⟨qcO,qcO,qcO,qcO⟩,⟨MB.cs ⟨qcO,qcO,qcO⟩,⟨MB.es zaf true l2,⟨MB.cs ⟨qcO,rfl,qcO⟩,⟨MB.zvR (.cons (.same trivial) (.cons (.same trivial) (.cons (.fr (znf (eI .u8))) .nil))),qcO⟩⟩⟩⟩⟩)
   rw[c8,cond_true]at j13;obtain⟨x9,g10,j13⟩:=bind_some j13;try simp only[rnA,Nat.reduceEqDiff,Nat.reduceLT,Nat.reduceAdd,Nat.reduceLeDiff,zay,zak (n:=3) (e:=zai) rfl g10]
   replace j13:=qab j13; subst j13;exact lfj hT13 rfl (wm0 [.k,.k,.k,.k,.k] ⟨MB.cs ⟨qcO,qcO,qcO,qcO⟩,⟨MB.cs ⟨qcO,qcO,qcO⟩,⟨MB.es zaf true l2,⟨MB.cs ⟨qcO,rfl,qcO⟩,⟨MB.cs ⟨qcO,qcO,qcO,qcO⟩,qcO⟩⟩⟩⟩⟩)
  rintro⟨b4_0,b4_1,b4_2⟩ rfl;dsimp only at j7;rw[congrFun hT13 (b4_0,b4_1,b4_2)];refine zab ?_;obtain⟨q11,g12,j7⟩:=bind_some j7;try simp only[rnA,Nat.reduceEqDiff,Nat.reduceLT,Int.reduceBEq,(zaY g12).1,(zaY g12).2]
  obtain⟨o14,j14,j7⟩:=bind_some j7;obtain⟨T14,hT14⟩:=mkT fun a:Int=>⟨187,[(1,(.ptr 0 0)),(2,(.ptr 1 0)),(3,(dI (zcA (zcZ (p0.nodes.length:Int) 1) 5))),(4,(.ptr 3 0)),(5,(fzE true (eI .i64) r5)),(6,(dI v6)),(7,(dI v7)),(9,(dI a))],[.cells [(dU8 p0.grain),(fzE false zai p0.nodes),(fzE false (eI .u8) p0.order)],.cells [(dI 0),zb0],.els 3 (l2.map (zaf.c true)),.cells [(dI (w64 (1+(w64 (p0.grain.tmod 60))))),(.sl 2 0 3 (Int.toNat (zcA (zcZ (p0.nodes.length:Int) 1) 5)) (some (Int.toNat (zcA (zcZ (p0.nodes.length:Int) 1) 5))) (Int.toNat (zcA (zcZ (p0.nodes.length:Int) 1) 5)))]]⟩
  refine EvL.jn T14 (fun a=>a=o14) ?_ ?_
  ·refine zab ?_;try simp only[rnA,Nat.reduceEqDiff]
   cases c13:(decide (100<q11))
   ·rw[c13,cond_false]at j14;try simp only[rnA]
    replace j14:=qab j14; subst j14;exact lfj hT14 rfl (wm0 [.k,.k,.k,.k] ⟨MB.cs ⟨qcO,qcO,qcO,qcO⟩,⟨MB.cs ⟨qcO,qcO,qcO⟩,⟨MB.es zaf true l2,⟨MB.cs ⟨qcO,rfl,qcO⟩,qcO⟩⟩⟩⟩)
   rw[c13,cond_true]at j14;try simp only[rnA,Nat.reduceLT]
   replace j14:=qab j14; subst j14;exact lfj hT14 rfl (wm0 [.k,.k,.k,.k] ⟨MB.cs ⟨qcO,qcO,qcO,qcO⟩,⟨MB.cs ⟨qcO,qcO,qcO⟩,⟨MB.es zaf true l2,⟨MB.cs ⟨qcO,rfl,qcO⟩,qcO⟩⟩⟩⟩)
  rintro v9 rfl;rw[congrFun hT14 v9];refine zab ?_;obtain⟨x14,g15,j7⟩:=bind_some j7;obtain⟨x16,g17,j7⟩:=bind_some j7;obtain⟨y18,g19,j7⟩:=bind_some j7;try simp only[rnA,Nat.reduceEqDiff,Nat.reduceLT,Nat.reduceAdd,Nat.reduceLeDiff,zd9,zak (n:=1) (e:=(eI .i64)) rfl g15,el2,zbz g17,(show x14<(((Int.toNat (zcA (zcZ (p0.nodes.length:Int) 1) 5)):Nat):Int)from el2 ▸ zbS g17),zbi g17 (zaf.c true),(show(l2.map (zaf.c true)).set x14.toNat [(dI v9),(nE true (eI .i64) x16.parents),(nE true (eL (eI .i64)) x16.rows)]=y18.map (zaf.c true)from zci g19 (zaf.c true))]
  exact⟨((w64 (v6 * v9)),(w64 (v7+1)),y18),⟨j7,(zb2 g19).trans el2⟩,by rw[hT12]; exact wm0 [.k,.k,.k,.k] ⟨MB.cs ⟨qcO,qcO,qcO,qcO⟩,⟨MB.cs ⟨qcO,qcO,qcO⟩,⟨MB.es zaf true y18,⟨MB.cs ⟨qcO,rfl,qcO⟩,qcO⟩⟩⟩⟩⟩
 rintro l2 ⟨rfl,el2⟩;rw[congrFun hT7 l2];refine zab ?_;try simp only[rnA,Nat.reduceLT]
 obtain⟨o18,j18,h⟩:=bind_some h;obtain⟨T18,hT18⟩:=mkT fun a:(List S_api_Node)=>⟨187,[(2,(.ptr 1 0)),(4,(.ptr 3 0))],[.gone,.cells [(dI 0),zb0],.els 3 (a.map (zaf.c true)),.cells [(dI (w64 (1+(w64 (p0.grain.tmod 60))))),(.sl 2 0 3 (Int.toNat (zcA (zcZ (p0.nodes.length:Int) 1) 5)) (some (Int.toNat (zcA (zcZ (p0.nodes.length:Int) 1) 5))) (Int.toNat (zcA (zcZ (p0.nodes.length:Int) 1) 5)))]]⟩
 refine EvL.jn T18 (fun a=>a=o18∧a.length=(Int.toNat (zcA (zcZ (p0.nodes.length:Int) 1) 5))) ?_ ?_
 ·refine zab ?_;simp only[rnA];obtain⟨T21,hT21⟩:=mkT fun a:(Int×(List S_api_Node))=>⟨187,[(1,(.ptr 0 0)),(2,(.ptr 1 0)),(3,(dI (zcA (zcZ (p0.nodes.length:Int) 1) 5))),(4,(.ptr 3 0)),(5,(fzE true (eI .i64) r5)),(10,(dI a.1))],[.cells [(dU8 p0.grain),(fzE false zai p0.nodes),(fzE false (eI .u8) p0.order)],.cells [(dI 0),zb0],.els 3 (a.2.map (zaf.c true)),.cells [(dI (w64 (1+(w64 (p0.grain.tmod 60))))),(.sl 2 0 3 (Int.toNat (zcA (zcZ (p0.nodes.length:Int) 1) 5)) (some (Int.toNat (zcA (zcZ (p0.nodes.length:Int) 1) 5))) (Int.toNat (zcA (zcZ (p0.nodes.length:Int) 1) 5)))]]⟩
  refine EvL.rounds (α:=(Int×(List S_api_Node))) T21 (fun n a=>zbB N p0 r5 n a.1 a.2=some o18∧a.2.length=(Int.toNat (zcA (zcZ (p0.nodes.length:Int) 1) 5))) ((zcA (zcZ (p0.nodes.length:Int) 1) 5) - 0+2:Int).toNat (0,l2) (by rw[hT21]; exact wm0 [.k,.k,.k,.k] ⟨MB.cs ⟨qcO,qcO,qcO,qcO⟩,⟨MB.cs ⟨qcO,qcO,qcO⟩,⟨MB.es zaf true l2,⟨MB.cs ⟨qcO,rfl,qcO⟩,qcO⟩⟩⟩⟩) ⟨j18,el2⟩ (fun _ h=>nomatch (show(none:Option (List S_api_Node))=some o18 from h.1)) ?_;rintro n ⟨v10,l2'⟩ ⟨j18,el2'⟩;simp only[zbB]at j18;rw[congrFun hT21 (v10,l2')];refine zab ?_;try simp only[rnA,Nat.reduceEqDiff,Nat.reduceLT]
  cases c20:(decide (v10<(zcA (zcZ (p0.nodes.length:Int) 1) 5)))
  ·rw[c20,cond_false]at j18;try simp only[rnA]
   replace j18:=qab j18; subst j18;exact⟨_,⟨rfl,el2'⟩,by rw[hT18]; exact wm0 [.d,.k,.k,.k] ⟨rfl,⟨MB.cs ⟨qcO,qcO,qcO⟩,⟨MB.es zaf true l2',⟨MB.cs ⟨qcO,rfl,qcO⟩,qcO⟩⟩⟩⟩⟩
  rw[c20,cond_true]at j18;try simp only[rnA,Nat.reduceEqDiff,Nat.reduceLT,Nat.reduceAdd,zaj]
  obtain⟨o22,j22,j18⟩:=bind_some j18;obtain⟨T22,hT22⟩:=mkT fun a:(Int×Int×(List Int))=>⟨187,[(1,(.ptr 0 0)),(2,(.ptr 1 0)),(3,(dI (zcA (zcZ (p0.nodes.length:Int) 1) 5))),(4,(.ptr 3 0)),(5,(fzE true (eI .i64) r5)),(10,(dI v10)),(11,(.ptr 4 0))],[.cells [(dU8 p0.grain),(fzE false zai p0.nodes),(fzE false (eI .u8) p0.order)],.cells [(dI 0),zb0],.els 3 (l2'.map (zaf.c true)),.cells [(dI (w64 (1+(w64 (p0.grain.tmod 60))))),(.sl 2 0 3 (Int.toNat (zcA (zcZ (p0.nodes.length:Int) 1) 5)) (some (Int.toNat (zcA (zcZ (p0.nodes.length:Int) 1) 5))) (Int.toNat (zcA (zcZ (p0.nodes.length:Int) 1) 5)))],.cells [(dU8 a.1),(dU8 a.2.1),(fzE false (eI .u8) a.2.2)]]⟩
  refine EvL.jn T22 (fun a=>a=o22) ?_ ?_
  ·refine zab ?_;try simp only[rnA,Nat.reduceEqDiff]
   cases c21:(decide (v10<(p0.nodes.length:Int)))
   ·rw[c21,cond_false]at j22;try simp only[rnA]
    replace j22:=qab j22; subst j22;exact lfj hT22 rfl (wm0 [.k,.k,.k,.k,.k] ⟨MB.cs ⟨qcO,qcO,qcO,qcO⟩,⟨MB.cs ⟨qcO,qcO,qcO⟩,⟨MB.es zaf true l2',⟨MB.cs ⟨qcO,rfl,qcO⟩,⟨MB.zvR (.cons (.same trivial) (.cons (.same trivial) (.cons (.fr (znf (eI .u8))) .nil))),qcO⟩⟩⟩⟩⟩)
   rw[c21,cond_true]at j22;obtain⟨x22,g23,j22⟩:=bind_some j22;try simp only[rnA,Nat.reduceEqDiff,Nat.reduceLT,Nat.reduceAdd,Nat.reduceLeDiff,zay,zak (n:=3) (e:=zai) rfl g23]
   replace j22:=qab j22; subst j22;exact lfj hT22 rfl (wm0 [.k,.k,.k,.k,.k] ⟨MB.cs ⟨qcO,qcO,qcO,qcO⟩,⟨MB.cs ⟨qcO,qcO,qcO⟩,⟨MB.es zaf true l2',⟨MB.cs ⟨qcO,rfl,qcO⟩,⟨MB.cs ⟨qcO,qcO,qcO,qcO⟩,qcO⟩⟩⟩⟩⟩)
  rintro⟨b4_0,b4_1,b4_2⟩ rfl;dsimp only at j18;rw[congrFun hT22 (b4_0,b4_1,b4_2)];refine zab ?_;obtain⟨x24,g25,j18⟩:=bind_some j18;try simp only[rnA,Nat.reduceEqDiff,Nat.reduceLT,zak (n:=1) (e:=(eI .i64)) rfl g25]
  obtain⟨y26,g27,j18⟩:=bind_some j18;refine EvL.zed (S':=⟨187,[(1,(.ptr 0 0)),(2,(.ptr 1 0)),(3,(dI (zcA (zcZ (p0.nodes.length:Int) 1) 5))),(4,(.ptr 3 0)),(5,(fzE true (eI .i64) r5)),(10,(dI v10)),(11,(.ptr 4 0)),(12,(dI x24)),(13,(dI 0))],[.cells [(dU8 p0.grain),(fzE false zai p0.nodes),(fzE false (eI .u8) p0.order)],.cells [(dI 0),zb0],.els 3 (l2'.map (zaf.c true)),.cells [(dI (w64 (1+(w64 (p0.grain.tmod 60))))),(.sl 2 0 3 (Int.toNat (zcA (zcZ (p0.nodes.length:Int) 1) 5)) (some (Int.toNat (zcA (zcZ (p0.nodes.length:Int) 1) 5))) (Int.toNat (zcA (zcZ (p0.nodes.length:Int) 1) 5)))],.cells [(dU8 b4_0),(dU8 b4_1),(fzE false (eI .u8) b4_2)]]⟩) (wm0 [.k,.k,.k,.k,.k] ⟨MB.cs ⟨qcO,qcO,qcO,qcO⟩,⟨MB.cs ⟨qcO,qcO,qcO⟩,⟨MB.es zaf true l2',⟨MB.cs ⟨qcO,rfl,qcO⟩,⟨MB.cs ⟨qcO,qcO,qcO,qcO⟩,qcO⟩⟩⟩⟩⟩) ?_;refine zvu g27 (fun kp=>⟨qcO,qcO,qcO,qcO⟩) (fun kp=>⟨qcO,qcO,qcO⟩) (fun kp=>trivial) (fun kp=>trivial) el2' (zab ?_);try simp only[rnA,Nat.reduceLT]
  obtain⟨y28,g29,j18⟩:=bind_some j18;refine EvL.zed (S':=⟨187,[(1,(.ptr 0 0)),(2,(.ptr 1 0)),(3,(dI (zcA (zcZ (p0.nodes.length:Int) 1) 5))),(4,(.ptr 3 0)),(5,(fzE true (eI .i64) r5)),(10,(dI v10)),(11,(.ptr 4 0)),(12,(dI x24)),(15,(dI 0))],[.cells [(dU8 p0.grain),(fzE false zai p0.nodes),(fzE false (eI .u8) p0.order)],.cells [(dI 0),zb0],.els 3 (y26.map (zaf.c true)),.cells [(dI (w64 (1+(w64 (p0.grain.tmod 60))))),(.sl 2 0 3 (Int.toNat (zcA (zcZ (p0.nodes.length:Int) 1) 5)) (some (Int.toNat (zcA (zcZ (p0.nodes.length:Int) 1) 5))) (Int.toNat (zcA (zcZ (p0.nodes.length:Int) 1) 5)))],.cells [(dU8 b4_0),(dU8 b4_1),(fzE false (eI .u8) b4_2)]]⟩) (wm0 [.k,.k,.k,.k,.k] ⟨MB.cs ⟨qcO,qcO,qcO,qcO⟩,⟨MB.cs ⟨qcO,qcO,qcO⟩,⟨MB.es zaf true y26,⟨MB.cs ⟨qcO,rfl,qcO⟩,⟨MB.cs ⟨qcO,qcO,qcO,qcO⟩,qcO⟩⟩⟩⟩⟩) ?_;refine zud g29 (fun kp=>⟨qcO,qcO,qcO,qcO⟩) (fun kp=>⟨qcO,qcO,qcO⟩) (fun kp=>trivial) (fun kp=>trivial) ((ziA g27).trans el2') (zab ?_);try simp only[rnA,Nat.reduceEqDiff,Nat.reduceLT]
  exact⟨((w64 (v10+1)),y28),⟨j18,((zob g29).trans ((ziA g27).trans el2'))⟩,by rw[hT21]; exact wm0 [.k,.k,.k,.k] ⟨MB.cs ⟨qcO,qcO,qcO,qcO⟩,⟨MB.cs ⟨qcO,qcO,qcO⟩,⟨MB.es zaf true y28,⟨MB.cs ⟨qcO,rfl,qcO⟩,qcO⟩⟩⟩⟩⟩
 rintro l2' ⟨rfl,el2'⟩;rw[congrFun hT18 l2'];refine zab ?_;try simp only[rnA,Nat.reduceEqDiff,Nat.reduceLT,Nat.reduceAdd,Nat.reduceLeDiff]
 replace h:=qab h; subst h;exact zbq.ret rfl (.zcX (.cons (.lit _) (.cons (zat (e:=zaa) rfl (.inl rfl) (by rw[qaD]; exact(el2').symm) (by rw[qaD]; exact(el2').symm) (fun k h=>by cases h; exact qal _) (zhG (fun _=>rfl) l2')) .nil)))
def zaV(p1:S_api_Node)(p0:S_net_network):Nat→Int→Int→Option Int
 | 0,_,_=>none
 | n+1,v5,v16=>(
bif (decide (v16<(p1.parents.length:Int)))then(
(zaK p1.parents v16).bind fun x2=>
(zaK p0.cards x2).bind fun x4=>
zaV p1 p0 n (w64 (v5 * x4)) (w64 (v16+1)))
else(
some v5))
def zaw(y11:(Int×(List Int))):Nat→Int→Int→Option (Out Int Bool)
 | 0,_,_=>none
 | n+1,v10,v42=>(
bif (decide (v42<(y11.2.length:Int)))then(
(zaK y11.2 v42).bind fun x13=>
((bif (decide (x13<0))then(
some true)
else(
some (decide (v10<x13))):Option Bool)).bind fun v52=>
bif v52 then(
some (.ret false))
else(
zaw y11 n (w64 (v10 - x13)) (w64 (v42+1))))
else(
some (.go v10)))
def zav(p0:S_net_network)(p1:S_api_Node):List (Int×(List Int))→Option (Out Unit Bool)
 | []=>some (.go ())
 | y11 :: ys=>(
((zaw y11 ((y11.2.length:Int) - 0+2:Int).toNat p0.net.grain 0:Option (Out Int Bool))).bind fun o=>match o with
| .go v10=>(
((bif ((y11.2.length:Int)== p1.card)then(
some (!(v10 == 0)))
else(
some true):Option Bool)).bind fun v65=>
bif v65 then(
some (.ret false))
else(
zav p0 p1 ys))
| .ret r=>some (.ret r))
def zaF(p0:S_net_network)(p1:S_api_Node):Option Bool:=
((zaV p1 p0 ((p1.parents.length:Int) - 0+2:Int).toNat 1 0:Option Int)).bind fun v5=>
bif ((p1.rows.length:Int)== v5)then(
(zfb p1).bind fun r7=>
(zgx r7.rows).bind fun u9=>
((zav p0 p1 (zqn r7.rows):Option (Out Unit Bool))).bind fun o=>match o with
| .go _=>(
some true)
| .ret r=>some r)
else(
some false)
theorem zeU{p0:S_net_network}{p1:S_api_Node}{r:Bool}(h:zaF p0 p1=some r):Lx.Fn mC 73 [(.agg [(dI p0.net.grain),(fzE false zaa p0.net.nodes),(fzE false (eI .i64) p0.cards),(fzE false (eI .u64) p0.sets),(fzE false (eI .i64) p0.order)]),(.agg [(dI p1.card),(fzE false (eI .i64) p1.parents),(fzE false (eL (eI .i64)) p1.rows)])] (dB r):=by
 refine fnO (by conv=>lhs; cbv) ?_;unfold zaF at h;refine zab ?_;try simp only[rnA,Nat.reduceEqDiff,Nat.reduceLT,Nat.reduceAdd,reduceCtorEq,zaj]
 obtain⟨o1,j1,h⟩:=bind_some h;obtain⟨T1,hT1⟩:=mkT fun a:Int=>⟨66,[(2,(.ptr 0 0)),(3,(.ptr 1 0)),(4,(.ptr 2 0)),(5,(dI a))],[.cells [(dI p0.net.grain),(fzE false zaa p0.net.nodes),(fzE false (eI .i64) p0.cards),(fzE false (eI .u64) p0.sets),(fzE false (eI .i64) p0.order)],.cells [(dI p1.card),(fzE false (eI .i64) p1.parents),(fzE false (eL (eI .i64)) p1.rows)],.cells [(dB false)]]⟩
 refine EvL.jn T1 (fun a=>a=o1) ?_ ?_
 ·refine zab ?_;simp only[rnA];obtain⟨T2,hT2⟩:=mkT fun a:(Int×Int)=>⟨66,[(2,(.ptr 0 0)),(3,(.ptr 1 0)),(4,(.ptr 2 0)),(5,(dI a.1)),(14,(fzE false (eI .i64) p1.parents)),(15,(dI (p1.parents.length:Int))),(16,(dI a.2))],[.cells [(dI p0.net.grain),(fzE false zaa p0.net.nodes),(fzE false (eI .i64) p0.cards),(fzE false (eI .u64) p0.sets),(fzE false (eI .i64) p0.order)],.cells [(dI p1.card),(fzE false (eI .i64) p1.parents),(fzE false (eL (eI .i64)) p1.rows)],.cells [(dB false)]]⟩
  refine EvL.rounds (α:=(Int×Int)) T2 (fun n a=>zaV p1 p0 n a.1 a.2=some o1) ((p1.parents.length:Int) - 0+2:Int).toNat (1,0) (by rw[hT2]; exact wm0 [.k,.k,.k] ⟨MB.cs ⟨qcO,qcO,qcO,qcO,qcO,qcO⟩,⟨MB.cs ⟨qcO,qcO,qcO,qcO⟩,⟨MB.cs ⟨qcO,qcO⟩,qcO⟩⟩⟩) j1 (fun _ h=>nomatch (show(none:Option Int)=some o1 from h)) ?_;rintro n ⟨v5,v16⟩ j1;simp only[zaV]at j1;rw[congrFun hT2 (v5,v16)];refine zab ?_;try simp only[rnA,Nat.reduceEqDiff,Nat.reduceLT]
  cases c1:(decide (v16<(p1.parents.length:Int)))
  ·rw[c1,cond_false]at j1;try simp only[rnA]
   replace j1:=qab j1; subst j1;exact lfj hT1 rfl (wm0 [.k,.k,.k] ⟨MB.cs ⟨qcO,qcO,qcO,qcO,qcO,qcO⟩,⟨MB.cs ⟨qcO,qcO,qcO,qcO⟩,⟨MB.cs ⟨qcO,qcO⟩,qcO⟩⟩⟩)
  rw[c1,cond_true]at j1;obtain⟨x2,g3,j1⟩:=bind_some j1;obtain⟨x4,g5,j1⟩:=bind_some j1;try simp only[rnA,Nat.reduceEqDiff,Nat.reduceLT,zak (n:=1) (e:=(eI .i64)) rfl g3,zak (n:=1) (e:=(eI .i64)) rfl g5]
  exact⟨((w64 (v5 * x4)),(w64 (v16+1))),j1,by rw[hT2]; exact wm0 [.k,.k,.k] ⟨MB.cs ⟨qcO,qcO,qcO,qcO,qcO,qcO⟩,⟨MB.cs ⟨qcO,qcO,qcO,qcO⟩,⟨MB.cs ⟨qcO,qcO⟩,qcO⟩⟩⟩⟩
 rintro v5 rfl;rw[congrFun hT1 v5];refine zab ?_;try simp only[rnA,Nat.reduceEqDiff,Nat.reduceLT,zaj]
 cases c6:((p1.rows.length:Int)== v5)
 ·rw[c6,cond_false]at h;try simp only[rnA,Nat.reduceEqDiff,Nat.reduceLeDiff]
  replace h:=qab h; subst h;exact zbq.ret rfl (.lit _)
 rw[c6,cond_true]at h;obtain⟨r7,g8,h⟩:=bind_some h;try simp only[rnA,Nat.reduceEqDiff,Nat.reduceLT,Nat.reduceAdd,Nat.reduceLeDiff]
 refine EvL.fnS (zlA g8) rfl rfl (.cons (Mzs.agg (.cons (.lit _) (.cons (zdv _ _ (fun h=>by cases h<;>contradiction)) (.cons (zdv _ _ (fun h=>by cases h<;>contradiction)) .nil)))) .nil) ⟨⟨qcO,(zaH _ _),(zaH _ _),qcO⟩,qcO⟩ ⟨qcO,⟨⟨rfl,zaa.fr _⟩,qcO⟩⟩ ?_;try simp only[rnA,Nat.reduceLT,zac]
 obtain⟨u9,g10,h⟩:=bind_some h;obtain⟨o12,j12,h⟩:=bind_some h;obtain⟨T12,hT12⟩:∃ T:Unit→List LB,T=(fun a=>[.cells [(dI p0.net.grain),(fzE false zaa p0.net.nodes),(fzE false (eI .i64) p0.cards),(fzE false (eI .u64) p0.sets),(fzE false (eI .i64) p0.order)],.cells [(dI p1.card),(fzE false (eI .i64) p1.parents),(fzE false (eL (eI .i64)) p1.rows)],.cells [(dB false)]]):=⟨_,rfl⟩;refine EvL.zed (S':=⟨66,[(2,(.ptr 0 0)),(3,(.ptr 1 0)),(4,(.ptr 2 0)),(34,(.clo 90 [] [(.fptr false (zaa.c false r7))]))],T12 ()⟩) (by rw[hT12]; exact wm0 [.k,.k,.k] ⟨MB.cs ⟨qcO,qcO,qcO,qcO,qcO,qcO⟩,⟨MB.cs ⟨qcO,qcO,qcO,qcO⟩,⟨MB.cs ⟨qcO,qcO⟩,qcO⟩⟩⟩) ?_;refine EvL.zoi (n0:=3) (zkp r7 g10) rfl (bm:=.block 3 (.seq (.reg false false [⟨some 37,.fld 0 (.s 2),none⟩,⟨some 38,.fld 0 (.s 37),none⟩,⟨some 39,.load none (.s 38),none⟩,⟨some 10,.mov (.s 39),none⟩]) (.seq (.seq (.reg false false [⟨some 40,.mov (.s 9),none⟩,⟨some 41,.len (.s 40),none⟩,⟨some 42,.mov (.c (.int .i64 0)),none⟩]) (.scope (.block 4 (.loop (.seq (.reg false false [⟨some 43,.bin .lss (.s 42) (.s 41),none⟩]) (.seq (.cond (.s 43) (.skip) (.exit 4)) (.seq (.block 5 (.seq (.reg false false [⟨some 44,.idxS 1 (.s 40) (.s 42),none⟩,⟨some 45,.load none (.s 44),none⟩,⟨some 12,.mov (.s 45),none⟩]) (.seq (.seq (.scope (.reg false false [⟨some 46,.mov (.s 12),none⟩,⟨some 47,.bin .lss (.s 46) (.c (.int .i64 0)),none⟩,⟨some 48,.mov (.s 47),none⟩,⟨some 49,.mov (.s 12),some (48,false)⟩,⟨some 50,.mov (.s 10),some (48,false)⟩,⟨some 51,.bin .gtr (.s 49) (.s 50),some (48,false)⟩,⟨some 52,.pick (.s 48) (.c (.bool true)) (.s 51),none⟩])) (.cond (.s 52) (.seq (.reg false false [⟨none,.store 1 (.s 4) (.c (.bool false)),none⟩]) (.ret)) (.skip))) (.reg false false [⟨some 53,.mov (.s 10),none⟩,⟨some 54,.mov (.s 12),none⟩,⟨some 55,.bin .sub (.s 53) (.s 54),none⟩,⟨some 10,.mov (.s 55),none⟩])))) (.reg false false [⟨some 56,.bin .add (.s 42) (.c (.int .i64 1)),none⟩,⟨some 42,.mov (.s 56),none⟩])))))))) (.seq (.scope (.reg false false [⟨some 57,.mov (.s 9),none⟩,⟨some 58,.len (.s 57),none⟩,⟨some 59,.fld 0 (.s 3),none⟩,⟨some 60,.load none (.s 59),none⟩,⟨some 61,.bin .neq (.s 58) (.s 60),none⟩,⟨some 62,.mov (.s 61),none⟩,⟨some 63,.mov (.s 10),some (62,false)⟩,⟨some 64,.bin .neq (.s 63) (.c (.int .i64 0)),some (62,false)⟩,⟨some 65,.pick (.s 62) (.c (.bool true)) (.s 64),none⟩])) (.cond (.s 65) (.seq (.reg false false [⟨none,.store 1 (.s 4) (.c (.bool false)),none⟩]) (.ret)) (.skip)))))) rfl T12 (fun i a=>zav p0 p1 ((zqn r7.rows).drop i)=some o12) (fun x L1=>match x with | .normal=>∃ a,o12=.go a∧L1=T12 a | .ret=>L1.length=3∧zf4 (3+1) L1∧(zbq [.cell 4 none] ((dB r))) .ret ⟨66,[(2,(.ptr 0 0)),(3,(.ptr 1 0)),(4,(.ptr 2 0)),(34,(.clo 90 [] [(.fptr false (zaa.c false r7))]))],L1 ++ [.lost]⟩| _=>False) () ?_ (qar _) ?_ ?_ ?_ (fun d L1 hx=>hx.elim) ?_ ?_ ?_ ?_ ?_ ?_
 ·intro a; rw[hT12]; rfl
 ·exact⟨(qah rfl),(qah rfl),(qah rfl),⟨qcO,⟨qcO,qcO⟩⟩,qcO⟩
 ·intro a; rw[hT12]; exact⟨⟨qcO,qcO,qcO,qcO,qcO,qcO⟩,⟨qcO,qcO,qcO,qcO⟩,⟨qcO,qcO⟩,qcO⟩
 ·intro x L1 hx;cases x with
  | normal=>obtain⟨a,_,rfl⟩:=hx; exact⟨by rw[hT12]; rfl,by rw[hT12]; exact⟨⟨qcO,qcO,qcO,qcO,qcO,qcO⟩,⟨qcO,qcO,qcO,qcO⟩,⟨qcO,qcO⟩,qcO⟩⟩
  | ret=>exact⟨hx.1,hx.2.1⟩
  | exit id=>exact hx.elim
  | panic d=>exact hx.elim
 ·exact j12
 ·rintro i ⟨⟩ y11 args G lpF hy hi12 ⟨rfl,rfl⟩ hkin;rw[zrO hy]at hi12;simp only[zav]at hi12;refine⟨_,_,rfl,rfl,?_⟩;rw[congrFun hT12 ()];refine zab ?_;try simp only[rnA,Nat.reduceEqDiff,Nat.reduceLT,Nat.reduceAdd,zac,zaj]
  obtain⟨o16,j16,hi12⟩:=bind_some hi12;obtain⟨T16,hT16⟩:=mkT fun a:Int=>⟨66,[(3,(.ptr 1 0)),(4,(.ptr 2 0)),(9,(fzE false (eI .i64) y11.2)),(10,(dI a))],[.cells [(dI p0.net.grain),(fzE false zaa p0.net.nodes),(fzE false (eI .i64) p0.cards),(fzE false (eI .u64) p0.sets),(fzE false (eI .i64) p0.order)],.cells [(dI p1.card),(fzE false (eI .i64) p1.parents),(fzE false (eL (eI .i64)) p1.rows)],.cells [(dB false)],lpF]⟩
  refine EvL.jn T16 (fun a=>o16=.go a) ?_ ?_
  ·refine zab ?_;simp only[rnA];obtain⟨T19,hT19⟩:=mkT fun a:(Int×Int)=>⟨66,[(3,(.ptr 1 0)),(4,(.ptr 2 0)),(9,(fzE false (eI .i64) y11.2)),(10,(dI a.1)),(40,(fzE false (eI .i64) y11.2)),(41,(dI (y11.2.length:Int))),(42,(dI a.2))],[.cells [(dI p0.net.grain),(fzE false zaa p0.net.nodes),(fzE false (eI .i64) p0.cards),(fzE false (eI .u64) p0.sets),(fzE false (eI .i64) p0.order)],.cells [(dI p1.card),(fzE false (eI .i64) p1.parents),(fzE false (eL (eI .i64)) p1.rows)],.cells [(dB false)],lpF]⟩
   refine EvL.rounds (α:=(Int×Int)) T19 (fun n a=>zaw y11 n a.1 a.2=some o16) ((y11.2.length:Int) - 0+2:Int).toNat (p0.net.grain,0) (by rw[hT19]; exact zbD.mK (k0:=4) [.k,.k,.k,.k] rfl rfl (msq (msq (msq (msq (msq (msq (msq trivial))))))) ⟨MB.cs ⟨qcO,qcO,qcO,qcO,qcO,qcO⟩,⟨MB.cs ⟨qcO,qcO,qcO,qcO⟩,⟨MB.cs ⟨qcO,qcO⟩,⟨.same (hkin _ (by decide)),qcO⟩⟩⟩⟩) j16 (fun _ h=>nomatch (show(none:Option (Out Int Bool))=some o16 from h)) ?_;rintro n ⟨v10,v42⟩ j16;simp only[zaw]at j16;rw[congrFun hT19 (v10,v42)];refine zab ?_;try simp only[rnA,Nat.reduceEqDiff,Nat.reduceLT]
   cases c12:(decide (v42<(y11.2.length:Int)))
   ·rw[c12,cond_false]at j16;try simp only[rnA,Nat.reduceEqDiff]
    replace j16:=qab j16; subst j16;exact⟨_,rfl,by rw[hT16]; exact zbD.mK (k0:=4) [.k,.k,.k,.k] rfl rfl (msq (msq (msq (msq trivial)))) ⟨MB.cs ⟨qcO,qcO,qcO,qcO,qcO,qcO⟩,⟨MB.cs ⟨qcO,qcO,qcO,qcO⟩,⟨MB.cs ⟨qcO,qcO⟩,⟨.same (hkin _ (by decide)),qcO⟩⟩⟩⟩⟩
   rw[c12,cond_true]at j16;obtain⟨x13,g14,j16⟩:=bind_some j16;try simp only[rnA,Nat.reduceEqDiff,Nat.reduceLT,zak (n:=1) (e:=(eI .i64)) rfl g14]
   obtain⟨o20,j20,j16⟩:=bind_some j16;obtain⟨T20,hT20⟩:=mkT fun a:Bool=>⟨66,[(3,(.ptr 1 0)),(4,(.ptr 2 0)),(9,(fzE false (eI .i64) y11.2)),(10,(dI v10)),(12,(dI x13)),(40,(fzE false (eI .i64) y11.2)),(41,(dI (y11.2.length:Int))),(42,(dI v42)),(52,(dB a))],[.cells [(dI p0.net.grain),(fzE false zaa p0.net.nodes),(fzE false (eI .i64) p0.cards),(fzE false (eI .u64) p0.sets),(fzE false (eI .i64) p0.order)],.cells [(dI p1.card),(fzE false (eI .i64) p1.parents),(fzE false (eL (eI .i64)) p1.rows)],.cells [(dB false)],lpF]⟩
   refine EvL.jn T20 (fun a=>a=o20) ?_ ?_
   ·refine zab ?_;try simp only[rnA,Nat.reduceEqDiff,Nat.reduceLT]
    cases c15:(decide (x13<0))
    ·rw[c15,cond_false]at j20;try simp only[rnA,Nat.reduceEqDiff,Nat.reduceLT]
     replace j20:=qab j20; subst j20;exact⟨_,rfl,by rw[hT20]; exact zbD.mK (k0:=4) [.k,.k,.k,.k] rfl rfl (msq (msq (msq (msq (msq (msq (msq (msq (msq trivial))))))))) ⟨MB.cs ⟨qcO,qcO,qcO,qcO,qcO,qcO⟩,⟨MB.cs ⟨qcO,qcO,qcO,qcO⟩,⟨MB.cs ⟨qcO,qcO⟩,⟨.same (hkin _ (by decide)),qcO⟩⟩⟩⟩⟩
    rw[c15,cond_true]at j20;try simp only[rnA,Nat.reduceEqDiff,Nat.reduceLT]
    replace j20:=qab j20; subst j20;exact⟨_,rfl,by rw[hT20]; exact zbD.mK (k0:=4) [.k,.k,.k,.k] rfl rfl (msq (msq (msq (msq (msq (msq (msq (msq (msq trivial))))))))) ⟨MB.cs ⟨qcO,qcO,qcO,qcO,qcO,qcO⟩,⟨MB.cs ⟨qcO,qcO,qcO,qcO⟩,⟨MB.cs ⟨qcO,qcO⟩,⟨.same (hkin _ (by decide)),qcO⟩⟩⟩⟩⟩
   rintro v52 rfl;rw[congrFun hT20 v52];refine zab ?_;try simp only[rnA,Nat.reduceEqDiff]
   cases c16:v52
   ·rw[c16,cond_false]at j16;try simp only[rnA,Nat.reduceEqDiff,Nat.reduceLT]
    exact⟨((w64 (v10 - x13)),(w64 (v42+1))),j16,by rw[hT19]; exact zbD.mK (k0:=4) [.k,.k,.k,.k] rfl rfl (msq (msq (msq (msq (msq (msq (msq trivial))))))) ⟨MB.cs ⟨qcO,qcO,qcO,qcO,qcO,qcO⟩,⟨MB.cs ⟨qcO,qcO,qcO,qcO⟩,⟨MB.cs ⟨qcO,qcO⟩,⟨.same (hkin _ (by decide)),qcO⟩⟩⟩⟩⟩
   rw[c16,cond_true]at j16;try simp only[rnA,Nat.reduceEqDiff,Nat.reduceLeDiff]
   replace j16:=qab j16; subst j16;dsimp only at hi12;replace hi12:=qab hi12; subst hi12;dsimp only at h;replace h:=qab h; subst h;exact⟨[.cells [(dI p0.net.grain),(fzE false zaa p0.net.nodes),(fzE false (eI .i64) p0.cards),(fzE false (eI .u64) p0.sets),(fzE false (eI .i64) p0.order)],.cells [(dI p1.card),(fzE false (eI .i64) p1.parents),(fzE false (eL (eI .i64)) p1.rows)],.cells [(dB false)]],rfl,zbD.mK [.k,.k,.k,.k] rfl rfl qcO ⟨MB.cs ⟨qcO,qcO,qcO,qcO,qcO,qcO⟩,⟨MB.cs ⟨qcO,qcO,qcO,qcO⟩,⟨MB.cs ⟨qcO,qcO⟩,⟨.same (hkin _ (by decide)),qcO⟩⟩⟩⟩,rfl,⟨⟨qcO,qcO,qcO,qcO,qcO,qcO⟩,⟨qcO,qcO,qcO,qcO⟩,⟨qcO,qcO⟩,qcO⟩,zbq.ret rfl (.lit _)⟩
  rintro v10 rfl;dsimp only at hi12;rw[congrFun hT16 v10];refine zab ?_;try simp only[rnA]
  obtain⟨o21,j21,hi12⟩:=bind_some hi12;obtain⟨T21,hT21⟩:=mkT fun a:Bool=>⟨66,[(4,(.ptr 2 0)),(65,(dB a))],[.cells [(dI p0.net.grain),(fzE false zaa p0.net.nodes),(fzE false (eI .i64) p0.cards),(fzE false (eI .u64) p0.sets),(fzE false (eI .i64) p0.order)],.cells [(dI p1.card),(fzE false (eI .i64) p1.parents),(fzE false (eL (eI .i64)) p1.rows)],.cells [(dB false)],lpF]⟩
  refine EvL.jn T21 (fun a=>a=o21) ?_ ?_
  ·refine zab ?_;try simp only[rnA,Nat.reduceEqDiff,Nat.reduceLT,zaj]
   cases c17:((y11.2.length:Int)== p1.card)
   ·rw[c17,cond_false]at j21;try simp only[rnA,Nat.reduceEqDiff,Nat.reduceLT]
    replace j21:=qab j21; subst j21;exact⟨_,rfl,by rw[hT21]; exact zbD.mK (k0:=4) [.k,.k,.k,.k] rfl rfl (msq (msq trivial)) ⟨MB.cs ⟨qcO,qcO,qcO,qcO,qcO,qcO⟩,⟨MB.cs ⟨qcO,qcO,qcO,qcO⟩,⟨MB.cs ⟨qcO,qcO⟩,⟨.same (hkin _ (by decide)),qcO⟩⟩⟩⟩⟩
   rw[c17,cond_true]at j21;try simp only[rnA,Nat.reduceEqDiff,Nat.reduceLT]
   replace j21:=qab j21; subst j21;exact⟨_,rfl,by rw[hT21]; exact zbD.mK (k0:=4) [.k,.k,.k,.k] rfl rfl (msq (msq trivial)) ⟨MB.cs ⟨qcO,qcO,qcO,qcO,qcO,qcO⟩,⟨MB.cs ⟨qcO,qcO,qcO,qcO⟩,⟨MB.cs ⟨qcO,qcO⟩,⟨.same (hkin _ (by decide)),qcO⟩⟩⟩⟩⟩
  rintro v65 rfl;rw[congrFun hT21 v65];refine zab ?_;try simp only[rnA,Nat.reduceEqDiff]
  cases c18:v65
  ·rw[c18,cond_false]at hi12;try simp only[rnA]
   exact⟨T12 (),by rw[hT12]; rfl,by rw[hT12]; exact zbD.mK [.k,.k,.k,.k] rfl rfl qcO ⟨MB.cs ⟨qcO,qcO,qcO,qcO,qcO,qcO⟩,⟨MB.cs ⟨qcO,qcO,qcO,qcO⟩,⟨MB.cs ⟨qcO,qcO⟩,⟨.same (hkin _ (by decide)),qcO⟩⟩⟩⟩,(),hi12,rfl⟩
  rw[c18,cond_true]at hi12;try simp only[rnA,Nat.reduceEqDiff,Nat.reduceLeDiff]
  replace hi12:=qab hi12; subst hi12;dsimp only at h;replace h:=qab h; subst h;exact⟨[.cells [(dI p0.net.grain),(fzE false zaa p0.net.nodes),(fzE false (eI .i64) p0.cards),(fzE false (eI .u64) p0.sets),(fzE false (eI .i64) p0.order)],.cells [(dI p1.card),(fzE false (eI .i64) p1.parents),(fzE false (eL (eI .i64)) p1.rows)],.cells [(dB false)]],rfl,zbD.mK [.k,.k,.k,.k] rfl rfl qcO ⟨MB.cs ⟨qcO,qcO,qcO,qcO,qcO,qcO⟩,⟨MB.cs ⟨qcO,qcO,qcO,qcO⟩,⟨MB.cs ⟨qcO,qcO⟩,⟨.same (hkin _ (by decide)),qcO⟩⟩⟩⟩,rfl,⟨⟨qcO,qcO,qcO,qcO,qcO,qcO⟩,⟨qcO,qcO,qcO,qcO⟩,⟨qcO,qcO⟩,qcO⟩,zbq.ret rfl (.lit _)⟩
 ·rintro⟨⟩ hi12;rw[List.drop_length]at hi12;simp only[zav]at hi12;exact⟨(),(qab hi12).symm,rfl⟩
 ·rintro _ ⟨⟨⟩,rfl,rfl⟩;dsimp only at h;rw[congrFun hT12 ()];refine zab ?_;try simp only[rnA,Nat.reduceEqDiff,Nat.reduceLeDiff,zac]
  replace h:=qab h; subst h;exact zbq.ret rfl (.lit _)
 ·intro id L1 hx; exact hx.elim
 intro L1 hx; exact hx.2.2
def za9(p0:(List Int))(v5:Int)(C1:Nat):Nat→Int→(List Int)→Option (Out3 Unit (Int×(List Int)) ((List Int)×Bool))
 | 0,_,_=>none
 | n+1,v18,l0'=>(
bif (decide (v18<(p0.length:Int)))then(
(zaK p0 v18).bind fun x5=>
(((zit .u64 v5 v18).bind fun q7=>
bif ((zgv .u64 q7 1)== 0)then(
some (((zqR .u64 x5 v5)== 0),l0'))
else(
some (false,l0')):Option ((Bool×(List Int))))).bind fun o=>match o with
|(v33,l0'')=>(
bif v33 then(
(zlG C1 l0'' [v18]).bind fun y11=>
(zhO .u64 1 v18).bind fun q13=>
some (.brk ((orI .u64 v5 q13),y11)))
else(
za9 p0 v5 C1 n (w64 (v18+1)) l0'')))
else(
some (.go ())))
def zbl(p0:(List Int))(C1:Nat):Nat→Int→(List Int)→Option (Out (List Int) ((List Int)×Bool))
 | 0,_,_=>none
 | n+1,v5,l0=>(
bif (decide (((l0.length:Nat):Int)<(p0.length:Int)))then(
((za9 p0 v5 C1 ((p0.length:Int) - 0+2:Int).toNat 0 l0:Option (Out3 Unit (Int×(List Int)) ((List Int)×Bool)))).bind fun o=>match o with
| .go _=>(
some (.ret ([],false)))
| .brk (v5',l0')=>(
zbl p0 C1 n v5' l0')
| .ret r=>some (.ret r))
else(
some (.go l0)))
def zbL(p0:(List Int)):Option ((List Int)×Bool):=
(zsk 8 (p0.length:Int)).bind fun C1=>
((zbl p0 C1 ((p0.length:Int) - ((([]:List Int).length:Nat):Int)+2:Int).toNat 0 ([]:List Int):Option (Out (List Int) ((List Int)×Bool)))).bind fun o=>match o with
| .go l0=>(
some (l0,true))
| .ret r=>some r
theorem ziU{p0:(List Int)}{r:((List Int)×Bool)}(h:zbL p0=some r):Lx.Fn mC 74 [(fzE false (eI .u64) p0)] (.tup [(fzE true (eI .i64) r.1),(dB r.2)]):=by
 refine fnO (by conv=>lhs; cbv) ?_;unfold zbL at h;refine zab ?_;try simp only[rnA,Nat.reduceLT]
 refine EvL.scope (zab ?_);obtain⟨C1,g2,h⟩:=bind_some h;try simp only[rnA,Nat.reduceEqDiff,Nat.reduceLT,reduceCtorEq,zaj,(zjF g2).1.1,(zjF g2).1.2,(zjF g2).2,qb5,qcB,(show List.replicate C1 [(dI 0)]=(room [] C1 0).map ((eI .i64).c true)from zq9 g2 0 ((eI .i64).c true))]
 obtain⟨o84,j84,h⟩:=bind_some h;obtain⟨T84,hT84⟩:=mkT fun a:(List Int)=>⟨44,[(4,(.sl 0 0 1 a.length (some C1) C1))],[.els 1 ((room a C1 0).map ((eI .i64).c true))]⟩
 refine EvL.jn T84 (fun a=>o84=.go a∧a.length≤C1) ?_ ?_
 ·refine zab ?_;simp only[rnA];obtain⟨T103,hT103⟩:=mkT fun a:(Int×(List Int))=>⟨44,[(0,(fzE false (eI .u64) p0)),(4,(.sl 0 0 1 a.2.length (some C1) C1)),(5,(dU a.1))],[.els 1 ((room a.2 C1 0).map ((eI .i64).c true))]⟩
  refine EvL.rounds (α:=(Int×(List Int))) T103 (fun n a=>zbl p0 C1 n a.1 a.2=some o84∧a.2.length≤C1) ((p0.length:Int) - ((([]:List Int).length:Nat):Int)+2:Int).toNat (0,([]:List Int)) (by rw[hT103]; exact wm0 [.k] ⟨MB.es (eI .i64) true (room ([]:List Int) C1 0),qcO⟩) ⟨j84,(qar _)⟩ (fun _ h=>nomatch (show(none:Option (Out (List Int) ((List Int)×Bool)))=some o84 from h.1)) ?_;rintro n ⟨v5,l0⟩ ⟨j84,el0⟩;simp only[zbl]at j84;rw[congrFun hT103 (v5,l0)];refine zab ?_;try simp only[rnA,Nat.reduceEqDiff,Nat.reduceLT,reduceCtorEq,zgO el0 0,zaj]
  cases c3:(decide (((l0.length:Nat):Int)<(p0.length:Int)))
  ·rw[c3,cond_false]at j84;try simp only[rnA]
   replace j84:=qab j84; subst j84;exact⟨_,⟨rfl,el0⟩,by rw[hT84]; exact wm0 [.k] ⟨MB.es (eI .i64) true (room l0 C1 0),qcO⟩⟩
  rw[c3,cond_true]at j84;try simp only[rnA,Nat.reduceEqDiff,Nat.reduceLT,reduceCtorEq,zaj]
  obtain⟨o108,j108,j84⟩:=bind_some j84;obtain⟨T108,hT108⟩:=mkT fun a:Unit=>⟨44,[],[]⟩
  obtain⟨TB108,hTB108⟩:∃ T:(Int×(List Int))→LSt,T=(fun a=>⟨44,[(0,(fzE false (eI .u64) p0)),(4,(.sl 0 0 1 a.2.length (some C1) C1)),(5,(dU a.1))],[.els 1 ((room a.2 C1 0).map ((eI .i64).c true))]⟩):=⟨_,rfl⟩;refine EvL.jn2 (id:=1) T108 (fun a=>o108=.go a) TB108 (fun a=>o108=.brk a∧a.2.length≤C1) (fun id S hx=>by first | (rcases hx with⟨hx | hx,_⟩<;> cases hx)| exact hx.elim) ?_ ?_ ?_
  ·refine zab ?_;simp only[rnA];obtain⟨T111,hT111⟩:=mkT fun a:(Int×(List Int))=>⟨44,[(0,(fzE false (eI .u64) p0)),(4,(.sl 0 0 1 a.2.length (some C1) C1)),(5,(dU v5)),(16,(fzE false (eI .u64) p0)),(17,(dI (p0.length:Int))),(18,(dI a.1))],[.els 1 ((room a.2 C1 0).map ((eI .i64).c true))]⟩
   refine EvL.rounds (α:=(Int×(List Int))) T111 (fun n a=>za9 p0 v5 C1 n a.1 a.2=some o108∧a.2.length≤C1) ((p0.length:Int) - 0+2:Int).toNat (0,l0) (by rw[hT111]; exact wm0 [.k] ⟨MB.es (eI .i64) true (room l0 C1 0),qcO⟩) ⟨j108,el0⟩ (fun _ h=>nomatch (show(none:Option (Out3 Unit (Int×(List Int)) ((List Int)×Bool)))=some o108 from h.1)) ?_;rintro n ⟨v18,l0'⟩ ⟨j108,el0'⟩;simp only[za9]at j108;rw[congrFun hT111 (v18,l0')];refine zab ?_;try simp only[rnA,Nat.reduceEqDiff,Nat.reduceLT,reduceCtorEq]
   cases c4:(decide (v18<(p0.length:Int)))
   ·rw[c4,cond_false]at j108;try simp only[rnA,Nat.reduceEqDiff]
    replace j108:=qab j108; subst j108;exact lfj hT108 rfl (wm0 [] (by exact trivial))
   rw[c4,cond_true]at j108;obtain⟨x5,g6,j108⟩:=bind_some j108;try simp only[rnA,Nat.reduceEqDiff,Nat.reduceLT,reduceCtorEq,zak (n:=1) (e:=(eI .u64)) rfl g6]
   obtain⟨o112,j112,j108⟩:=bind_some j108;obtain⟨T112,hT112⟩:=mkT fun a:(Bool×(List Int))=>⟨44,[(0,(fzE false (eI .u64) p0)),(4,(.sl 0 0 1 a.2.length (some C1) C1)),(5,(dU v5)),(6,(dI v18)),(16,(fzE false (eI .u64) p0)),(17,(dI (p0.length:Int))),(18,(dI v18)),(33,(dB a.1))],[.els 1 ((room a.2 C1 0).map ((eI .i64).c true))]⟩
   refine EvL.jn T112 (fun a=>a=o112∧a.2.length≤C1) ?_ ?_
   ·refine zab ?_;obtain⟨q7,g8,j112⟩:=bind_some j112;try simp only[rnA,Nat.reduceEqDiff,Nat.reduceLT,reduceCtorEq,(zbj g8).1,(zbj g8).2]
    cases c9:((zgv .u64 q7 1)== 0)
    ·rw[c9,cond_false]at j112;try simp only[rnA,Nat.reduceEqDiff,Nat.reduceLT,reduceCtorEq]
     replace j112:=qab j112; subst j112;exact⟨_,⟨rfl,el0'⟩,by rw[hT112]; exact wm0 [.k] ⟨MB.es (eI .i64) true (room l0' C1 0),qcO⟩⟩
    rw[c9,cond_true]at j112;try simp only[rnA,Nat.reduceEqDiff,Nat.reduceLT,reduceCtorEq]
    replace j112:=qab j112; subst j112;exact⟨_,⟨rfl,el0'⟩,by rw[hT112]; exact wm0 [.k] ⟨MB.es (eI .i64) true (room l0' C1 0),qcO⟩⟩
   rintro⟨v33,l0''⟩ ⟨rfl,el0''⟩;dsimp only at j108;rw[congrFun hT112 (v33,l0'')];refine zab ?_;try simp only[rnA,Nat.reduceEqDiff,reduceCtorEq]
   cases c10:v33
   ·rw[c10,cond_false]at j108;try simp only[rnA,Nat.reduceEqDiff,Nat.reduceLT,reduceCtorEq]
    exact⟨((w64 (v18+1)),l0''),⟨j108,el0''⟩,by rw[hT111]; exact wm0 [.k] ⟨MB.es (eI .i64) true (room l0'' C1 0),qcO⟩⟩
   rw[c10,cond_true]at j108;obtain⟨y11,g12,j108⟩:=bind_some j108;obtain⟨q13,g14,j108⟩:=bind_some j108;try simp only[rnA,Nat.reduceEqDiff,Nat.reduceLT,Nat.reduceAdd,Nat.reduceLeDiff,reduceCtorEq,zgO el0'' 0,(show l0''.length+1=y11.length from zj7 g12),zm1 g12,(show((room l0'' C1 0).map ((eI .i64).c true)).take l0''.length ++ [[(dI v18)]]++ ((room l0'' C1 0).map ((eI .i64).c true)).drop y11.length=(room y11 C1 0).map ((eI .i64).c true)from zpq g12 0 ((eI .i64).c true)),(zaY g14).1,(zaY g14).2]
   replace j108:=qab j108; subst j108;exact⟨_,⟨rfl,(zm1 g12)⟩,by rw[hTB108]; exact wm0 [.k] ⟨MB.es (eI .i64) true (room y11 C1 0),qcO⟩⟩
  ·rintro⟨⟩ rfl;dsimp only at j84;rw[congrFun hT108 ()];refine zab ?_;try simp only[rnA,Nat.reduceLT]
   replace j84:=qab j84; subst j84;dsimp only at h;replace h:=qab h; subst h;exact zbq.ret rfl (Snp.zhP (.cons (zaT (eI .i64)) (.cons (.lit _) .nil)))
  rintro⟨v5',l0'⟩ ⟨rfl,el0'⟩;dsimp only at j84;rw[congrFun hTB108 (v5',l0')];refine zab ?_;try simp only[rnA,reduceCtorEq]
  exact⟨(v5',l0'),⟨j84,el0'⟩,by rw[hT103]; exact wm0 [.k] ⟨MB.es (eI .i64) true (room l0' C1 0),qcO⟩⟩
 rintro l0 ⟨rfl,el0⟩;dsimp only at h;rw[congrFun hT84 l0];refine zab ?_;try simp only[rnA,Nat.reduceEqDiff,Nat.reduceLT]
 replace h:=qab h; subst h;exact zbq.ret rfl (Snp.zhP (.cons (zry (e:=(eI .i64)) (t:=true) (z:=0) rfl rfl el0 (fun _=>rfl)) (.cons (.lit _) .nil)))
def zbr(p0:S_api_Net):Nat→Int→Int→(List Int)→Option (Out (Int×(List Int)) (S_net_network×Int))
 | 0,_,_,_=>none
 | n+1,v5,v50,l2=>(
bif (decide (v50<(p0.nodes.length:Int)))then(
(zaK p0.nodes v50).bind fun x10=>
((bif (decide (x10.card<1))then(
some true)
else(
some (decide (4<x10.card))):Option Bool)).bind fun v62=>
bif v62 then(
some (.ret ((S_net_network.mk (S_api_Net.mk 0 []) [] [] []),50)))
else(
(zaK l2 v50).bind fun x14=>
(zgm l2 v50 x10.card).bind fun y16=>
zbr p0 n (w64 (v5 * x10.card)) (w64 (v50+1)) y16))
else(
some (.go (v5,l2))))
def zbN(x20:S_api_Node)(p0:S_api_Net)(v82:Int):Nat→Int→Int→(List Int)→Option (Out (List Int) (S_net_network×Int))
 | 0,_,_,_=>none
 | n+1,v10,v90,l3'=>(
bif (decide (v90<(x20.parents.length:Int)))then(
(zaK x20.parents v90).bind fun x23=>
((bif (decide (x23≤v10))then(
some true)
else(
bif (decide ((p0.nodes.length:Int)≤x23))then(
some true)
else(
some (x23 == v82))):Option Bool)).bind fun v109=>
bif v109 then(
some (.ret ((S_net_network.mk (S_api_Net.mk 0 []) [] [] []),50)))
else(
(zaK l3' v82).bind fun x28=>
(zhO .u64 1 x23).bind fun q30=>
(zgm l3' v82 (orI .u64 x28 q30)).bind fun y32=>
zbN x20 p0 v82 n x23 (w64 (v90+1)) y32))
else(
some (.go l3')))
def zbs(p0:S_api_Net)(l2:(List Int)):Nat→Int→(List Int)→Option (Out (List Int) (S_net_network×Int))
 | 0,_,_=>none
 | n+1,v82,l3=>(
bif (decide (v82<(p0.nodes.length:Int)))then(
(zaK p0.nodes v82).bind fun x20=>
((zbN x20 p0 v82 ((x20.parents.length:Int) - 0+2:Int).toNat (-1) 0 l3:Option (Out (List Int) (S_net_network×Int)))).bind fun o=>match o with
| .go l3'=>(
(zaF (S_net_network.mk p0 l2 l3' []) x20).bind fun r34=>
bif r34 then(
zbs p0 l2 n (w64 (v82+1)) l3')
else(
some (.ret ((S_net_network.mk (S_api_Net.mk 0 []) [] [] []),50))))
| .ret r=>some (.ret r))
else(
some (.go l3)))
def zbp(p0:S_api_Net):Option (S_net_network×Int):=
((bif (decide (p0.grain<1))then(
some true)
else(
bif (decide (60<p0.grain))then(
some true)
else(
bif (decide ((p0.nodes.length:Int)<1))then(
some true)
else(
some (decide (8<(p0.nodes.length:Int)))))):Option Bool)).bind fun v34=>
bif v34 then(
some ((S_net_network.mk (S_api_Net.mk 0 []) [] [] []),50))
else(
(zgd 8 (p0.nodes.length:Int) 0).bind fun y5=>
(zgd 8 (p0.nodes.length:Int) 0).bind fun y7=>
((zbr p0 ((p0.nodes.length:Int) - 0+2:Int).toNat 1 0 y5:Option (Out (Int×(List Int)) (S_net_network×Int)))).bind fun o=>match o with
| .go (v5,l2)=>(
bif (decide (1024<v5))then(
some ((S_net_network.mk (S_api_Net.mk 0 []) [] [] []),50))
else(
((zbs p0 l2 ((p0.nodes.length:Int) - 0+2:Int).toNat 0 y7:Option (Out (List Int) (S_net_network×Int)))).bind fun o=>match o with
| .go l3=>(
(zbL l3).bind fun r37=>
bif r37.2 then(
some ((S_net_network.mk p0 l2 l3 r37.1),0))
else(
some ((S_net_network.mk (S_api_Net.mk 0 []) [] [] []),50)))
| .ret r=>some r))
| .ret r=>some r)
theorem zc7{p0:S_api_Net}{r:(S_net_network×Int)}(h:zbp p0=some r):Lx.FnA mC 54 [(.agg [(dI p0.grain),(fzE false zaa p0.nodes)])] (.tup [(.agg [(dI r.1.net.grain),(fzE false zaa r.1.net.nodes),(fzE false (eI .i64) r.1.cards),(fzE false (eI .u64) r.1.sets),(fzE false (eI .i64) r.1.order)]),(dI r.2)]):=by
 refine zuD (by conv=>lhs; cbv) ?_;unfold zbp at h;refine zab ?_;try simp only[rnA,Nat.reduceLT]
 obtain⟨o1,j1,h⟩:=bind_some h;obtain⟨T1,hT1⟩:=mkT fun a:Bool=>⟨140,[(1,(.ptr 0 0)),(2,(.ptr 1 0)),(34,(dB a))],[.cells [(dI p0.grain),(fzE false zaa p0.nodes)],.cells [(dI 0),zb0,zb0,zb0,zb0]]⟩
 refine EvL.jn T1 (fun a=>a=o1) ?_ ?_
 ·refine zab ?_;try simp only[rnA,Nat.reduceEqDiff,Nat.reduceLT,reduceCtorEq]
  cases c1:(decide (p0.grain<1))
  ·rw[c1,cond_false]at j1;try simp only[rnA,Nat.reduceEqDiff,Nat.reduceLT,reduceCtorEq]
   cases c2:(decide (60<p0.grain))
   ·rw[c2,cond_false]at j1;try simp only[rnA,Nat.reduceEqDiff,Nat.reduceLT,reduceCtorEq,zaj]
    cases c3:(decide ((p0.nodes.length:Int)<1))
    ·rw[c3,cond_false]at j1;try simp only[rnA,Nat.reduceEqDiff,Nat.reduceLT,reduceCtorEq,zaj]
     replace j1:=qab j1; subst j1;exact lfj hT1 rfl (wm0 [.k,.k] ⟨MB.cs ⟨qcO,qcO,qcO⟩,⟨MB.cs ⟨qcO,qcO,qcO,qcO,qcO,qcO⟩,qcO⟩⟩)
    rw[c3,cond_true]at j1;try simp only[rnA,Nat.reduceEqDiff,Nat.reduceLT,reduceCtorEq]
    replace j1:=qab j1; subst j1;exact lfj hT1 rfl (wm0 [.k,.k] ⟨MB.cs ⟨qcO,qcO,qcO⟩,⟨MB.cs ⟨qcO,qcO,qcO,qcO,qcO,qcO⟩,qcO⟩⟩)
   rw[c2,cond_true]at j1;try simp only[rnA,Nat.reduceEqDiff,Nat.reduceLT,reduceCtorEq]
   replace j1:=qab j1; subst j1;exact lfj hT1 rfl (wm0 [.k,.k] ⟨MB.cs ⟨qcO,qcO,qcO⟩,⟨MB.cs ⟨qcO,qcO,qcO,qcO,qcO,qcO⟩,qcO⟩⟩)
  rw[c1,cond_true]at j1;try simp only[rnA,Nat.reduceEqDiff,Nat.reduceLT,reduceCtorEq]
  replace j1:=qab j1; subst j1;exact lfj hT1 rfl (wm0 [.k,.k] ⟨MB.cs ⟨qcO,qcO,qcO⟩,⟨MB.cs ⟨qcO,qcO,qcO,qcO,qcO,qcO⟩,qcO⟩⟩)
 rintro v34 rfl;rw[congrFun hT1 v34];refine zab ?_;try simp only[rnA,Nat.reduceEqDiff]
 cases c4:v34
 ·rw[c4,cond_false]at h;obtain⟨y5,g6,h⟩:=bind_some h;obtain⟨y7,g8,h⟩:=bind_some h;try simp only[rnA,Nat.reduceEqDiff,Nat.reduceLT,Nat.reduceAdd,Nat.reduceLeDiff,zaj,(zbt g6).1.1,(zbt g6).1.2,qb5,(show List.replicate (Int.toNat (p0.nodes.length:Int)) [(dI 0)]=y5.map ((eI .i64).c true)from zdn g6 ((eI .i64).c true)),(show List.replicate (Int.toNat (p0.nodes.length:Int)) [(dU 0)]=y7.map ((eI .u64).c true)from zdn g8 ((eI .u64).c true))]
  obtain⟨o5,j5,h⟩:=bind_some h;obtain⟨T5,hT5⟩:=mkT fun a:(Int×(List Int))=>⟨140,[(2,(.ptr 1 0)),(4,(.ptr 4 0)),(5,(dI a.1))],[.gone,.cells [(dI 0),zb0,zb0,zb0,zb0],.els 1 (a.2.map ((eI .i64).c true)),.els 1 (y7.map ((eI .u64).c true)),.cells [(dI p0.grain),(fzE false zaa p0.nodes),(.sl 2 0 1 (Int.toNat (p0.nodes.length:Int)) (some (Int.toNat (p0.nodes.length:Int))) (Int.toNat (p0.nodes.length:Int))),(.sl 3 0 1 (Int.toNat (p0.nodes.length:Int)) (some (Int.toNat (p0.nodes.length:Int))) (Int.toNat (p0.nodes.length:Int))),zb0]]⟩
  refine EvL.jn T5 (fun a=>o5=.go a∧a.2.length=(Int.toNat (p0.nodes.length:Int))) ?_ ?_
  ·refine zab ?_;simp only[rnA];obtain⟨T8,hT8⟩:=mkT fun a:(Int×Int×(List Int))=>⟨140,[(2,(.ptr 1 0)),(4,(.ptr 4 0)),(5,(dI a.1)),(48,(fzE false zaa p0.nodes)),(49,(dI (p0.nodes.length:Int))),(50,(dI a.2.1))],[.gone,.cells [(dI 0),zb0,zb0,zb0,zb0],.els 1 (a.2.2.map ((eI .i64).c true)),.els 1 (y7.map ((eI .u64).c true)),.cells [(dI p0.grain),(fzE false zaa p0.nodes),(.sl 2 0 1 (Int.toNat (p0.nodes.length:Int)) (some (Int.toNat (p0.nodes.length:Int))) (Int.toNat (p0.nodes.length:Int))),(.sl 3 0 1 (Int.toNat (p0.nodes.length:Int)) (some (Int.toNat (p0.nodes.length:Int))) (Int.toNat (p0.nodes.length:Int))),zb0]]⟩
   refine EvL.rounds (α:=(Int×Int×(List Int))) T8 (fun n a=>zbr p0 n a.1 a.2.1 a.2.2=some o5∧a.2.2.length=(Int.toNat (p0.nodes.length:Int))) ((p0.nodes.length:Int) - 0+2:Int).toNat (1,0,y5) (by rw[hT8]; exact wm0 [.d,.k,.k,.k,.k] ⟨rfl,⟨MB.cs ⟨qcO,qcO,qcO,qcO,qcO,qcO⟩,⟨MB.es (eI .i64) true y5,⟨MB.es (eI .u64) true y7,⟨MB.cs ⟨qcO,qcO,rfl,rfl,qcO,qcO⟩,qcO⟩⟩⟩⟩⟩) ⟨j5,zcR g6⟩ (fun _ h=>nomatch (show(none:Option (Out (Int×(List Int)) (S_net_network×Int)))=some o5 from h.1)) ?_;rintro n ⟨v5,v50,l2⟩ ⟨j5,el2⟩;simp only[zbr]at j5;rw[congrFun hT8 (v5,v50,l2)];refine zab ?_;try simp only[rnA,Nat.reduceEqDiff,Nat.reduceLT]
   cases c9:(decide (v50<(p0.nodes.length:Int)))
   ·rw[c9,cond_false]at j5;try simp only[rnA]
    replace j5:=qab j5; subst j5;exact⟨_,⟨rfl,el2⟩,by rw[hT5]; exact wm0 [.d,.k,.k,.k,.k] ⟨rfl,⟨MB.cs ⟨qcO,qcO,qcO,qcO,qcO,qcO⟩,⟨MB.es (eI .i64) true l2,⟨MB.es (eI .u64) true y7,⟨MB.cs ⟨qcO,qcO,rfl,rfl,qcO,qcO⟩,qcO⟩⟩⟩⟩⟩⟩
   rw[c9,cond_true]at j5;obtain⟨x10,g11,j5⟩:=bind_some j5;try simp only[rnA,Nat.reduceEqDiff,Nat.reduceLT,Nat.reduceAdd,Nat.reduceLeDiff,zac,zak (n:=3) (e:=zaa) rfl g11]
   obtain⟨o9,j9,j5⟩:=bind_some j5;obtain⟨T9,hT9⟩:=mkT fun a:Bool=>⟨140,[(2,(.ptr 1 0)),(4,(.ptr 4 0)),(5,(dI v5)),(6,(dI v50)),(7,(.ptr 5 0)),(48,(fzE false zaa p0.nodes)),(49,(dI (p0.nodes.length:Int))),(50,(dI v50)),(62,(dB a))],[.gone,.cells [(dI 0),zb0,zb0,zb0,zb0],.els 1 (l2.map ((eI .i64).c true)),.els 1 (y7.map ((eI .u64).c true)),.cells [(dI p0.grain),(fzE false zaa p0.nodes),(.sl 2 0 1 (Int.toNat (p0.nodes.length:Int)) (some (Int.toNat (p0.nodes.length:Int))) (Int.toNat (p0.nodes.length:Int))),(.sl 3 0 1 (Int.toNat (p0.nodes.length:Int)) (some (Int.toNat (p0.nodes.length:Int))) (Int.toNat (p0.nodes.length:Int))),zb0],.cells [(dI x10.card),(fzE false (eI .i64) x10.parents),(fzE false (eL (eI .i64)) x10.rows)]]⟩
   refine EvL.jn T9 (fun a=>a=o9) ?_ ?_
   ·refine zab ?_;try simp only[rnA,Nat.reduceEqDiff,Nat.reduceLT]
    cases c12:(decide (x10.card<1))
    ·rw[c12,cond_false]at j9;try simp only[rnA,Nat.reduceEqDiff,Nat.reduceLT]
     replace j9:=qab j9; subst j9;exact lfj hT9 rfl (wm0 [.d,.k,.k,.k,.k,.k] ⟨rfl,⟨MB.cs ⟨qcO,qcO,qcO,qcO,qcO,qcO⟩,⟨MB.es (eI .i64) true l2,⟨MB.es (eI .u64) true y7,⟨MB.cs ⟨qcO,qcO,rfl,rfl,qcO,qcO⟩,⟨MB.cs ⟨qcO,qcO,qcO,qcO⟩,qcO⟩⟩⟩⟩⟩⟩)
    rw[c12,cond_true]at j9;try simp only[rnA,Nat.reduceEqDiff,Nat.reduceLT]
    replace j9:=qab j9; subst j9;exact lfj hT9 rfl (wm0 [.d,.k,.k,.k,.k,.k] ⟨rfl,⟨MB.cs ⟨qcO,qcO,qcO,qcO,qcO,qcO⟩,⟨MB.es (eI .i64) true l2,⟨MB.es (eI .u64) true y7,⟨MB.cs ⟨qcO,qcO,rfl,rfl,qcO,qcO⟩,⟨MB.cs ⟨qcO,qcO,qcO,qcO⟩,qcO⟩⟩⟩⟩⟩⟩)
   rintro v62 rfl;rw[congrFun hT9 v62];refine zab ?_;try simp only[rnA,Nat.reduceEqDiff]
   cases c13:v62
   ·rw[c13,cond_false]at j5;obtain⟨x14,g15,j5⟩:=bind_some j5;obtain⟨y16,g17,j5⟩:=bind_some j5;try simp only[rnA,Nat.reduceEqDiff,Nat.reduceLT,Nat.reduceLeDiff,el2,zbz g15,(show v50<(((Int.toNat (p0.nodes.length:Int)):Nat):Int)from el2 ▸ zbS g15),zbi g15 ((eI .i64).c true),(show(l2.map ((eI .i64).c true)).set v50.toNat [(dI x10.card)]=y16.map ((eI .i64).c true)from zci g17 ((eI .i64).c true))]
    exact⟨((w64 (v5 * x10.card)),(w64 (v50+1)),y16),⟨j5,(zb2 g17).trans el2⟩,by rw[hT8]; exact wm0 [.d,.k,.k,.k,.k] ⟨rfl,⟨MB.cs ⟨qcO,qcO,qcO,qcO,qcO,qcO⟩,⟨MB.es (eI .i64) true y16,⟨MB.es (eI .u64) true y7,⟨MB.cs ⟨qcO,qcO,rfl,rfl,qcO,qcO⟩,qcO⟩⟩⟩⟩⟩⟩
   rw[c13,cond_true]at j5;try simp only[rnA,Nat.reduceEqDiff,Nat.reduceLT,Nat.reduceAdd,Nat.reduceLeDiff]
   replace j5:=qab j5; subst j5;dsimp only at h;replace h:=qab h; subst h;exact zkg.ret rfl (Snp.zhP (.cons (.zcX (.cons (.lit _) (.cons (zaT zaa) (.cons (zaT (eI .i64)) (.cons (zaT (eI .u64)) (.cons (zaT (eI .i64)) .nil)))))) (.cons (.lit _) .nil)))
  rintro⟨v5,l2⟩ ⟨rfl,el2⟩;dsimp only at h;rw[congrFun hT5 (v5,l2)];refine zab ?_;try simp only[rnA,Nat.reduceEqDiff,Nat.reduceLT]
  cases c18:(decide (1024<v5))
  ·rw[c18,cond_false]at h;try simp only[rnA,Nat.reduceEqDiff,Nat.reduceLT,zaj]
   obtain⟨o34,j34,h⟩:=bind_some h;obtain⟨T34,hT34⟩:=mkT fun a:(List Int)=>⟨140,[(2,(.ptr 1 0)),(4,(.ptr 4 0))],[.gone,.cells [(dI 0),zb0,zb0,zb0,zb0],.els 1 (l2.map ((eI .i64).c true)),.els 1 (a.map ((eI .u64).c true)),.cells [(dI p0.grain),(fzE false zaa p0.nodes),(.sl 2 0 1 (Int.toNat (p0.nodes.length:Int)) (some (Int.toNat (p0.nodes.length:Int))) (Int.toNat (p0.nodes.length:Int))),(.sl 3 0 1 (Int.toNat (p0.nodes.length:Int)) (some (Int.toNat (p0.nodes.length:Int))) (Int.toNat (p0.nodes.length:Int))),zb0]]⟩
   refine EvL.jn T34 (fun a=>o34=.go a∧a.length=(Int.toNat (p0.nodes.length:Int))) ?_ ?_
   ·refine zab ?_;simp only[rnA];obtain⟨T51,hT51⟩:=mkT fun a:(Int×(List Int))=>⟨140,[(2,(.ptr 1 0)),(4,(.ptr 4 0)),(80,(fzE false zaa p0.nodes)),(81,(dI (p0.nodes.length:Int))),(82,(dI a.1))],[.gone,.cells [(dI 0),zb0,zb0,zb0,zb0],.els 1 (l2.map ((eI .i64).c true)),.els 1 (a.2.map ((eI .u64).c true)),.cells [(dI p0.grain),(fzE false zaa p0.nodes),(.sl 2 0 1 (Int.toNat (p0.nodes.length:Int)) (some (Int.toNat (p0.nodes.length:Int))) (Int.toNat (p0.nodes.length:Int))),(.sl 3 0 1 (Int.toNat (p0.nodes.length:Int)) (some (Int.toNat (p0.nodes.length:Int))) (Int.toNat (p0.nodes.length:Int))),zb0]]⟩
    refine EvL.rounds (α:=(Int×(List Int))) T51 (fun n a=>zbs p0 l2 n a.1 a.2=some o34∧a.2.length=(Int.toNat (p0.nodes.length:Int))) ((p0.nodes.length:Int) - 0+2:Int).toNat (0,y7) (by rw[hT51]; exact wm0 [.d,.k,.k,.k,.k] ⟨rfl,⟨MB.cs ⟨qcO,qcO,qcO,qcO,qcO,qcO⟩,⟨MB.es (eI .i64) true l2,⟨MB.es (eI .u64) true y7,⟨MB.cs ⟨qcO,qcO,rfl,rfl,qcO,qcO⟩,qcO⟩⟩⟩⟩⟩) ⟨j34,zcR g8⟩ (fun _ h=>nomatch (show(none:Option (Out (List Int) (S_net_network×Int)))=some o34 from h.1)) ?_;rintro n ⟨v82,l3⟩ ⟨j34,el3⟩;simp only[zbs]at j34;rw[congrFun hT51 (v82,l3)];refine zab ?_;try simp only[rnA,Nat.reduceEqDiff,Nat.reduceLT]
    cases c19:(decide (v82<(p0.nodes.length:Int)))
    ·rw[c19,cond_false]at j34;try simp only[rnA]
     replace j34:=qab j34; subst j34;exact⟨_,⟨rfl,el3⟩,by rw[hT34]; exact wm0 [.d,.k,.k,.k,.k] ⟨rfl,⟨MB.cs ⟨qcO,qcO,qcO,qcO,qcO,qcO⟩,⟨MB.es (eI .i64) true l2,⟨MB.es (eI .u64) true l3,⟨MB.cs ⟨qcO,qcO,rfl,rfl,qcO,qcO⟩,qcO⟩⟩⟩⟩⟩⟩
    rw[c19,cond_true]at j34;obtain⟨x20,g21,j34⟩:=bind_some j34;try simp only[rnA,Nat.reduceEqDiff,Nat.reduceLT,Nat.reduceAdd,Nat.reduceLeDiff,zac,zak (n:=3) (e:=zaa) rfl g21,zaj]
    obtain⟨o55,j55,j34⟩:=bind_some j34;obtain⟨T55,hT55⟩:=mkT fun a:(List Int)=>⟨140,[(2,(.ptr 1 0)),(4,(.ptr 4 0)),(9,(.ptr 5 0)),(80,(fzE false zaa p0.nodes)),(81,(dI (p0.nodes.length:Int))),(82,(dI v82))],[.gone,.cells [(dI 0),zb0,zb0,zb0,zb0],.els 1 (l2.map ((eI .i64).c true)),.els 1 (a.map ((eI .u64).c true)),.cells [(dI p0.grain),(fzE false zaa p0.nodes),(.sl 2 0 1 (Int.toNat (p0.nodes.length:Int)) (some (Int.toNat (p0.nodes.length:Int))) (Int.toNat (p0.nodes.length:Int))),(.sl 3 0 1 (Int.toNat (p0.nodes.length:Int)) (some (Int.toNat (p0.nodes.length:Int))) (Int.toNat (p0.nodes.length:Int))),zb0],.cells [(dI x20.card),(fzE false (eI .i64) x20.parents),(fzE false (eL (eI .i64)) x20.rows)]]⟩
    refine EvL.jn T55 (fun a=>o55=.go a∧a.length=(Int.toNat (p0.nodes.length:Int))) ?_ ?_
    ·refine zab ?_;simp only[rnA];obtain⟨T58,hT58⟩:=mkT fun a:(Int×Int×(List Int))=>⟨140,[(2,(.ptr 1 0)),(4,(.ptr 4 0)),(8,(dI v82)),(9,(.ptr 5 0)),(10,(dI a.1)),(80,(fzE false zaa p0.nodes)),(81,(dI (p0.nodes.length:Int))),(82,(dI v82)),(88,(fzE false (eI .i64) x20.parents)),(89,(dI (x20.parents.length:Int))),(90,(dI a.2.1))],[.gone,.cells [(dI 0),zb0,zb0,zb0,zb0],.els 1 (l2.map ((eI .i64).c true)),.els 1 (a.2.2.map ((eI .u64).c true)),.cells [(dI p0.grain),(fzE false zaa p0.nodes),(.sl 2 0 1 (Int.toNat (p0.nodes.length:Int)) (some (Int.toNat (p0.nodes.length:Int))) (Int.toNat (p0.nodes.length:Int))),(.sl 3 0 1 (Int.toNat (p0.nodes.length:Int)) (some (Int.toNat (p0.nodes.length:Int))) (Int.toNat (p0.nodes.length:Int))),zb0],.cells [(dI x20.card),(fzE false (eI .i64) x20.parents),(fzE false (eL (eI .i64)) x20.rows)]]⟩
     refine EvL.rounds (α:=(Int×Int×(List Int))) T58 (fun n a=>zbN x20 p0 v82 n a.1 a.2.1 a.2.2=some o55∧a.2.2.length=(Int.toNat (p0.nodes.length:Int))) ((x20.parents.length:Int) - 0+2:Int).toNat ((-1),0,l3) (by rw[hT58]; exact wm0 [.d,.k,.k,.k,.k,.k] ⟨rfl,⟨MB.cs ⟨qcO,qcO,qcO,qcO,qcO,qcO⟩,⟨MB.es (eI .i64) true l2,⟨MB.es (eI .u64) true l3,⟨MB.cs ⟨qcO,qcO,rfl,rfl,qcO,qcO⟩,⟨MB.cs ⟨qcO,qcO,qcO,qcO⟩,qcO⟩⟩⟩⟩⟩⟩) ⟨j55,el3⟩ (fun _ h=>nomatch (show(none:Option (Out (List Int) (S_net_network×Int)))=some o55 from h.1)) ?_;rintro n ⟨v10,v90,l3'⟩ ⟨j55,el3'⟩;simp only[zbN]at j55;rw[congrFun hT58 (v10,v90,l3')];refine zab ?_;try simp only[rnA,Nat.reduceEqDiff,Nat.reduceLT]
     cases c22:(decide (v90<(x20.parents.length:Int)))
     ·rw[c22,cond_false]at j55;try simp only[rnA,Nat.reduceEqDiff,Nat.reduceLT]
      replace j55:=qab j55; subst j55;exact⟨_,⟨rfl,el3'⟩,by rw[hT55]; exact wm0 [.d,.k,.k,.k,.k,.k] ⟨rfl,⟨MB.cs ⟨qcO,qcO,qcO,qcO,qcO,qcO⟩,⟨MB.es (eI .i64) true l2,⟨MB.es (eI .u64) true l3',⟨MB.cs ⟨qcO,qcO,rfl,rfl,qcO,qcO⟩,⟨MB.cs ⟨qcO,qcO,qcO,qcO⟩,qcO⟩⟩⟩⟩⟩⟩⟩
     rw[c22,cond_true]at j55;obtain⟨x23,g24,j55⟩:=bind_some j55;try simp only[rnA,Nat.reduceEqDiff,Nat.reduceLT,zak (n:=1) (e:=(eI .i64)) rfl g24]
     obtain⟨o59,j59,j55⟩:=bind_some j55;obtain⟨T59,hT59⟩:=mkT fun a:Bool=>⟨140,[(2,(.ptr 1 0)),(4,(.ptr 4 0)),(8,(dI v82)),(9,(.ptr 5 0)),(12,(dI x23)),(80,(fzE false zaa p0.nodes)),(81,(dI (p0.nodes.length:Int))),(82,(dI v82)),(88,(fzE false (eI .i64) x20.parents)),(89,(dI (x20.parents.length:Int))),(90,(dI v90)),(109,(dB a))],[.gone,.cells [(dI 0),zb0,zb0,zb0,zb0],.els 1 (l2.map ((eI .i64).c true)),.els 1 (l3'.map ((eI .u64).c true)),.cells [(dI p0.grain),(fzE false zaa p0.nodes),(.sl 2 0 1 (Int.toNat (p0.nodes.length:Int)) (some (Int.toNat (p0.nodes.length:Int))) (Int.toNat (p0.nodes.length:Int))),(.sl 3 0 1 (Int.toNat (p0.nodes.length:Int)) (some (Int.toNat (p0.nodes.length:Int))) (Int.toNat (p0.nodes.length:Int))),zb0],.cells [(dI x20.card),(fzE false (eI .i64) x20.parents),(fzE false (eL (eI .i64)) x20.rows)]]⟩
     refine EvL.jn T59 (fun a=>a=o59) ?_ ?_
     ·refine zab ?_;try simp only[rnA,Nat.reduceEqDiff,Nat.reduceLT]
      cases c25:(decide (x23≤v10))
      ·rw[c25,cond_false]at j59;try simp only[rnA,Nat.reduceEqDiff,Nat.reduceLT,zaj]
       cases c26:(decide ((p0.nodes.length:Int)≤x23))
       ·rw[c26,cond_false]at j59;try simp only[rnA,Nat.reduceEqDiff,Nat.reduceLT]
        replace j59:=qab j59; subst j59;exact lfj hT59 rfl (wm0 [.d,.k,.k,.k,.k,.k] ⟨rfl,⟨MB.cs ⟨qcO,qcO,qcO,qcO,qcO,qcO⟩,⟨MB.es (eI .i64) true l2,⟨MB.es (eI .u64) true l3',⟨MB.cs ⟨qcO,qcO,rfl,rfl,qcO,qcO⟩,⟨MB.cs ⟨qcO,qcO,qcO,qcO⟩,qcO⟩⟩⟩⟩⟩⟩)
       rw[c26,cond_true]at j59;try simp only[rnA,Nat.reduceEqDiff,Nat.reduceLT]
       replace j59:=qab j59; subst j59;exact lfj hT59 rfl (wm0 [.d,.k,.k,.k,.k,.k] ⟨rfl,⟨MB.cs ⟨qcO,qcO,qcO,qcO,qcO,qcO⟩,⟨MB.es (eI .i64) true l2,⟨MB.es (eI .u64) true l3',⟨MB.cs ⟨qcO,qcO,rfl,rfl,qcO,qcO⟩,⟨MB.cs ⟨qcO,qcO,qcO,qcO⟩,qcO⟩⟩⟩⟩⟩⟩)
      rw[c25,cond_true]at j59;try simp only[rnA,Nat.reduceEqDiff,Nat.reduceLT]
      replace j59:=qab j59; subst j59;exact lfj hT59 rfl (wm0 [.d,.k,.k,.k,.k,.k] ⟨rfl,⟨MB.cs ⟨qcO,qcO,qcO,qcO,qcO,qcO⟩,⟨MB.es (eI .i64) true l2,⟨MB.es (eI .u64) true l3',⟨MB.cs ⟨qcO,qcO,rfl,rfl,qcO,qcO⟩,⟨MB.cs ⟨qcO,qcO,qcO,qcO⟩,qcO⟩⟩⟩⟩⟩⟩)
     rintro v109 rfl;rw[congrFun hT59 v109];refine zab ?_;try simp only[rnA,Nat.reduceEqDiff]
     cases c27:v109
     ·rw[c27,cond_false]at j55;obtain⟨x28,g29,j55⟩:=bind_some j55;obtain⟨q30,g31,j55⟩:=bind_some j55;obtain⟨y32,g33,j55⟩:=bind_some j55;try simp only[rnA,Nat.reduceEqDiff,Nat.reduceLT,Nat.reduceLeDiff,el3',zbz g29,(show v82<(((Int.toNat (p0.nodes.length:Int)):Nat):Int)from el3' ▸ zbS g29),zbi g29 ((eI .u64).c true),(zaY g31).1,(zaY g31).2,(show(l3'.map ((eI .u64).c true)).set v82.toNat [(dU (orI .u64 x28 q30))]=y32.map ((eI .u64).c true)from zci g33 ((eI .u64).c true))]
      exact⟨(x23,(w64 (v90+1)),y32),⟨j55,(zb2 g33).trans el3'⟩,by rw[hT58]; exact wm0 [.d,.k,.k,.k,.k,.k] ⟨rfl,⟨MB.cs ⟨qcO,qcO,qcO,qcO,qcO,qcO⟩,⟨MB.es (eI .i64) true l2,⟨MB.es (eI .u64) true y32,⟨MB.cs ⟨qcO,qcO,rfl,rfl,qcO,qcO⟩,⟨MB.cs ⟨qcO,qcO,qcO,qcO⟩,qcO⟩⟩⟩⟩⟩⟩⟩
     rw[c27,cond_true]at j55;try simp only[rnA,Nat.reduceEqDiff,Nat.reduceLT,Nat.reduceAdd,Nat.reduceLeDiff]
     replace j55:=qab j55; subst j55;dsimp only at j34;replace j34:=qab j34; subst j34;dsimp only at h;replace h:=qab h; subst h;exact zkg.ret rfl (Snp.zhP (.cons (.zcX (.cons (.lit _) (.cons (zaT zaa) (.cons (zaT (eI .i64)) (.cons (zaT (eI .u64)) (.cons (zaT (eI .i64)) .nil)))))) (.cons (.lit _) .nil)))
    rintro l3' ⟨rfl,el3'⟩;dsimp only at j34;rw[congrFun hT55 l3'];refine zab ?_;obtain⟨r34,g35,j34⟩:=bind_some j34;try simp only[rnA,Nat.reduceEqDiff,Nat.reduceLT,Nat.reduceAdd,Nat.reduceLeDiff]
    refine EvL.fn (zeU g35) rfl rfl (.cons (.zcX (.cons (.lit _) (.cons (zar _ _ (fun h=>nomatch h)) (.cons (zan (e:=(eI .i64)) (t:=true) rfl (.inl rfl) (el2).symm (el2).symm (fun k h=>by cases h; exact qal _) (fun h=>nomatch h)) (.cons (zan (e:=(eI .u64)) (t:=true) rfl (.inl rfl) (el3').symm (el3').symm (fun k h=>by cases h; exact qal _) (fun h=>nomatch h)) (.cons (zaT (eI .i64)) .nil)))))) (.cons (.zcX (.cons (.lit _) (.cons (zar _ _ (fun h=>nomatch h)) (.cons (zar _ _ (fun h=>nomatch h)) .nil)))) .nil)) ?_;try simp only[rnA,Nat.reduceEqDiff,Nat.reduceLT]
    cases c36:r34
    ·rw[c36,cond_false]at j34;try simp only[rnA,Nat.reduceEqDiff,Nat.reduceLT,Nat.reduceAdd,Nat.reduceLeDiff]
     replace j34:=qab j34; subst j34;dsimp only at h;replace h:=qab h; subst h;exact zkg.ret rfl (Snp.zhP (.cons (.zcX (.cons (.lit _) (.cons (zaT zaa) (.cons (zaT (eI .i64)) (.cons (zaT (eI .u64)) (.cons (zaT (eI .i64)) .nil)))))) (.cons (.lit _) .nil)))
    rw[c36,cond_true]at j34;try simp only[rnA,Nat.reduceEqDiff,Nat.reduceLT]
    exact⟨((w64 (v82+1)),l3'),⟨j34,el3'⟩,by rw[hT51]; exact wm0 [.d,.k,.k,.k,.k] ⟨rfl,⟨MB.cs ⟨qcO,qcO,qcO,qcO,qcO,qcO⟩,⟨MB.es (eI .i64) true l2,⟨MB.es (eI .u64) true l3',⟨MB.cs ⟨qcO,qcO,rfl,rfl,qcO,qcO⟩,qcO⟩⟩⟩⟩⟩⟩
   rintro l3 ⟨rfl,el3⟩;dsimp only at h;rw[congrFun hT34 l3];refine zab ?_;obtain⟨r37,g38,h⟩:=bind_some h;try simp only[rnA,Nat.reduceEqDiff,Nat.reduceLT]
   refine EvL.fn (ziU g38) rfl rfl (.cons (zan (e:=(eI .u64)) (t:=true) rfl (.inl rfl) (el3).symm (el3).symm (fun k h=>by cases h; exact qal _) (fun h=>nomatch h)) .nil) ?_;try simp only[rnA,Nat.reduceEqDiff,Nat.reduceLT]
   cases c39:r37.2
   ·rw[c39,cond_false]at h;try simp only[rnA,Nat.reduceEqDiff,Nat.reduceLT,Nat.reduceAdd,Nat.reduceLeDiff]
    replace h:=qab h; subst h;exact zkg.ret rfl (Snp.zhP (.cons (.zcX (.cons (.lit _) (.cons (zaT zaa) (.cons (zaT (eI .i64)) (.cons (zaT (eI .u64)) (.cons (zaT (eI .i64)) .nil)))))) (.cons (.lit _) .nil)))
   rw[c39,cond_true]at h;try simp only[rnA,Nat.reduceEqDiff,Nat.reduceLT,Nat.reduceAdd,Nat.reduceLeDiff]
   replace h:=qab h; subst h;exact zkg.ret rfl (Snp.zhP (.cons (.zcX (.cons (.lit _) (.cons (zar _ _ (fun h=>nomatch h)) (.cons (zan (e:=(eI .i64)) (t:=true) rfl (.inl rfl) (el2).symm (el2).symm (fun k h=>by cases h; exact qal _) (fun h=>nomatch h)) (.cons (zan (e:=(eI .u64)) (t:=true) rfl (.inl rfl) (el3).symm (el3).symm (fun k h=>by cases h; exact qal _) (fun h=>nomatch h)) (.cons (zar _ _ (fun h=>nomatch h)) .nil)))))) (.cons (.lit _) .nil)))
  rw[c18,cond_true]at h;try simp only[rnA,Nat.reduceEqDiff,Nat.reduceLT,Nat.reduceAdd,Nat.reduceLeDiff]
  replace h:=qab h; subst h;exact zkg.ret rfl (Snp.zhP (.cons (.zcX (.cons (.lit _) (.cons (zaT zaa) (.cons (zaT (eI .i64)) (.cons (zaT (eI .u64)) (.cons (zaT (eI .i64)) .nil)))))) (.cons (.lit _) .nil)))
 rw[c4,cond_true]at h;try simp only[rnA,Nat.reduceEqDiff,Nat.reduceLT,Nat.reduceAdd,Nat.reduceLeDiff]
 replace h:=qab h; subst h;exact zkg.ret rfl (Snp.zhP (.cons (.zcX (.cons (.lit _) (.cons (zaT zaa) (.cons (zaT (eI .i64)) (.cons (zaT (eI .u64)) (.cons (zaT (eI .i64)) .nil)))))) (.cons (.lit _) .nil)))
def za5(p0:S_net_network)(x4:Int)(q6:Int):Nat→Int→(List Int)→Option (List Int)
 | 0,_,_=>none
 | n+1,v26,l1'=>(
bif (decide (v26<(((Int.toNat (p0.sets.length:Int)):Nat):Int)))then(
(zit .u64 (orI .u64 x4 q6) v26).bind fun q9=>
((bif ((zgv .u64 q9 1)== 1)then(
(zaK l1' v26).bind fun x12=>
(zhO .u64 1 v26).bind fun q14=>
(zgm l1' v26 (orI .u64 x12 (zqR .u64 (orI .u64 x4 q6) q14))).bind fun y16=>
some y16)
else(
some l1'):Option (List Int))).bind fun l1''=>
za5 p0 x4 q6 n (w64 (v26+1)) l1'')
else(
some l1'))
def za4(p0:S_net_network):Nat→Int→(List Int)→Option (List Int)
 | 0,_,_=>none
 | n+1,v15,l1=>(
bif (decide (v15<(p0.sets.length:Int)))then(
(zaK p0.sets v15).bind fun x4=>
(zhO .u64 1 v15).bind fun q6=>
((za5 p0 x4 q6 ((((Int.toNat (p0.sets.length:Int)):Nat):Int) - 0+2:Int).toNat 0 l1:Option (List Int))).bind fun l1'=>
za4 p0 n (w64 (v15+1)) l1')
else(
some l1))
def zaS(p0:S_net_network):Option (List Int):=
(zgd 8 (p0.sets.length:Int) 0).bind fun y1=>
((za4 p0 ((p0.sets.length:Int) - 0+2:Int).toNat 0 y1:Option (List Int))).bind fun l1=>
some l1
theorem zdw{p0:S_net_network}{r:(List Int)}(h:zaS p0=some r):Lx.Fn mC 60 [(.agg [(dI p0.net.grain),(fzE false zaa p0.net.nodes),(fzE false (eI .i64) p0.cards),(fzE false (eI .u64) p0.sets),(fzE false (eI .i64) p0.order)])] (fzE true (eI .u64) r):=by
 refine fnO (by conv=>lhs; cbv) ?_;unfold zaS at h;refine zab ?_;obtain⟨y1,g2,h⟩:=bind_some h;try simp only[rnA,Nat.reduceEqDiff,Nat.reduceLT,reduceCtorEq,zaj,(zbt g2).1.1,(zbt g2).1.2,qb5,(show List.replicate (Int.toNat (p0.sets.length:Int)) [(dU 0)]=y1.map ((eI .u64).c true)from zdn g2 ((eI .u64).c true))]
 obtain⟨o25,j25,h⟩:=bind_some h;obtain⟨T25,hT25⟩:=mkT fun a:(List Int)=>⟨47,[(3,(.sl 1 0 1 (Int.toNat (p0.sets.length:Int)) (some (Int.toNat (p0.sets.length:Int))) (Int.toNat (p0.sets.length:Int))))],[.gone,.els 1 (a.map ((eI .u64).c true))]⟩
 refine EvL.jn T25 (fun a=>a=o25∧a.length=(Int.toNat (p0.sets.length:Int))) ?_ ?_
 ·refine zab ?_;simp only[rnA];obtain⟨T42,hT42⟩:=mkT fun a:(Int×(List Int))=>⟨47,[(3,(.sl 1 0 1 (Int.toNat (p0.sets.length:Int)) (some (Int.toNat (p0.sets.length:Int))) (Int.toNat (p0.sets.length:Int)))),(13,(fzE false (eI .u64) p0.sets)),(14,(dI (p0.sets.length:Int))),(15,(dI a.1))],[.gone,.els 1 (a.2.map ((eI .u64).c true))]⟩
  refine EvL.rounds (α:=(Int×(List Int))) T42 (fun n a=>za4 p0 n a.1 a.2=some o25∧a.2.length=(Int.toNat (p0.sets.length:Int))) ((p0.sets.length:Int) - 0+2:Int).toNat (0,y1) (by rw[hT42]; exact wm0 [.d,.k] ⟨rfl,⟨MB.es (eI .u64) true y1,qcO⟩⟩) ⟨j25,zcR g2⟩ (fun _ h=>nomatch (show(none:Option (List Int))=some o25 from h.1)) ?_;rintro n ⟨v15,l1⟩ ⟨j25,el1⟩;simp only[za4]at j25;rw[congrFun hT42 (v15,l1)];refine zab ?_;try simp only[rnA,Nat.reduceEqDiff,Nat.reduceLT]
  cases c3:(decide (v15<(p0.sets.length:Int)))
  ·rw[c3,cond_false]at j25;try simp only[rnA]
   replace j25:=qab j25; subst j25;exact⟨_,⟨rfl,el1⟩,by rw[hT25]; exact wm0 [.d,.k] ⟨rfl,⟨MB.es (eI .u64) true l1,qcO⟩⟩⟩
  rw[c3,cond_true]at j25;obtain⟨x4,g5,j25⟩:=bind_some j25;obtain⟨q6,g7,j25⟩:=bind_some j25;try simp only[rnA,Nat.reduceEqDiff,Nat.reduceLT,zak (n:=1) (e:=(eI .u64)) rfl g5,(zaY g7).1,(zaY g7).2,el1]
  obtain⟨o46,j46,j25⟩:=bind_some j25;obtain⟨T46,hT46⟩:=mkT fun a:(List Int)=>⟨47,[(3,(.sl 1 0 1 (Int.toNat (p0.sets.length:Int)) (some (Int.toNat (p0.sets.length:Int))) (Int.toNat (p0.sets.length:Int)))),(13,(fzE false (eI .u64) p0.sets)),(14,(dI (p0.sets.length:Int))),(15,(dI v15))],[.gone,.els 1 (a.map ((eI .u64).c true))]⟩
  refine EvL.jn T46 (fun a=>a=o46∧a.length=(Int.toNat (p0.sets.length:Int))) ?_ ?_
  ·refine zab ?_;simp only[rnA];obtain⟨T49,hT49⟩:=mkT fun a:(Int×(List Int))=>⟨47,[(3,(.sl 1 0 1 (Int.toNat (p0.sets.length:Int)) (some (Int.toNat (p0.sets.length:Int))) (Int.toNat (p0.sets.length:Int)))),(6,(dU (orI .u64 x4 q6))),(13,(fzE false (eI .u64) p0.sets)),(14,(dI (p0.sets.length:Int))),(15,(dI v15)),(25,(dI (((Int.toNat (p0.sets.length:Int)):Nat):Int))),(26,(dI a.1))],[.gone,.els 1 (a.2.map ((eI .u64).c true))]⟩
   refine EvL.rounds (α:=(Int×(List Int))) T49 (fun n a=>za5 p0 x4 q6 n a.1 a.2=some o46∧a.2.length=(Int.toNat (p0.sets.length:Int))) ((((Int.toNat (p0.sets.length:Int)):Nat):Int) - 0+2:Int).toNat (0,l1) (by rw[hT49]; exact wm0 [.d,.k] ⟨rfl,⟨MB.es (eI .u64) true l1,qcO⟩⟩) ⟨j46,el1⟩ (fun _ h=>nomatch (show(none:Option (List Int))=some o46 from h.1)) ?_;rintro n ⟨v26,l1'⟩ ⟨j46,el1'⟩;simp only[za5]at j46;rw[congrFun hT49 (v26,l1')];refine zab ?_;try simp only[rnA,Nat.reduceEqDiff,Nat.reduceLT]
   cases c8:(decide (v26<(((Int.toNat (p0.sets.length:Int)):Nat):Int)))
   ·rw[c8,cond_false]at j46;try simp only[rnA,Nat.reduceEqDiff,Nat.reduceLT,reduceCtorEq]
    replace j46:=qab j46; subst j46;exact⟨_,⟨rfl,el1'⟩,by rw[hT46]; exact wm0 [.d,.k] ⟨rfl,⟨MB.es (eI .u64) true l1',qcO⟩⟩⟩
   rw[c8,cond_true]at j46;obtain⟨q9,g10,j46⟩:=bind_some j46;try simp only[rnA,Nat.reduceEqDiff,Nat.reduceLT,(zbj g10).1,(zbj g10).2]
   obtain⟨o50,j50,j46⟩:=bind_some j46;obtain⟨T50,hT50⟩:=mkT fun a:(List Int)=>⟨47,[(3,(.sl 1 0 1 (Int.toNat (p0.sets.length:Int)) (some (Int.toNat (p0.sets.length:Int))) (Int.toNat (p0.sets.length:Int)))),(6,(dU (orI .u64 x4 q6))),(13,(fzE false (eI .u64) p0.sets)),(14,(dI (p0.sets.length:Int))),(15,(dI v15)),(25,(dI (((Int.toNat (p0.sets.length:Int)):Nat):Int))),(26,(dI v26))],[.gone,.els 1 (a.map ((eI .u64).c true))]⟩
   refine EvL.jn T50 (fun a=>a=o50∧a.length=(Int.toNat (p0.sets.length:Int))) ?_ ?_
   ·refine zab ?_;try simp only[rnA,Nat.reduceEqDiff]
    cases c11:((zgv .u64 q9 1)== 1)
    ·rw[c11,cond_false]at j50;try simp only[rnA]
     replace j50:=qab j50; subst j50;exact⟨_,⟨rfl,el1'⟩,by rw[hT50]; exact wm0 [.d,.k] ⟨rfl,⟨MB.es (eI .u64) true l1',qcO⟩⟩⟩
    rw[c11,cond_true]at j50;obtain⟨x12,g13,j50⟩:=bind_some j50;obtain⟨q14,g15,j50⟩:=bind_some j50;obtain⟨y16,g17,j50⟩:=bind_some j50;try simp only[rnA,Nat.reduceEqDiff,Nat.reduceLT,Nat.reduceLeDiff,el1',zbz g13,(show v26<(((Int.toNat (p0.sets.length:Int)):Nat):Int)from el1' ▸ zbS g13),zbi g13 ((eI .u64).c true),(zaY g15).2,(show(l1'.map ((eI .u64).c true)).set v26.toNat [(dU (orI .u64 x12 (zqR .u64 (orI .u64 x4 q6) q14)))]=y16.map ((eI .u64).c true)from zci g17 ((eI .u64).c true))]
    replace j50:=qab j50; subst j50;exact⟨_,⟨rfl,(zb2 g17).trans el1'⟩,by rw[hT50]; exact wm0 [.d,.k] ⟨rfl,⟨MB.es (eI .u64) true y16,qcO⟩⟩⟩
   rintro l1'' ⟨rfl,el1''⟩;rw[congrFun hT50 l1''];refine zab ?_;try simp only[rnA,Nat.reduceEqDiff,Nat.reduceLT]
   exact⟨((w64 (v26+1)),l1''),⟨j46,el1''⟩,by rw[hT49]; exact wm0 [.d,.k] ⟨rfl,⟨MB.es (eI .u64) true l1'',qcO⟩⟩⟩
  rintro l1' ⟨rfl,el1'⟩;rw[congrFun hT46 l1'];refine zab ?_;try simp only[rnA,Nat.reduceEqDiff,Nat.reduceLT]
  exact⟨((w64 (v15+1)),l1'),⟨j25,el1'⟩,by rw[hT42]; exact wm0 [.d,.k] ⟨rfl,⟨MB.es (eI .u64) true l1',qcO⟩⟩⟩
 rintro l1 ⟨rfl,el1⟩;rw[congrFun hT25 l1];refine zab ?_;try simp only[rnA,Nat.reduceEqDiff,Nat.reduceLT]
 replace h:=qab h; subst h;exact zbq.ret rfl (zan (e:=(eI .u64)) (t:=true) rfl (.inl rfl) (el1).symm (el1).symm (fun k h=>by cases h; exact qal _) (fun _=>rfl))
def zb5(p0:S_api_Net):Option ((List Int)×Int):=
(zbp p0).bind fun r1=>
bif (r1.2 == 0)then(
(zaS r1.1).bind fun r4=>
some (r4,0))
else(
some ([],r1.2))
theorem zki{p0:S_api_Net}{r:((List Int)×Int)}(h:zb5 p0=some r):Lx.Fn mC 21 [(.agg [(dI p0.grain),(fzE false zaa p0.nodes)])] (.tup [(fzE true (eI .u64) r.1),(dI r.2)]):=by
 refine fnO (by conv=>lhs; cbv) ?_;unfold zb5 at h;refine zab ?_;obtain⟨r1,g2,h⟩:=bind_some h;try simp only[rnA,Nat.reduceEqDiff,reduceIte,Nat.reduceLT,Nat.reduceAdd,Nat.reduceLeDiff,Nat.reduceMul,Nat.reduceSub,Int.reduceLE,Int.reduceLT,Int.reduceBEq,Nat.reduceBEq,reduceCtorEq,zac,zas,zdh]
 refine EvL.fnS (zc7 g2) rfl rfl (.cons (Mzs.agg (.cons (.lit _) (.cons (zdv _ _ (fun h=>by cases h<;>contradiction)) .nil))) .nil) ⟨⟨qcO,(zaH _ _),qcO⟩,qcO⟩ ⟨⟨qcO,(zaH _ _),(zaH _ _),(zaH _ _),(zaH _ _),qcO⟩,qcO,qcO⟩ ?_;try simp only[rnA,Nat.reduceEqDiff,reduceIte,Nat.reduceLT,Nat.reduceAdd,Nat.reduceLeDiff,Nat.reduceMul,Nat.reduceSub,Int.reduceLE,Int.reduceLT,Int.reduceBEq,Nat.reduceBEq,reduceCtorEq,zac,zas]
 cases c3:(r1.2 == 0)
 ·rw[c3,cond_false]at h;try simp only[rnA,Nat.reduceEqDiff,reduceIte,Nat.reduceLT,Nat.reduceAdd,Nat.reduceLeDiff,Nat.reduceMul,Nat.reduceSub,Int.reduceLE,Int.reduceLT,Int.reduceBEq,Nat.reduceBEq,reduceCtorEq,zac,zas,c3]
  replace h:=qab h; subst h;exact zbq.ret rfl (Snp.zhP (.cons (zaT (eI .u64)) (.cons (.lit _) .nil)))
 rw[c3,cond_true]at h;obtain⟨r4,g5,h⟩:=bind_some h;try simp only[rnA,Nat.reduceEqDiff,reduceIte,Nat.reduceLT,Nat.reduceAdd,Nat.reduceLeDiff,Nat.reduceMul,Nat.reduceSub,Int.reduceLE,Int.reduceLT,Int.reduceBEq,Nat.reduceBEq,reduceCtorEq,zac,zas,c3]
 refine EvL.fn (zdw g5) rfl rfl (.cons (.zcX (.cons (.lit _) (.cons (zar _ _ (fun h=>nomatch h)) (.cons (zar _ _ (fun h=>nomatch h)) (.cons (zar _ _ (fun h=>nomatch h)) (.cons (zar _ _ (fun h=>nomatch h)) .nil)))))) .nil) ?_;try simp only[rnA,Nat.reduceEqDiff,reduceIte,Nat.reduceLT,Nat.reduceAdd,Nat.reduceLeDiff,Nat.reduceMul,Nat.reduceSub,Int.reduceLE,Int.reduceLT,Int.reduceBEq,Nat.reduceBEq,reduceCtorEq,zac,zas,c3]
 replace h:=qab h; subst h;exact zbq.ret rfl (Snp.zhP (.cons (zar _ _ (fun _=>rfl)) (.cons (.lit _) .nil)))
def zbC(p0:S_api_Net):Option ((List Int)×Int):=
(zbp p0).bind fun r1=>
some (r1.1.sets,r1.2)
theorem zhQ{p0:S_api_Net}{r:((List Int)×Int)}(h:zbC p0=some r):Lx.FnA mC 19 [(.agg [(dI p0.grain),(fzE false zaa p0.nodes)])] (.tup [(fzE false (eI .u64) r.1),(dI r.2)]):=by
 refine zuD (by conv=>lhs; cbv) ?_;unfold zbC at h;refine zab ?_;obtain⟨r1,g2,h⟩:=bind_some h;try simp only[rnA,Nat.reduceEqDiff,reduceIte,Nat.reduceLT,Nat.reduceAdd,Nat.reduceLeDiff,Nat.reduceMul,Nat.reduceSub,Int.reduceLE,Int.reduceLT,Int.reduceBEq,Nat.reduceBEq,reduceCtorEq,zac,zas,zdh]
 refine EvL.fnS (zc7 g2) rfl rfl (.cons (Mzs.agg (.cons (.lit _) (.cons (zdv _ _ (fun h=>by cases h<;>contradiction)) .nil))) .nil) ⟨⟨qcO,(zaH _ _),qcO⟩,qcO⟩ ⟨⟨qcO,(zaH _ _),(zaH _ _),(zaH _ _),(zaH _ _),qcO⟩,qcO,qcO⟩ ?_;try simp only[rnA,Nat.reduceEqDiff,reduceIte,Nat.reduceLT,Nat.reduceAdd,Nat.reduceLeDiff,Nat.reduceMul,Nat.reduceSub,Int.reduceLE,Int.reduceLT,Int.reduceBEq,Nat.reduceBEq,reduceCtorEq,zac,zas]
 replace h:=qab h; subst h;exact zkg.ret rfl (Snp.zhP (.cons (zar _ _ (fun h=>nomatch h)) (.cons (.lit _) .nil)))
def zcb(p0:S_api_Net):Option ((List Int)×Int):=
(zbp p0).bind fun r1=>
some (r1.1.order,r1.2)
theorem zj8{p0:S_api_Net}{r:((List Int)×Int)}(h:zcb p0=some r):Lx.FnA mC 20 [(.agg [(dI p0.grain),(fzE false zaa p0.nodes)])] (.tup [(fzE false (eI .i64) r.1),(dI r.2)]):=by
 refine zuD (by conv=>lhs; cbv) ?_;unfold zcb at h;refine zab ?_;obtain⟨r1,g2,h⟩:=bind_some h;try simp only[rnA,Nat.reduceEqDiff,reduceIte,Nat.reduceLT,Nat.reduceAdd,Nat.reduceLeDiff,Nat.reduceMul,Nat.reduceSub,Int.reduceLE,Int.reduceLT,Int.reduceBEq,Nat.reduceBEq,reduceCtorEq,zac,zas,zdh]
 refine EvL.fnS (zc7 g2) rfl rfl (.cons (Mzs.agg (.cons (.lit _) (.cons (zdv _ _ (fun h=>by cases h<;>contradiction)) .nil))) .nil) ⟨⟨qcO,(zaH _ _),qcO⟩,qcO⟩ ⟨⟨qcO,(zaH _ _),(zaH _ _),(zaH _ _),(zaH _ _),qcO⟩,qcO,qcO⟩ ?_;try simp only[rnA,Nat.reduceEqDiff,reduceIte,Nat.reduceLT,Nat.reduceAdd,Nat.reduceLeDiff,Nat.reduceMul,Nat.reduceSub,Int.reduceLE,Int.reduceLT,Int.reduceBEq,Nat.reduceBEq,reduceCtorEq,zac,zas]
 replace h:=qab h; subst h;exact zkg.ret rfl (Snp.zhP (.cons (zar _ _ (fun h=>nomatch h)) (.cons (.lit _) .nil)))
end Go.Dc
