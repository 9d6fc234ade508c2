/-
 What r02_Draft_Cards computes. Conditions: none.
-/
import Derived.Test.YtnfgibomhkbcpaaNfJ2
import Derived.Test.YtnfgibomhkbcpaaNfLi
set_option linter.unusedSimpArgs false
set_option linter.unusedVariables false
set_option maxRecDepth 100000
set_option maxHeartbeats 4000000
namespace Go.Dc
open Go Go.Mx Go.Lx Go.Proofs
def zbi(p0:S_haruspexref02_Draft):Nat→Int→(List Int)→Option (List Int)
 | 0,_,_=>none
 | n+1,v4,l1=>(
((bif (decide (v4<(p0.c.length:Int)))then(
some (decide (v4<5)))
else(
some false):Option Bool)).bind fun v13=>
bif v13 then(
(zaP p0.c v4).bind fun x3=>
(zcW 8 l1 [(w64 (1+(w64 (x3.tmod 4))))]).bind fun y5=>
zbi p0 n (w64 (v4+1)) y5)
else(
some l1))
def zbS(N:Nat)(p0:S_haruspexref02_Draft):Option (List Int):=
((zbi p0 N 0 []:Option (List Int))).bind fun l1=>
some l1
theorem zf8{N:Nat}{p0:S_haruspexref02_Draft}{r:(List Int)}(h:zbS N p0=some r):Lx.Fn mC 138 [(.agg [(fzE false (eI .u8) p0.c),(.lit (.int .u16 p0.which)),(fzE false (eI .u8) p0.order)])] (fzE true (eI .i64) r):=by
 refine fnO (by conv=>lhs; cbv) ?_;unfold zbS at h;refine zab ?_;try simp only[rnA,Nat.reduceLT]
 obtain⟨o5,j5,h⟩:=bind_some h;obtain⟨T5,hT5⟩:=mkT fun a:(List Int)=>⟨28,[(3,(.sl 1 0 1 a.length none a.length))],[.gone,.grow 1 (a.map ((eI .i64).c true))]⟩
 refine EvL.jn T5 (fun a=>a=o5) ?_ ?_
 ·refine zab ?_;simp only[rnA];obtain⟨T9,hT9⟩:=mkT fun a:(Int×(List Int))=>⟨28,[(1,(.ptr 0 0)),(3,(.sl 1 0 1 a.2.length none a.2.length)),(4,(dI a.1))],[.cells [(fzE false (eI .u8) p0.c),(.lit (.int .u16 p0.which)),(fzE false (eI .u8) p0.order)],.grow 1 (a.2.map ((eI .i64).c true))]⟩
  refine EvL.zdJ (zbx.ghost (n:=1) (k:=3) (by decide) rfl) ?_;refine EvL.rounds (α:=(Int×(List Int))) T9 (fun n a=>zbi p0 n a.1 a.2=some o5) N (0,[]) (by rw[hT9]; exact wm0 [.k,.k] ⟨MB.cs ⟨qdc,qdc,qdc,qdc⟩,⟨MB.gs (eI .i64) true [],qdc⟩⟩) j5 (fun _ h=>nomatch (show(none:Option (List Int))=some o5 from h)) ?_;rintro n ⟨v4,l1⟩ j5;simp only[zbi]at j5;rw[congrFun hT9 (v4,l1)];refine zab ?_;try simp only[rnA]
  obtain⟨o10,j10,j5⟩:=bind_some j5;obtain⟨T10,hT10⟩:=mkT fun a:Bool=>⟨28,[(1,(.ptr 0 0)),(3,(.sl 1 0 1 l1.length none l1.length)),(4,(dI v4)),(13,(dB a))],[.cells [(fzE false (eI .u8) p0.c),(.lit (.int .u16 p0.which)),(fzE false (eI .u8) p0.order)],.grow 1 (l1.map ((eI .i64).c true))]⟩
  refine EvL.jn T10 (fun a=>a=o10) ?_ ?_
  ·refine zab ?_;try simp only[rnA,Nat.reduceEqDiff,Nat.reduceLT,zam]
   cases c1:(decide (v4<(p0.c.length:Int)))
   ·rw[c1,cond_false]at j10;try simp only[rnA,Nat.reduceEqDiff,Nat.reduceLT]
    replace j10:=qac j10; subst j10;exact lfj hT10 rfl (wm0 [.k,.k] ⟨MB.cs ⟨qdc,qdc,qdc,qdc⟩,⟨MB.gs (eI .i64) true l1,qdc⟩⟩)
   rw[c1,cond_true]at j10;try simp only[rnA,Nat.reduceEqDiff,Nat.reduceLT]
   replace j10:=qac j10; subst j10;exact lfj hT10 rfl (wm0 [.k,.k] ⟨MB.cs ⟨qdc,qdc,qdc,qdc⟩,⟨MB.gs (eI .i64) true l1,qdc⟩⟩)
  rintro v13 rfl;rw[congrFun hT10 v13];refine zab ?_;try simp only[rnA,Nat.reduceEqDiff]
  cases c2:v13
  ·rw[c2,cond_false]at j5;try simp only[rnA]
   replace j5:=qac j5; subst j5;exact lfj hT5 rfl (wm0 [.d,.k] ⟨rfl,⟨MB.gs (eI .i64) true l1,qdc⟩⟩)
  rw[c2,cond_true]at j5;obtain⟨x3,g4,j5⟩:=bind_some j5;obtain⟨y5,g6,j5⟩:=bind_some j5;try simp only[rnA,Nat.reduceEqDiff,Nat.reduceLT,Nat.reduceAdd,Nat.reduceLeDiff,Int.reduceBEq,zak (n:=1) (e:=(eI .u8)) rfl g4,zbP g6,(show l1.length+1=y5.length from zbf g6),(show l1.map ((eI .i64).c true)++ [[(dI (w64 (1+(w64 (x3.tmod 4)))))]]=y5.map ((eI .i64).c true)from zbG g6 ((eI .i64).c true))]
  exact⟨((w64 (v4+1)),y5),j5,by rw[hT9]; exact wm0 [.k,.k] ⟨MB.cs ⟨qdc,qdc,qdc,qdc⟩,⟨MB.gs (eI .i64) true y5,qdc⟩⟩⟩
 rintro l1 rfl;rw[congrFun hT5 l1];refine zab ?_;try simp only[rnA,Nat.reduceEqDiff,Nat.reduceLT]
 replace h:=qac h; subst h;exact zbO.ret rfl (zal (e:=(eI .i64)) (t:=true) rfl (.inr rfl) rfl rfl (fun k h=>nomatch h) (fun _=>rfl))
def zaD(N:Nat)(p0:S_haruspexref02_Draft):Nat→Int→(List Int)→Option (List Int)
 | 0,_,_=>none
 | n+1,v4,l1=>(
(zbS N p0).bind fun r1=>
bif (decide (v4<(r1.length:Int)))then(
((bif (decide (v4<(p0.order.length:Int)))then(
(zaP p0.order v4).bind fun x5=>
(zoO (w64 x5) (w64 (v4+1))).bind fun q7=>
some q7)
else(
some 0):Option Int)).bind fun v5=>
(zdu l1 0 v5).bind fun y9=>
(zeL 8 y9).bind fun y11=>
(zcW 8 y9 [v4]).bind fun y13=>
(zdu l1 v5 l1.length).bind fun y15=>
(zcW 8 y13 y15).bind fun y17=>
zaD N p0 n (w64 (v4+1)) y17)
else(
some l1))
def za4(N:Nat)(p0:S_haruspexref02_Draft):Option (List Int):=
((zaD N p0 N 0 []:Option (List Int))).bind fun l1=>
some l1
theorem zev{N:Nat}{p0:S_haruspexref02_Draft}{r:(List Int)}(h:za4 N p0=some r):Lx.Fn mC 109 [(.agg [(fzE false (eI .u8) p0.c),(.lit (.int .u16 p0.which)),(fzE false (eI .u8) p0.order)])] (fzE true (eI .i64) r):=by
 refine fnO (by conv=>lhs; cbv) ?_;unfold za4 at h;refine zab ?_;try simp only[rnA,Nat.reduceLT]
 obtain⟨o5,j5,h⟩:=bind_some h;obtain⟨T5,hT5⟩:=mkT fun a:(List Int)=>⟨42,[(3,(.sl 1 0 1 a.length none a.length))],[.gone,.grow 1 (a.map ((eI .i64).c true))]⟩
 refine EvL.jn T5 (fun a=>a=o5) ?_ ?_
 ·refine zab ?_;simp only[rnA];obtain⟨T9,hT9⟩:=mkT fun a:(Int×(List Int))=>⟨42,[(1,(.ptr 0 0)),(3,(.sl 1 0 1 a.2.length none a.2.length)),(4,(dI a.1))],[.cells [(fzE false (eI .u8) p0.c),(.lit (.int .u16 p0.which)),(fzE false (eI .u8) p0.order)],.grow 1 (a.2.map ((eI .i64).c true))]⟩
  refine EvL.zdJ (zbx.ghost (n:=1) (k:=3) (by decide) rfl) ?_;refine EvL.rounds (α:=(Int×(List Int))) T9 (fun n a=>zaD N p0 n a.1 a.2=some o5) N (0,[]) (by rw[hT9]; exact wm0 [.k,.k] ⟨MB.cs ⟨qdc,qdc,qdc,qdc⟩,⟨MB.gs (eI .i64) true [],qdc⟩⟩) j5 (fun _ h=>nomatch (show(none:Option (List Int))=some o5 from h)) ?_;rintro n ⟨v4,l1⟩ j5;simp only[zaD]at j5;rw[congrFun hT9 (v4,l1)];refine zab ?_;obtain⟨r1,g2,j5⟩:=bind_some j5;try simp only[rnA,Nat.reduceEqDiff,Nat.reduceLT,Nat.reduceAdd,Nat.reduceLeDiff]
  refine EvL.fn (zf8 g2) rfl rfl (.cons (.zc5 (.cons (zat _ _ (fun h=>nomatch h)) (.cons (.lit _) (.cons (zat _ _ (fun h=>nomatch h)) .nil)))) .nil) ?_;try simp only[rnA,Nat.reduceEqDiff,Nat.reduceLT,zam]
  cases c3:(decide (v4<(r1.length:Int)))
  ·rw[c3,cond_false]at j5;try simp only[rnA]
   replace j5:=qac j5; subst j5;exact lfj hT5 rfl (wm0 [.d,.k] ⟨rfl,⟨MB.gs (eI .i64) true l1,qdc⟩⟩)
  rw[c3,cond_true]at j5;try simp only[rnA,Nat.reduceEqDiff,Nat.reduceLT,zam]
  obtain⟨o10,j10,j5⟩:=bind_some j5;obtain⟨T10,hT10⟩:=mkT fun a:Int=>⟨42,[(1,(.ptr 0 0)),(3,(.sl 1 0 1 l1.length none l1.length)),(4,(dI v4)),(5,(dI a))],[.cells [(fzE false (eI .u8) p0.c),(.lit (.int .u16 p0.which)),(fzE false (eI .u8) p0.order)],.grow 1 (l1.map ((eI .i64).c true))]⟩
  refine EvL.jn T10 (fun a=>a=o10) ?_ ?_
  ·refine zab ?_;try simp only[rnA,Nat.reduceEqDiff]
   cases c4:(decide (v4<(p0.order.length:Int)))
   ·rw[c4,cond_false]at j10;try simp only[rnA]
    replace j10:=qac j10; subst j10;exact lfj hT10 rfl (wm0 [.k,.k] ⟨MB.cs ⟨qdc,qdc,qdc,qdc⟩,⟨MB.gs (eI .i64) true l1,qdc⟩⟩)
   rw[c4,cond_true]at j10;obtain⟨x5,g6,j10⟩:=bind_some j10;obtain⟨q7,g8,j10⟩:=bind_some j10;try simp only[rnA,Nat.reduceEqDiff,Nat.reduceLT,zak (n:=1) (e:=(eI .u8)) rfl g6,zl8 g8,zmh g8]
   replace j10:=qac j10; subst j10;exact lfj hT10 rfl (wm0 [.k,.k] ⟨MB.cs ⟨qdc,qdc,qdc,qdc⟩,⟨MB.gs (eI .i64) true l1,qdc⟩⟩)
  rintro v5 rfl;rw[congrFun hT10 v5];refine EvL.zdJ (S':=⟨42,[(1,(.ptr 0 0)),(3,(fzE true (eI .i64) l1)),(4,(dI v4)),(5,(dI v5))],[.cells [(fzE false (eI .u8) p0.c),(.lit (.int .u16 p0.which)),(fzE false (eI .u8) p0.order)]]⟩) (zbx.m0 [.k,.f] rfl (msq (mf rfl (zc8 (e:=(eI .i64)) (t:=true) rfl rfl (.inr rfl) rfl rfl (fun k h=>nomatch h) (fun h=>by cases h<;>rfl)) (msq (msq trivial)))) ⟨MB.cs ⟨qdc,qdc,qdc,qdc⟩,qdc⟩) (zab ?_);obtain⟨y9,g10,j5⟩:=bind_some j5;obtain⟨y11,g12,j5⟩:=bind_some j5;obtain⟨y13,g14,j5⟩:=bind_some j5;obtain⟨y15,g16,j5⟩:=bind_some j5;obtain⟨y17,g18,j5⟩:=bind_some j5;try simp only[rnA,Nat.reduceEqDiff,Nat.reduceLT,Nat.reduceAdd,Nat.reduceLeDiff,zlH (n:=1) (e:=(eI .i64)) rfl g10,zdE (n:=1) (e:=(eI .i64)) rfl,zhT g12,zbP g14,(show y9.length+1=y13.length from zbf g14),(show y9.map ((eI .i64).c true)++ [[(dI v4)]]=y13.map ((eI .i64).c true)from zbG g14 ((eI .i64).c true)),zw5 (n:=1) (e:=(eI .i64)) rfl g16,zbP g18,(show y13.length+y15.length=y17.length from zbf g18),(show y13.map ((eI .i64).c true)++ y15.map ((eI .i64).c true)=y17.map ((eI .i64).c true)from zbG g18 ((eI .i64).c true))]
  exact⟨((w64 (v4+1)),y17),j5,by rw[hT9]; exact wm0 [.k,.k] ⟨MB.cs ⟨qdc,qdc,qdc,qdc⟩,⟨MB.gs (eI .i64) true y17,qdc⟩⟩⟩
 rintro l1 rfl;rw[congrFun hT5 l1];refine zab ?_;try simp only[rnA,Nat.reduceEqDiff,Nat.reduceLT]
 replace h:=qac h; subst h;exact zbO.ret rfl (zal (e:=(eI .i64)) (t:=true) rfl (.inr rfl) rfl rfl (fun k h=>nomatch h) (fun _=>rfl))
def zci(p1:(List Int))(p0:(List Int)):Nat→Int→Int→Int→Option Int
 | 0,_,_,_=>none
 | n+1,v5,v6,v7=>(
bif (decide (0≤v7))then(
(zaP p1 v7).bind fun x2=>
(zaP p0 v7).bind fun x4=>
zci p1 p0 n (w64 (v5+(w64 (x2 * v6)))) (w64 (v6 * x4)) (w64 (v7 - 1)))
else(
some v5))
def zd0(p0:(List Int))(p1:(List Int)):Option Int:=
((zci p1 p0 ((w64 ((p0.length:Int) - 1)) - 0+2:Int).toNat 0 1 (w64 ((p0.length:Int) - 1)):Option Int)).bind fun v5=>
some v5
theorem zli{p0:(List Int)}{p1:(List Int)}{r:Int}(h:zd0 p0 p1=some r):Lx.Fn mC 132 [(fzE false (eI .i64) p0),(fzE false (eI .i64) p1)] (dI r):=by
 refine fnO (by conv=>lhs; cbv) ?_;unfold zd0 at h;refine zab ?_;try simp only[rnA,Nat.reduceEqDiff,reduceIte,Nat.reduceLT,Nat.reduceAdd,Nat.reduceLeDiff,Nat.reduceMul,Nat.reduceSub,Int.reduceLE,Int.reduceLT,Int.reduceBEq,Nat.reduceBEq,reduceCtorEq,zam]
 obtain⟨o1,j1,h⟩:=bind_some h;obtain⟨T1,hT1⟩:=mkT fun a:Int=>⟨30,[(5,(dI a))],[]⟩
 refine EvL.jn T1 (fun a=>a=o1) ?_ ?_
 ·refine zab ?_;simp only[rnA,Nat.reduceEqDiff,reduceIte,Nat.reduceLT,Nat.reduceAdd,Nat.reduceLeDiff,Nat.reduceMul,Nat.reduceSub,Int.reduceLE,Int.reduceLT,Int.reduceBEq,Nat.reduceBEq,reduceCtorEq];obtain⟨T2,hT2⟩:=mkT fun a:(Int×Int×Int)=>⟨30,[(0,(fzE false (eI .i64) p0)),(1,(fzE false (eI .i64) p1)),(5,(dI a.1)),(6,(dI a.2.1)),(7,(dI a.2.2))],[]⟩
  refine EvL.rounds (α:=(Int×Int×Int)) T2 (fun n a=>zci p1 p0 n a.1 a.2.1 a.2.2=some o1) ((w64 ((p0.length:Int) - 1)) - 0+2:Int).toNat (0,1,(w64 ((p0.length:Int) - 1))) (by rw[hT2]; exact wm0 [] (by exact trivial)) j1 (fun _ h=>nomatch (show(none:Option Int)=some o1 from h)) ?_;rintro n ⟨v5,v6,v7⟩ j1;simp only[zci]at j1;rw[congrFun hT2 (v5,v6,v7)];refine zab ?_;try simp only[rnA,Nat.reduceEqDiff,reduceIte,Nat.reduceLT,Nat.reduceAdd,Nat.reduceLeDiff,Nat.reduceMul,Nat.reduceSub,Int.reduceLE,Int.reduceLT,Int.reduceBEq,Nat.reduceBEq,reduceCtorEq]
  cases c1:(decide (0≤v7))
  ·rw[c1,cond_false]at j1;try simp only[rnA,Nat.reduceEqDiff,reduceIte,Nat.reduceLT,Nat.reduceAdd,Nat.reduceLeDiff,Nat.reduceMul,Nat.reduceSub,Int.reduceLE,Int.reduceLT,Int.reduceBEq,Nat.reduceBEq,reduceCtorEq,c1]
   replace j1:=qac j1; subst j1;exact lfj hT1 rfl (wm0 [] (by exact trivial))
  rw[c1,cond_true]at j1;obtain⟨x2,g3,j1⟩:=bind_some j1;obtain⟨x4,g5,j1⟩:=bind_some j1;try simp only[rnA,Nat.reduceEqDiff,reduceIte,Nat.reduceLT,Nat.reduceAdd,Nat.reduceLeDiff,Nat.reduceMul,Nat.reduceSub,Int.reduceLE,Int.reduceLT,Int.reduceBEq,Nat.reduceBEq,reduceCtorEq,zak (n:=1) (e:=(eI .i64)) rfl g3,zak (n:=1) (e:=(eI .i64)) rfl g5,c1]
  exact⟨((w64 (v5+(w64 (x2 * v6)))),(w64 (v6 * x4)),(w64 (v7 - 1))),j1,by rw[hT2]; exact wm0 [] (by exact trivial)⟩
 rintro v5 rfl;rw[congrFun hT1 v5];refine zab ?_;try simp only[rnA,Nat.reduceEqDiff,reduceIte,Nat.reduceLT,Nat.reduceAdd,Nat.reduceLeDiff,Nat.reduceMul,Nat.reduceSub,Int.reduceLE,Int.reduceLT,Int.reduceBEq,Nat.reduceBEq,reduceCtorEq]
 replace h:=qac h; subst h;exact zbO.ret rfl (.lit _)
def zcK(p0:(List Int))(p1:(List Int)):Nat→Int→Option (Out Unit Bool)
 | 0,_=>none
 | n+1,v5=>(
bif (decide (v5<(p0.length:Int)))then(
(zaP p0 v5).bind fun x3=>
(zaP p1 v5).bind fun x5=>
bif (x3 == x5)then(
zcK p0 p1 n (w64 (v5+1)))
else(
some (.ret false)))
else(
some (.go ())))
def zdh(p0:(List Int))(p1:(List Int)):Option Bool:=
bif ((p0.length:Int)==(p1.length:Int))then(
((zcK p0 p1 ((p0.length:Int) - 0+2:Int).toNat 0:Option (Out Unit Bool))).bind fun o=>match o with
| .go _=>(
some true)
| .ret r=>some r)
else(
some false)
theorem zfV{p0:(List Int)}{p1:(List Int)}{r:Bool}(h:zdh p0 p1=some r):Lx.Fn mC 87 [(fzE false (eI .i64) p0),(fzE false (eI .i64) p1)] (dB r):=by
 refine fnO (by conv=>lhs; cbv) ?_;unfold zdh at h;refine zab ?_;try simp only[rnA,Nat.reduceEqDiff,Nat.reduceLT,Nat.reduceAdd,reduceCtorEq,zam]
 cases c1:((p0.length:Int)==(p1.length:Int))
 ·rw[c1,cond_false]at h;try simp only[rnA,Nat.reduceLT]
  replace h:=qac h; subst h;exact zbO.ret rfl (.lit _)
 rw[c1,cond_true]at h;try simp only[rnA,Nat.reduceLT]
 obtain⟨o1,j1,h⟩:=bind_some h;obtain⟨T1,hT1⟩:=mkT fun a:Unit=>⟨26,[],[]⟩
 refine EvL.jn T1 (fun a=>o1=.go a) ?_ ?_
 ·refine zab ?_;simp only[rnA];obtain⟨T2,hT2⟩:=mkT fun a:Int=>⟨26,[(0,(fzE false (eI .i64) p0)),(1,(fzE false (eI .i64) p1)),(5,(dI a))],[]⟩
  refine EvL.rounds (α:=Int) T2 (fun n a=>zcK p0 p1 n a=some o1) ((p0.length:Int) - 0+2:Int).toNat 0 (by rw[hT2]; exact wm0 [] (by exact trivial)) j1 (fun _ h=>nomatch (show(none:Option (Out Unit Bool))=some o1 from h)) ?_;rintro n v5 j1;simp only[zcK]at j1;rw[congrFun hT2 v5];refine zab ?_;try simp only[rnA,Nat.reduceEqDiff,Nat.reduceLT,reduceCtorEq,zam]
  cases c2:(decide (v5<(p0.length:Int)))
  ·rw[c2,cond_false]at j1;try simp only[rnA]
   replace j1:=qac j1; subst j1;exact lfj hT1 rfl (wm0 [] (by exact trivial))
  rw[c2,cond_true]at j1;obtain⟨x3,g4,j1⟩:=bind_some j1;obtain⟨x5,g6,j1⟩:=bind_some j1;try simp only[rnA,Nat.reduceEqDiff,Nat.reduceLT,reduceCtorEq,zak (n:=1) (e:=(eI .i64)) rfl g4,zak (n:=1) (e:=(eI .i64)) rfl g6]
  cases c7:(x3 == x5)
  ·rw[c7,cond_false]at j1;try simp only[rnA,Nat.reduceLT]
   replace j1:=qac j1; subst j1;dsimp only at h;replace h:=qac h; subst h;exact zbO.ret rfl (.lit _)
  rw[c7,cond_true]at j1;try simp only[rnA,Nat.reduceEqDiff,Nat.reduceLT,reduceCtorEq]
  exact⟨(w64 (v5+1)),j1,by rw[hT2]; exact wm0 [] (by exact trivial)⟩
 rintro⟨⟩ rfl;dsimp only at h;rw[congrFun hT1 ()];refine zab ?_;try simp only[rnA,Nat.reduceLT]
 replace h:=qac h; subst h;exact zbO.ret rfl (.lit _)
def zeu(p0:S_api_Factor)(p1:S_api_Factor):Option Bool:=
(((zdh p0.vars p1.vars).bind fun r1=>
bif r1 then(
(zdh p0.cards p1.cards).bind fun r4=>
bif r4 then(
(zdh p0.w p1.w).bind fun r7=>
some r7)
else(
some false))
else(
some false):Option Bool)).bind fun v4=>
some v4
theorem zmU{p0:S_api_Factor}{p1:S_api_Factor}{r:Bool}(h:zeu p0 p1=some r):Lx.Fn mC 19 [(.agg [(fzE false (eI .i64) p0.vars),(fzE false (eI .i64) p0.cards),(fzE false (eI .i64) p0.w)]),(.agg [(fzE false (eI .i64) p1.vars),(fzE false (eI .i64) p1.cards),(fzE false (eI .i64) p1.w)])] (dB r):=by
 refine fnO (by conv=>lhs; cbv) ?_;unfold zeu at h;refine zab ?_;try simp only[rnA,Nat.reduceEqDiff,Nat.reduceLT,Nat.reduceAdd,reduceCtorEq]
 obtain⟨o1,j1,h⟩:=bind_some h;obtain⟨T1,hT1⟩:=mkT fun a:Bool=>⟨24,[(4,(dB a))],[]⟩
 refine EvL.jn T1 (fun a=>a=o1) ?_ ?_
 ·refine zab ?_;obtain⟨r1,g2,j1⟩:=bind_some j1;try simp only[rnA,Nat.reduceEqDiff,Nat.reduceLT,reduceCtorEq]
  refine EvL.fn (zfV g2) rfl rfl (.cons (zat _ _ (fun h=>nomatch h)) (.cons (zat _ _ (fun h=>nomatch h)) .nil)) ?_;try simp only[rnA,Nat.reduceEqDiff,Nat.reduceLT,reduceCtorEq]
  cases c3:r1
  ·rw[c3,cond_false]at j1;try simp only[rnA,Nat.reduceEqDiff,Nat.reduceLT,reduceCtorEq]
   refine EvL.skip rfl ?_;try simp only[rnA,Nat.reduceEqDiff,Nat.reduceLT,reduceCtorEq]
   refine EvL.skip rfl ?_;try simp only[rnA,Nat.reduceEqDiff,Nat.reduceLT,reduceCtorEq]
   replace j1:=qac j1; subst j1;exact lfj hT1 rfl (wm0 [] (by exact trivial))
  rw[c3,cond_true]at j1;obtain⟨r4,g5,j1⟩:=bind_some j1;try simp only[rnA,Nat.reduceEqDiff,Nat.reduceLT,reduceCtorEq]
  refine EvL.fn (zfV g5) rfl rfl (.cons (zat _ _ (fun h=>nomatch h)) (.cons (zat _ _ (fun h=>nomatch h)) .nil)) ?_;try simp only[rnA,Nat.reduceEqDiff,Nat.reduceLT,reduceCtorEq]
  cases c6:r4
  ·rw[c6,cond_false]at j1;try simp only[rnA,Nat.reduceEqDiff,Nat.reduceLT,reduceCtorEq]
   refine EvL.skip rfl ?_;try simp only[rnA,Nat.reduceEqDiff,Nat.reduceLT,reduceCtorEq]
   replace j1:=qac j1; subst j1;exact lfj hT1 rfl (wm0 [] (by exact trivial))
  rw[c6,cond_true]at j1;obtain⟨r7,g8,j1⟩:=bind_some j1;try simp only[rnA,Nat.reduceEqDiff,Nat.reduceLT,reduceCtorEq]
  refine EvL.fn (zfV g8) rfl rfl (.cons (zat _ _ (fun h=>nomatch h)) (.cons (zat _ _ (fun h=>nomatch h)) .nil)) ?_;try simp only[rnA,Nat.reduceEqDiff,Nat.reduceLT,reduceCtorEq]
  replace j1:=qac j1; subst j1;exact lfj hT1 rfl (wm0 [] (by exact trivial))
 rintro v4 rfl;rw[congrFun hT1 v4];refine zab ?_;try simp only[rnA]
 replace h:=qac h; subst h;exact zbO.ret rfl (.lit _)
end Go.Dc
