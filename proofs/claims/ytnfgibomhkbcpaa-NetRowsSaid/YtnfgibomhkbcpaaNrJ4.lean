/-
 What r02_Draft_Cards computes. Conditions: none.
-/
import Derived.Test.YtnfgibomhkbcpaaNrJ3
set_option linter.unusedSimpArgs false
set_option linter.unusedVariables false
set_option maxRecDepth 100000
set_option maxHeartbeats 4000000
namespace Go.Dc
open Go Go.Mx Go.Lx Go.Proofs
def zbh(p0:S_haruspexref02_Draft):Nat→Int→(List Int)→Option (List Int)
 | 0,_,_=>none
 | n+1,v4,l1=>(
((bif (decide (v4<(p0.c.length:Int)))then(
some (decide (v4<5)))
else(
some false):Option Bool)).bind fun v13=>
bif v13 then(
(za5 p0.c v4).bind fun x3=>
(zdL 8 l1 [(w64 (1+(w64 (x3.tmod 4))))]).bind fun y5=>
zbh p0 n (w64 (v4+1)) y5)
else(
some l1))
def zbJ(N:Nat)(p0:S_haruspexref02_Draft):Option (List Int):=
((zbh p0 N 0 []:Option (List Int))).bind fun l1=>
some l1
theorem zgp{N:Nat}{p0:S_haruspexref02_Draft}{r:(List Int)}(h:zbJ N p0=some r):Lx.Fn mC 138 [(.agg [(fzE false (eI .u8) p0.c),(.lit (.int .u16 p0.which)),(fzE false (eI .u8) p0.order)])] (fzE true (eI .i64) r):=by
 refine fnO (by conv=>lhs; cbv) ?_;unfold zbJ at h;refine zaa ?_;try simp only[rnA,Nat.reduceLT]
 obtain⟨o5,j5,h⟩:=bind_some h;obtain⟨T5,hT5⟩:=mkT fun a:(List Int)=>⟨28,[(3,(.sl 1 0 1 a.length none a.length))],[.gone,.grow 1 (a.map ((eI .i64).c true))]⟩
 refine EvL.jn T5 (fun a=>a=o5) ?_ ?_
 ·refine zaa ?_;simp only[rnA];obtain⟨T9,hT9⟩:=mkT fun a:(Int×(List Int))=>⟨28,[(1,(.ptr 0 0)),(3,(.sl 1 0 1 a.2.length none a.2.length)),(4,(dI a.1))],[.cells [(fzE false (eI .u8) p0.c),(.lit (.int .u16 p0.which)),(fzE false (eI .u8) p0.order)],.grow 1 (a.2.map ((eI .i64).c true))]⟩
  refine EvL.zkg (zbA.ghost (n:=1) (k:=3) (by decide) rfl) ?_;refine EvL.rounds (α:=(Int×(List Int))) T9 (fun n a=>zbh p0 n a.1 a.2=some o5) N (0,[]) (by rw[hT9]; exact wm0 [.k,.k] ⟨MB.cs ⟨qc8,qc8,qc8,qc8⟩,⟨MB.gs (eI .i64) true [],qc8⟩⟩) j5 (fun _ h=>nomatch (show(none:Option (List Int))=some o5 from h)) ?_;rintro n ⟨v4,l1⟩ j5;simp only[zbh]at j5;rw[congrFun hT9 (v4,l1)];refine zaa ?_;try simp only[rnA]
  obtain⟨o10,j10,j5⟩:=bind_some j5;obtain⟨T10,hT10⟩:=mkT fun a:Bool=>⟨28,[(1,(.ptr 0 0)),(3,(.sl 1 0 1 l1.length none l1.length)),(4,(dI v4)),(13,(dB a))],[.cells [(fzE false (eI .u8) p0.c),(.lit (.int .u16 p0.which)),(fzE false (eI .u8) p0.order)],.grow 1 (l1.map ((eI .i64).c true))]⟩
  refine EvL.jn T10 (fun a=>a=o10) ?_ ?_
  ·refine zaa ?_;try simp only[rnA,Nat.reduceEqDiff,Nat.reduceLT,zas]
   cases c1:(decide (v4<(p0.c.length:Int)))
   ·rw[c1,cond_false]at j10;try simp only[rnA,Nat.reduceEqDiff,Nat.reduceLT]
    replace j10:=qac j10; subst j10;exact lfj hT10 rfl (wm0 [.k,.k] ⟨MB.cs ⟨qc8,qc8,qc8,qc8⟩,⟨MB.gs (eI .i64) true l1,qc8⟩⟩)
   rw[c1,cond_true]at j10;try simp only[rnA,Nat.reduceEqDiff,Nat.reduceLT]
   replace j10:=qac j10; subst j10;exact lfj hT10 rfl (wm0 [.k,.k] ⟨MB.cs ⟨qc8,qc8,qc8,qc8⟩,⟨MB.gs (eI .i64) true l1,qc8⟩⟩)
  rintro v13 rfl;rw[congrFun hT10 v13];refine zaa ?_;try simp only[rnA,Nat.reduceEqDiff]
  cases c2:v13
  ·rw[c2,cond_false]at j5;try simp only[rnA]
   replace j5:=qac j5; subst j5;exact lfj hT5 rfl (wm0 [.d,.k] ⟨rfl,⟨MB.gs (eI .i64) true l1,qc8⟩⟩)
  rw[c2,cond_true]at j5;obtain⟨x3,g4,j5⟩:=bind_some j5;obtain⟨y5,g6,j5⟩:=bind_some j5;try simp only[rnA,Nat.reduceEqDiff,Nat.reduceLT,Nat.reduceAdd,Nat.reduceLeDiff,Int.reduceBEq,zal (n:=1) (e:=(eI .u8)) rfl g4,zdt g6,(show l1.length+1=y5.length from zcs g6),(show l1.map ((eI .i64).c true)++ [[(dI (w64 (1+(w64 (x3.tmod 4)))))]]=y5.map ((eI .i64).c true)from zcU g6 ((eI .i64).c true))]
  exact⟨((w64 (v4+1)),y5),j5,by rw[hT9]; exact wm0 [.k,.k] ⟨MB.cs ⟨qc8,qc8,qc8,qc8⟩,⟨MB.gs (eI .i64) true y5,qc8⟩⟩⟩
 rintro l1 rfl;rw[congrFun hT5 l1];refine zaa ?_;try simp only[rnA,Nat.reduceEqDiff,Nat.reduceLT]
 replace h:=qac h; subst h;exact zdd.ret rfl (zbz (e:=(eI .i64)) (t:=true) rfl (.inr rfl) rfl rfl (fun k h=>nomatch h) (fun _=>rfl))
def zaD(N:Nat)(p0:S_haruspexref02_Draft):Nat→Int→(List Int)→Option (List Int)
 | 0,_,_=>none
 | n+1,v4,l1=>(
(zbJ N p0).bind fun r1=>
bif (decide (v4<(r1.length:Int)))then(
((bif (decide (v4<(p0.order.length:Int)))then(
(za5 p0.order v4).bind fun x5=>
(zpl (w64 x5) (w64 (v4+1))).bind fun q7=>
some q7)
else(
some 0):Option Int)).bind fun v5=>
(ze2 l1 0 v5).bind fun y9=>
(zdq 8 y9).bind fun y11=>
(zdL 8 y9 [v4]).bind fun y13=>
(ze2 l1 v5 l1.length).bind fun y15=>
(zdL 8 y13 y15).bind fun y17=>
zaD N p0 n (w64 (v4+1)) y17)
else(
some l1))
def za4(N:Nat)(p0:S_haruspexref02_Draft):Option (List Int):=
((zaD N p0 N 0 []:Option (List Int))).bind fun l1=>
some l1
theorem zek{N:Nat}{p0:S_haruspexref02_Draft}{r:(List Int)}(h:za4 N p0=some r):Lx.Fn mC 109 [(.agg [(fzE false (eI .u8) p0.c),(.lit (.int .u16 p0.which)),(fzE false (eI .u8) p0.order)])] (fzE true (eI .i64) r):=by
 refine fnO (by conv=>lhs; cbv) ?_;unfold za4 at h;refine zaa ?_;try simp only[rnA,Nat.reduceLT]
 obtain⟨o5,j5,h⟩:=bind_some h;obtain⟨T5,hT5⟩:=mkT fun a:(List Int)=>⟨42,[(3,(.sl 1 0 1 a.length none a.length))],[.gone,.grow 1 (a.map ((eI .i64).c true))]⟩
 refine EvL.jn T5 (fun a=>a=o5) ?_ ?_
 ·refine zaa ?_;simp only[rnA];obtain⟨T9,hT9⟩:=mkT fun a:(Int×(List Int))=>⟨42,[(1,(.ptr 0 0)),(3,(.sl 1 0 1 a.2.length none a.2.length)),(4,(dI a.1))],[.cells [(fzE false (eI .u8) p0.c),(.lit (.int .u16 p0.which)),(fzE false (eI .u8) p0.order)],.grow 1 (a.2.map ((eI .i64).c true))]⟩
  refine EvL.zkg (zbA.ghost (n:=1) (k:=3) (by decide) rfl) ?_;refine EvL.rounds (α:=(Int×(List Int))) T9 (fun n a=>zaD N p0 n a.1 a.2=some o5) N (0,[]) (by rw[hT9]; exact wm0 [.k,.k] ⟨MB.cs ⟨qc8,qc8,qc8,qc8⟩,⟨MB.gs (eI .i64) true [],qc8⟩⟩) j5 (fun _ h=>nomatch (show(none:Option (List Int))=some o5 from h)) ?_;rintro n ⟨v4,l1⟩ j5;simp only[zaD]at j5;rw[congrFun hT9 (v4,l1)];refine zaa ?_;obtain⟨r1,g2,j5⟩:=bind_some j5;try simp only[rnA,Nat.reduceEqDiff,Nat.reduceLT,Nat.reduceAdd,Nat.reduceLeDiff]
  refine EvL.fn (zgp g2) rfl rfl (.cons (.zeD (.cons (zaj _ _ (fun h=>nomatch h)) (.cons (.lit _) (.cons (zaj _ _ (fun h=>nomatch h)) .nil)))) .nil) ?_;try simp only[rnA,Nat.reduceEqDiff,Nat.reduceLT,zas]
  cases c3:(decide (v4<(r1.length:Int)))
  ·rw[c3,cond_false]at j5;try simp only[rnA]
   replace j5:=qac j5; subst j5;exact lfj hT5 rfl (wm0 [.d,.k] ⟨rfl,⟨MB.gs (eI .i64) true l1,qc8⟩⟩)
  rw[c3,cond_true]at j5;try simp only[rnA,Nat.reduceEqDiff,Nat.reduceLT,zas]
  obtain⟨o10,j10,j5⟩:=bind_some j5;obtain⟨T10,hT10⟩:=mkT fun a:Int=>⟨42,[(1,(.ptr 0 0)),(3,(.sl 1 0 1 l1.length none l1.length)),(4,(dI v4)),(5,(dI a))],[.cells [(fzE false (eI .u8) p0.c),(.lit (.int .u16 p0.which)),(fzE false (eI .u8) p0.order)],.grow 1 (l1.map ((eI .i64).c true))]⟩
  refine EvL.jn T10 (fun a=>a=o10) ?_ ?_
  ·refine zaa ?_;try simp only[rnA,Nat.reduceEqDiff]
   cases c4:(decide (v4<(p0.order.length:Int)))
   ·rw[c4,cond_false]at j10;try simp only[rnA]
    replace j10:=qac j10; subst j10;exact lfj hT10 rfl (wm0 [.k,.k] ⟨MB.cs ⟨qc8,qc8,qc8,qc8⟩,⟨MB.gs (eI .i64) true l1,qc8⟩⟩)
   rw[c4,cond_true]at j10;obtain⟨x5,g6,j10⟩:=bind_some j10;obtain⟨q7,g8,j10⟩:=bind_some j10;try simp only[rnA,Nat.reduceEqDiff,Nat.reduceLT,zal (n:=1) (e:=(eI .u8)) rfl g6,zmT g8,zmv g8]
   replace j10:=qac j10; subst j10;exact lfj hT10 rfl (wm0 [.k,.k] ⟨MB.cs ⟨qc8,qc8,qc8,qc8⟩,⟨MB.gs (eI .i64) true l1,qc8⟩⟩)
  rintro v5 rfl;rw[congrFun hT10 v5];refine EvL.zkg (S':=⟨42,[(1,(.ptr 0 0)),(3,(fzE true (eI .i64) l1)),(4,(dI v4)),(5,(dI v5))],[.cells [(fzE false (eI .u8) p0.c),(.lit (.int .u16 p0.which)),(fzE false (eI .u8) p0.order)]]⟩) (zbA.m0 [.k,.f] rfl (msq (mf rfl (zqQ (e:=(eI .i64)) (t:=true) rfl rfl (.inr rfl) rfl rfl (fun k h=>nomatch h) (fun h=>by cases h<;>rfl)) (msq (msq trivial)))) ⟨MB.cs ⟨qc8,qc8,qc8,qc8⟩,qc8⟩) (zaa ?_);obtain⟨y9,g10,j5⟩:=bind_some j5;obtain⟨y11,g12,j5⟩:=bind_some j5;obtain⟨y13,g14,j5⟩:=bind_some j5;obtain⟨y15,g16,j5⟩:=bind_some j5;obtain⟨y17,g18,j5⟩:=bind_some j5;try simp only[rnA,Nat.reduceEqDiff,Nat.reduceLT,Nat.reduceAdd,Nat.reduceLeDiff,zyk (n:=1) (e:=(eI .i64)) rfl g10,zwb (n:=1) (e:=(eI .i64)) rfl,zlw g12,zdt g14,(show y9.length+1=y13.length from zcs g14),(show y9.map ((eI .i64).c true)++ [[(dI v4)]]=y13.map ((eI .i64).c true)from zcU g14 ((eI .i64).c true)),zwW (n:=1) (e:=(eI .i64)) rfl g16,zdt g18,(show y13.length+y15.length=y17.length from zcs g18),(show y13.map ((eI .i64).c true)++ y15.map ((eI .i64).c true)=y17.map ((eI .i64).c true)from zcU g18 ((eI .i64).c true))]
  exact⟨((w64 (v4+1)),y17),j5,by rw[hT9]; exact wm0 [.k,.k] ⟨MB.cs ⟨qc8,qc8,qc8,qc8⟩,⟨MB.gs (eI .i64) true y17,qc8⟩⟩⟩
 rintro l1 rfl;rw[congrFun hT5 l1];refine zaa ?_;try simp only[rnA,Nat.reduceEqDiff,Nat.reduceLT]
 replace h:=qac h; subst h;exact zdd.ret rfl (zbz (e:=(eI .i64)) (t:=true) rfl (.inr rfl) rfl rfl (fun k h=>nomatch h) (fun _=>rfl))
end Go.Dc
