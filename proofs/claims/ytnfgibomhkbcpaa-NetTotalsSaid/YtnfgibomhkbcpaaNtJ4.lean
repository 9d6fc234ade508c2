/-
 What r02_Draft_Cards computes. Conditions: none.
-/
import Derived.Test.YtnfgibomhkbcpaaNtJ3
set_option linter.unusedSimpArgs false
set_option linter.unusedVariables false
set_option maxRecDepth 100000
set_option maxHeartbeats 4000000
namespace Go.Dc
open Go Go.Mx Go.Lx Go.Proofs
def zbh(p0:S_haruspexref02_Draft):Nat→Int→(List Int)→Option (List Int)
 | 0,_,_=>none
 | n+1,v4,l1=>(
((bif (decide (v4<(p0.c.length:Int)))then(
some (decide (v4<5)))
else(
some false):Option Bool)).bind fun v13=>
bif v13 then(
(zaZ p0.c v4).bind fun x3=>
(zdY 8 l1 [(w64 (1+(w64 (x3.tmod 4))))]).bind fun y5=>
zbh p0 n (w64 (v4+1)) y5)
else(
some l1))
def zbK(N:Nat)(p0:S_haruspexref02_Draft):Option (List Int):=
((zbh p0 N 0 []:Option (List Int))).bind fun l1=>
some l1
theorem zgZ{N:Nat}{p0:S_haruspexref02_Draft}{r:(List Int)}(h:zbK N p0=some r):Lx.Fn mC 138 [(.agg [(fzE false (eI .u8) p0.c),(.lit (.int .u16 p0.which)),(fzE false (eI .u8) p0.order)])] (fzE true (eI .i64) r):=by
 refine fnO (by conv=>lhs; cbv) ?_;unfold zbK at h;refine zaa ?_;try simp only[rnA,Nat.reduceLT]
 obtain⟨o5,j5,h⟩:=bind_some h;obtain⟨T5,hT5⟩:=mkT fun a:(List Int)=>⟨28,[(3,(.sl 1 0 1 a.length none a.length))],[.gone,.grow 1 (a.map ((eI .i64).c true))]⟩
 refine EvL.jn T5 (fun a=>a=o5) ?_ ?_
 ·refine zaa ?_;simp only[rnA];obtain⟨T9,hT9⟩:=mkT fun a:(Int×(List Int))=>⟨28,[(1,(.ptr 0 0)),(3,(.sl 1 0 1 a.2.length none a.2.length)),(4,(dI a.1))],[.cells [(fzE false (eI .u8) p0.c),(.lit (.int .u16 p0.which)),(fzE false (eI .u8) p0.order)],.grow 1 (a.2.map ((eI .i64).c true))]⟩
  refine EvL.zl2 (zbC.ghost (n:=1) (k:=3) (by decide) rfl) ?_;refine EvL.rounds (α:=(Int×(List Int))) T9 (fun n a=>zbh p0 n a.1 a.2=some o5) N (0,[]) (by rw[hT9]; exact wm0 [.k,.k] ⟨MB.cs ⟨qdb,qdb,qdb,qdb⟩,⟨MB.gs (eI .i64) true [],qdb⟩⟩) j5 (fun _ h=>nomatch (show(none:Option (List Int))=some o5 from h)) ?_;rintro n ⟨v4,l1⟩ j5;simp only[zbh]at j5;rw[congrFun hT9 (v4,l1)];refine zaa ?_;try simp only[rnA]
  obtain⟨o10,j10,j5⟩:=bind_some j5;obtain⟨T10,hT10⟩:=mkT fun a:Bool=>⟨28,[(1,(.ptr 0 0)),(3,(.sl 1 0 1 l1.length none l1.length)),(4,(dI v4)),(13,(dB a))],[.cells [(fzE false (eI .u8) p0.c),(.lit (.int .u16 p0.which)),(fzE false (eI .u8) p0.order)],.grow 1 (l1.map ((eI .i64).c true))]⟩
  refine EvL.jn T10 (fun a=>a=o10) ?_ ?_
  ·refine zaa ?_;try simp only[rnA,Nat.reduceEqDiff,Nat.reduceLT,zat]
   cases c1:(decide (v4<(p0.c.length:Int)))
   ·rw[c1,cond_false]at j10;try simp only[rnA,Nat.reduceEqDiff,Nat.reduceLT]
    replace j10:=qac j10; subst j10;exact lfj hT10 rfl (wm0 [.k,.k] ⟨MB.cs ⟨qdb,qdb,qdb,qdb⟩,⟨MB.gs (eI .i64) true l1,qdb⟩⟩)
   rw[c1,cond_true]at j10;try simp only[rnA,Nat.reduceEqDiff,Nat.reduceLT]
   replace j10:=qac j10; subst j10;exact lfj hT10 rfl (wm0 [.k,.k] ⟨MB.cs ⟨qdb,qdb,qdb,qdb⟩,⟨MB.gs (eI .i64) true l1,qdb⟩⟩)
  rintro v13 rfl;rw[congrFun hT10 v13];refine zaa ?_;try simp only[rnA,Nat.reduceEqDiff]
  cases c2:v13
  ·rw[c2,cond_false]at j5;try simp only[rnA]
   replace j5:=qac j5; subst j5;exact lfj hT5 rfl (wm0 [.d,.k] ⟨rfl,⟨MB.gs (eI .i64) true l1,qdb⟩⟩)
  rw[c2,cond_true]at j5;obtain⟨x3,g4,j5⟩:=bind_some j5;obtain⟨y5,g6,j5⟩:=bind_some j5;try simp only[rnA,Nat.reduceEqDiff,Nat.reduceLT,Nat.reduceAdd,Nat.reduceLeDiff,Int.reduceBEq,zao (n:=1) (e:=(eI .u8)) rfl g4,zdE g6,(show l1.length+1=y5.length from zcx g6),(show l1.map ((eI .i64).c true)++ [[(dI (w64 (1+(w64 (x3.tmod 4)))))]]=y5.map ((eI .i64).c true)from zc9 g6 ((eI .i64).c true))]
  exact⟨((w64 (v4+1)),y5),j5,by rw[hT9]; exact wm0 [.k,.k] ⟨MB.cs ⟨qdb,qdb,qdb,qdb⟩,⟨MB.gs (eI .i64) true y5,qdb⟩⟩⟩
 rintro l1 rfl;rw[congrFun hT5 l1];refine zaa ?_;try simp only[rnA,Nat.reduceEqDiff,Nat.reduceLT]
 replace h:=qac h; subst h;exact zcr.ret rfl (zbD (e:=(eI .i64)) (t:=true) rfl (.inr rfl) rfl rfl (fun k h=>nomatch h) (fun _=>rfl))
def zaz(N:Nat)(p0:S_haruspexref02_Draft):Nat→Int→(List Int)→Option (List Int)
 | 0,_,_=>none
 | n+1,v4,l1=>(
(zbK N p0).bind fun r1=>
bif (decide (v4<(r1.length:Int)))then(
((bif (decide (v4<(p0.order.length:Int)))then(
(zaZ p0.order v4).bind fun x5=>
(znC (w64 x5) (w64 (v4+1))).bind fun q7=>
some q7)
else(
some 0):Option Int)).bind fun v5=>
(ze7 l1 0 v5).bind fun y9=>
(zeP 8 y9).bind fun y11=>
(zdY 8 y9 [v4]).bind fun y13=>
(ze7 l1 v5 l1.length).bind fun y15=>
(zdY 8 y13 y15).bind fun y17=>
zaz N p0 n (w64 (v4+1)) y17)
else(
some l1))
def za4(N:Nat)(p0:S_haruspexref02_Draft):Option (List Int):=
((zaz N p0 N 0 []:Option (List Int))).bind fun l1=>
some l1
theorem zes{N:Nat}{p0:S_haruspexref02_Draft}{r:(List Int)}(h:za4 N p0=some r):Lx.Fn mC 109 [(.agg [(fzE false (eI .u8) p0.c),(.lit (.int .u16 p0.which)),(fzE false (eI .u8) p0.order)])] (fzE true (eI .i64) r):=by
 refine fnO (by conv=>lhs; cbv) ?_;unfold za4 at h;refine zaa ?_;try simp only[rnA,Nat.reduceLT]
 obtain⟨o5,j5,h⟩:=bind_some h;obtain⟨T5,hT5⟩:=mkT fun a:(List Int)=>⟨42,[(3,(.sl 1 0 1 a.length none a.length))],[.gone,.grow 1 (a.map ((eI .i64).c true))]⟩
 refine EvL.jn T5 (fun a=>a=o5) ?_ ?_
 ·refine zaa ?_;simp only[rnA];obtain⟨T9,hT9⟩:=mkT fun a:(Int×(List Int))=>⟨42,[(1,(.ptr 0 0)),(3,(.sl 1 0 1 a.2.length none a.2.length)),(4,(dI a.1))],[.cells [(fzE false (eI .u8) p0.c),(.lit (.int .u16 p0.which)),(fzE false (eI .u8) p0.order)],.grow 1 (a.2.map ((eI .i64).c true))]⟩
  refine EvL.zl2 (zbC.ghost (n:=1) (k:=3) (by decide) rfl) ?_;refine EvL.rounds (α:=(Int×(List Int))) T9 (fun n a=>zaz N p0 n a.1 a.2=some o5) N (0,[]) (by rw[hT9]; exact wm0 [.k,.k] ⟨MB.cs ⟨qdb,qdb,qdb,qdb⟩,⟨MB.gs (eI .i64) true [],qdb⟩⟩) j5 (fun _ h=>nomatch (show(none:Option (List Int))=some o5 from h)) ?_;rintro n ⟨v4,l1⟩ j5;simp only[zaz]at j5;rw[congrFun hT9 (v4,l1)];refine zaa ?_;obtain⟨r1,g2,j5⟩:=bind_some j5;try simp only[rnA,Nat.reduceEqDiff,Nat.reduceLT,Nat.reduceAdd,Nat.reduceLeDiff]
  refine EvL.fn (zgZ g2) rfl rfl (.cons (.zd9 (.cons (zah _ _ (fun h=>nomatch h)) (.cons (.lit _) (.cons (zah _ _ (fun h=>nomatch h)) .nil)))) .nil) ?_;try simp only[rnA,Nat.reduceEqDiff,Nat.reduceLT,zat]
  cases c3:(decide (v4<(r1.length:Int)))
  ·rw[c3,cond_false]at j5;try simp only[rnA]
   replace j5:=qac j5; subst j5;exact lfj hT5 rfl (wm0 [.d,.k] ⟨rfl,⟨MB.gs (eI .i64) true l1,qdb⟩⟩)
  rw[c3,cond_true]at j5;try simp only[rnA,Nat.reduceEqDiff,Nat.reduceLT,zat]
  obtain⟨o10,j10,j5⟩:=bind_some j5;obtain⟨T10,hT10⟩:=mkT fun a:Int=>⟨42,[(1,(.ptr 0 0)),(3,(.sl 1 0 1 l1.length none l1.length)),(4,(dI v4)),(5,(dI a))],[.cells [(fzE false (eI .u8) p0.c),(.lit (.int .u16 p0.which)),(fzE false (eI .u8) p0.order)],.grow 1 (l1.map ((eI .i64).c true))]⟩
  refine EvL.jn T10 (fun a=>a=o10) ?_ ?_
  ·refine zaa ?_;try simp only[rnA,Nat.reduceEqDiff]
   cases c4:(decide (v4<(p0.order.length:Int)))
   ·rw[c4,cond_false]at j10;try simp only[rnA]
    replace j10:=qac j10; subst j10;exact lfj hT10 rfl (wm0 [.k,.k] ⟨MB.cs ⟨qdb,qdb,qdb,qdb⟩,⟨MB.gs (eI .i64) true l1,qdb⟩⟩)
   rw[c4,cond_true]at j10;obtain⟨x5,g6,j10⟩:=bind_some j10;obtain⟨q7,g8,j10⟩:=bind_some j10;try simp only[rnA,Nat.reduceEqDiff,Nat.reduceLT,zao (n:=1) (e:=(eI .u8)) rfl g6,zj6 g8,zk0 g8]
   replace j10:=qac j10; subst j10;exact lfj hT10 rfl (wm0 [.k,.k] ⟨MB.cs ⟨qdb,qdb,qdb,qdb⟩,⟨MB.gs (eI .i64) true l1,qdb⟩⟩)
  rintro v5 rfl;rw[congrFun hT10 v5];refine EvL.zl2 (S':=⟨42,[(1,(.ptr 0 0)),(3,(fzE true (eI .i64) l1)),(4,(dI v4)),(5,(dI v5))],[.cells [(fzE false (eI .u8) p0.c),(.lit (.int .u16 p0.which)),(fzE false (eI .u8) p0.order)]]⟩) (zbC.m0 [.k,.f] rfl (msq (mf rfl (zvo (e:=(eI .i64)) (t:=true) rfl rfl (.inr rfl) rfl rfl (fun k h=>nomatch h) (fun h=>by cases h<;>rfl)) (msq (msq trivial)))) ⟨MB.cs ⟨qdb,qdb,qdb,qdb⟩,qdb⟩) (zaa ?_);obtain⟨y9,g10,j5⟩:=bind_some j5;obtain⟨y11,g12,j5⟩:=bind_some j5;obtain⟨y13,g14,j5⟩:=bind_some j5;obtain⟨y15,g16,j5⟩:=bind_some j5;obtain⟨y17,g18,j5⟩:=bind_some j5;try simp only[rnA,Nat.reduceEqDiff,Nat.reduceLT,Nat.reduceAdd,Nat.reduceLeDiff,zyP (n:=1) (e:=(eI .i64)) rfl g10,zsB (n:=1) (e:=(eI .i64)) rfl,zmx g12,zdE g14,(show y9.length+1=y13.length from zcx g14),(show y9.map ((eI .i64).c true)++ [[(dI v4)]]=y13.map ((eI .i64).c true)from zc9 g14 ((eI .i64).c true)),zyi (n:=1) (e:=(eI .i64)) rfl g16,zdE g18,(show y13.length+y15.length=y17.length from zcx g18),(show y13.map ((eI .i64).c true)++ y15.map ((eI .i64).c true)=y17.map ((eI .i64).c true)from zc9 g18 ((eI .i64).c true))]
  exact⟨((w64 (v4+1)),y17),j5,by rw[hT9]; exact wm0 [.k,.k] ⟨MB.cs ⟨qdb,qdb,qdb,qdb⟩,⟨MB.gs (eI .i64) true y17,qdb⟩⟩⟩
 rintro l1 rfl;rw[congrFun hT5 l1];refine zaa ?_;try simp only[rnA,Nat.reduceEqDiff,Nat.reduceLT]
 replace h:=qac h; subst h;exact zcr.ret rfl (zbD (e:=(eI .i64)) (t:=true) rfl (.inr rfl) rfl rfl (fun k h=>nomatch h) (fun _=>rfl))
def zbQ(p1:(List Int))(p0:(List Int)):Nat→Int→Int→Int→Option Int
 | 0,_,_,_=>none
 | n+1,v5,v6,v7=>(
bif (decide (0≤v7))then(
(zaZ p1 v7).bind fun x2=>
(zaZ p0 v7).bind fun x4=>
zbQ p1 p0 n (w64 (v5+(w64 (x2 * v6)))) (w64 (v6 * x4)) (w64 (v7 - 1)))
else(
some v5))
def zdO(p0:(List Int))(p1:(List Int)):Option Int:=
((zbQ p1 p0 ((w64 ((p0.length:Int) - 1)) - 0+2:Int).toNat 0 1 (w64 ((p0.length:Int) - 1)):Option Int)).bind fun v5=>
some v5
def zay(p0:Int):List (Int×Int)→(List Int)→Option (List Int)
 | [],l0=>some l0
 | y5 :: ys,l0=>(
(zaZ l0 y5.1).bind fun x6=>
(zfu l0 y5.1 y5.2).bind fun y8=>
zay p0 ys y8)
def zbW(p0:Int)(p1:((List Int)×Int×Int)):Option (List Int):=
(zet 8 p0 0).bind fun y1=>
(zw7 p1.1 p1.2.1 p1.2.2).bind fun u3=>
((zay p0 u3 y1:Option (List Int))).bind fun l0=>
some l0
theorem zfQ{p0:Int}{p1:((List Int)×Int×Int)}{r:(List Int)}(h:zbW p0 p1=some r):Lx.Fn mC 150 [(dI p0),(.clo 164 [] [(.fptr false ((eI .i64).c false p1.2.2)),(.fptr false ((eI .i64).c false p1.2.1)),(.fptr false ((eL (eI .i64)).c false p1.1))])] (fzE true (eI .i64) r):=by
 refine fnO (by conv=>lhs; cbv) ?_;unfold zbW at h;refine zaa ?_;obtain⟨y1,g2,h⟩:=bind_some h;try simp only[rnA,Nat.reduceEqDiff,Nat.reduceLT,Nat.reduceAdd,Nat.reduceLeDiff,reduceCtorEq,(zaC g2).1.1,(zaC g2).1.2,qbU,(show List.replicate (Int.toNat p0) [(dI 0)]=y1.map ((eI .i64).c true)from zb2 g2 ((eI .i64).c true))]
 obtain⟨u3,g4,h⟩:=bind_some h;obtain⟨o1,j1,h⟩:=bind_some h;obtain⟨T1,hT1⟩:∃ T:(List Int)→List LB,T=(fun a=>[.els 1 (a.map ((eI .i64).c true)),.cells [(.sl 0 0 1 (Int.toNat p0) (some (Int.toNat p0)) (Int.toNat p0))]]):=⟨_,rfl⟩;refine EvL.zl2 (S':=⟨18,[(5,(.ptr 1 0)),(10,(.clo 164 [] [(.fptr false ((eI .i64).c false p1.2.2)),(.fptr false ((eI .i64).c false p1.2.1)),(.fptr false ((eL (eI .i64)).c false p1.1))]))],T1 y1⟩) (by rw[hT1]; exact wm0 [.k,.k] ⟨MB.es (eI .i64) true y1,⟨MB.cs ⟨rfl,qdb⟩,qdb⟩⟩) ?_;refine EvL.ze4 (n0:=2) (zhC g4) rfl (bm:=.block 1 (.reg false false [⟨some 13,.load none (.s 5),none⟩,⟨some 14,.mov (.s 6),none⟩,⟨some 15,.mov (.s 7),none⟩,⟨some 16,.idxS 1 (.s 13) (.s 14),none⟩,⟨none,.store 1 (.s 16) (.s 15),none⟩])) rfl T1 (fun i a=>zay p0 (u3.drop i) a=some o1∧a.length=(Int.toNat p0)) (fun x L1=>match x with | .normal=>∃ a,o1=a∧a.length=(Int.toNat p0)∧L1=T1 a | .ret=>L1.length=2∧ze0 (2+1) L1∧(zcr [.tmp 4] ((fzE true (eI .i64) r))) .ret ⟨18,[(5,(.ptr 1 0)),(10,(.clo 164 [] [(.fptr false ((eI .i64).c false p1.2.2)),(.fptr false ((eI .i64).c false p1.2.1)),(.fptr false ((eL (eI .i64)).c false p1.1))]))],L1 ++ [.lost]⟩| _=>False) y1 ?_ (qaz _) ?_ ?_ ?_ (fun d L1 hx=>hx.elim) ?_ ?_ ?_ ?_ ?_ ?_
 ·intro a; rw[hT1]; rfl
 ·exact⟨(qaf rfl),⟨qdb,⟨qdb,qdb,qdb,qdb⟩⟩,qdb⟩
 ·intro a; rw[hT1]; exact⟨(zeh (eI .i64) _ _ _),⟨(qaf rfl),qdb⟩,qdb⟩
 ·intro x L1 hx;cases x with
  | normal=>obtain⟨a,_,_,rfl⟩:=hx; exact⟨by rw[hT1]; rfl,by rw[hT1]; exact⟨(zeh (eI .i64) _ _ _),⟨(qaf rfl),qdb⟩,qdb⟩⟩
  | ret=>exact⟨hx.1,hx.2.1⟩
  | exit id=>exact hx.elim
  | panic d=>exact hx.elim
 ·exact⟨j1,zby g2⟩
 ·rintro i l0 y5 args G lpF hy ⟨hi1,el0⟩ ⟨rfl,rfl⟩ hkin;rw[zgS hy]at hi1;simp only[zay]at hi1;refine⟨_,_,rfl,rfl,?_⟩;rw[congrFun hT1 l0];refine zaa ?_;obtain⟨x6,g7,hi1⟩:=bind_some hi1;obtain⟨y8,g9,hi1⟩:=bind_some hi1;try simp only[rnA,Nat.reduceEqDiff,Nat.reduceLT,Nat.reduceAdd,Nat.reduceLeDiff,el0,zbl g7,(show y5.1<(((Int.toNat p0):Nat):Int)from el0 ▸ zbm g7),zaR g7 ((eI .i64).c true),(show(l0.map ((eI .i64).c true)).set y5.1.toNat [(dI y5.2)]=y8.map ((eI .i64).c true)from zbs g9 ((eI .i64).c true))]
  exact⟨T1 y8,by rw[hT1]; rfl,by rw[hT1]; exact zbC.mK [.k,.k,.k] rfl rfl qdb ⟨MB.es (eI .i64) true y8,⟨MB.cs ⟨rfl,qdb⟩,⟨.same (hkin _ (by decide)),qdb⟩⟩⟩,y8,⟨hi1,(zbg g9).trans el0⟩,rfl⟩
 ·rintro l0 ⟨hi1,el0⟩;rw[qbh]at hi1;simp only[zay]at hi1;exact⟨l0,(qac hi1).symm,el0,rfl⟩
 ·rintro _ ⟨l0,oeq,el0,rfl⟩;have oeq2:=oeq.symm;subst oeq2;rw[congrFun hT1 l0];refine zaa ?_;try simp only[rnA,Nat.reduceEqDiff,Nat.reduceLT]
  replace h:=qac h; subst h;exact zcr.ret rfl (zbD (e:=(eI .i64)) (t:=true) rfl (.inl rfl) (el0).symm (el0).symm (fun k h=>by cases h; exact qal _) (fun _=>rfl))
 ·intro id L1 hx; exact hx.elim
 intro L1 hx; exact hx.2.2
end Go.Dc
