/-
 What r15_Variables computes. Conditions: none.
-/
import Derived.Test.YtbjogdohfhdaiaaCaQt
set_option linter.unusedSimpArgs false
set_option linter.unusedVariables false
set_option maxRecDepth 100000
set_option maxHeartbeats 4000000
namespace Go.Dc
open Go Go.Mx Go.Lx Go.Proofs
def za4(x2:S_api_Gate)(l1:(List Int)):Nat->Int->Int->Option Int
 | 0,_,_=>none
 | n+1,v6',v7=>(
bif (decide (v7<(x2.args.length:Int)))then(
(zaS x2.args v7).bind λx8=>
(zaS l1 x8).bind λx10=>
za4 x2 l1 n (orI .u64 v6' x10) (w64 (v7+1)))
else(
some v6'))
def za8(p0:S_api_Circuit):Nat->Int->(List Int)->Option (List Int)
 | 0,_,_=>none
 | n+1,v4,l1=>(
bif (decide (v4<(p0.gates.length:Int)))then(
(zaS p0.gates v4).bind λx2=>
((bif (x2.kind == 2)then(
(znS .u64 1 (IntKind.u64.wrap x2.var)).bind λq5=>
some q5)
else(
some 0):Option Int)).bind λv6=>
((za4 x2 l1 ((x2.args.length:Int) - 0+2:Int).toNat v6 0:Option Int)).bind λv6'=>
(zfa 8 l1 [v6']).bind λy12=>
za8 p0 n (w64 (v4+1)) y12)
else(
some l1))
def zbG(p0:S_api_Circuit):Option (List Int):=
((za8 p0 ((p0.gates.length:Int) - 0+2:Int).toNat 0 []:Option (List Int))).bind λl1=>
some l1
variable{p0:S_api_Circuit}{r:(List Int)}
theorem zf0(h:zbG p0=some r):Lx.Fn mC 18 [(.agg [(fzE false (eI .i64) p0.cards),(fzE false zab p0.gates)])] (fzE true (eI .u64) r):=by
 refine gnO ?_;unfold zbG at h;refine zaa ?_;try simp only[rnA,Nat.reduceLT]
 obtain⟨o13,j13,h⟩:=bind_some h;obtain⟨T13,hT13⟩:=mkT λa:(List Int)=>⟨49,[(3,(.sl 1 0 1 a.length none a.length))],[.gone,.grow 1 (a.map ((eI .u64).c true))]⟩
 refine EvL.jn T13 (λa=>a=o13) ?_ ?_
 .refine zaa ?_;simp only[rnA];obtain⟨T23,hT23⟩:=mkT λa:(Int×(List Int))=>⟨49,[(1,(.ptr 0 0)),(3,(.sl 1 0 1 a.2.length none a.2.length)),(4,(dI a.1))],[.cells [(fzE false (eI .i64) p0.cards),(fzE false zab p0.gates)],.grow 1 (a.2.map ((eI .u64).c true))]⟩
  refine EvL.zuq (za9.ghost (n:=1) (k:=3) (by decide) rfl) ?_;refine EvL.rounds (α:=(Int×(List Int))) T23 (λn a=>za8 p0 n a.1 a.2=some o13) ((p0.gates.length:Int) - 0+2:Int).toNat (0,[]) (by rw[hT23]; exact wm0 [.k,.k] ⟨MB.cs ⟨qcQ,qcQ,qcQ⟩,⟨MB.gs (eI .u64) true [],qcQ⟩⟩) j13 (λ_ h=>nomatch (show(none:Option (List Int))=some o13 from h)) ?_;rintro n ⟨v4,l1⟩ j13;simp only[za8]at j13;rw[congrFun hT23 (v4,l1)];refine zaa ?_;try simp only[rnA,Nat.reduceEqDiff,Nat.reduceLT,zal]
  cases c1:(decide (v4<(p0.gates.length:Int)))
  .rw[c1,qcS]at j13;try simp only[rnA]
   replace j13:=qae j13; subst j13;exact lfj hT13 rfl (wm0 [.d,.k] ⟨rfl,⟨MB.gs (eI .u64) true l1,qcQ⟩⟩)
  rw[c1,qcR]at j13;obtain⟨x2,g3,j13⟩:=bind_some j13;try simp only[rnA,Nat.reduceEqDiff,Nat.reduceLT,Nat.reduceAdd,Nat.reduceLeDiff,zaE,zai (n:=5) (e:=zab) rfl g3]
  obtain⟨o24,j24,j13⟩:=bind_some j13;obtain⟨T24,hT24⟩:=mkT λa:Int=>⟨49,[(1,(.ptr 0 0)),(3,(.sl 1 0 1 l1.length none l1.length)),(4,(dI v4)),(5,(.ptr 2 0)),(6,(dU a))],[.cells [(fzE false (eI .i64) p0.cards),(fzE false zab p0.gates)],.grow 1 (l1.map ((eI .u64).c true)),.cells [(dI x2.kind),(dI x2.var),(dI x2.val),(dI x2.n),(fzE false (eI .i64) x2.args)]]⟩
  refine EvL.jn T24 (λa=>a=o24) ?_ ?_
  .refine zaa ?_;try simp only[rnA,Nat.reduceEqDiff]
   cases c4:(x2.kind == 2)
   .rw[c4,qcS]at j24;try simp only[rnA]
    replace j24:=qae j24; subst j24;exact lfj hT24 rfl (wm0 [.k,.k,.k] ⟨MB.cs ⟨qcQ,qcQ,qcQ⟩,⟨MB.gs (eI .u64) true l1,⟨MB.cs ⟨qcQ,qcQ,qcQ,qcQ,qcQ,qcQ⟩,qcQ⟩⟩⟩)
   rw[c4,qcR]at j24;obtain⟨q5,g6,j24⟩:=bind_some j24;try simp only[rnA,Nat.reduceEqDiff,Nat.reduceLT,(zeo g6).1,(zeo g6).2]
   replace j24:=qae j24; subst j24;exact lfj hT24 rfl (wm0 [.k,.k,.k] ⟨MB.cs ⟨qcQ,qcQ,qcQ⟩,⟨MB.gs (eI .u64) true l1,⟨MB.cs ⟨qcQ,qcQ,qcQ,qcQ,qcQ,qcQ⟩,qcQ⟩⟩⟩)
  rintro v6 rfl;rw[congrFun hT24 v6];refine zaa ?_;try simp only[rnA,Nat.reduceLT]
  obtain⟨o25,j25,j13⟩:=bind_some j13;obtain⟨T25,hT25⟩:=mkT λa:Int=>⟨49,[(1,(.ptr 0 0)),(3,(.sl 1 0 1 l1.length none l1.length)),(4,(dI v4)),(6,(dU a))],[.cells [(fzE false (eI .i64) p0.cards),(fzE false zab p0.gates)],.grow 1 (l1.map ((eI .u64).c true))]⟩
  refine EvL.jn T25 (λa=>a=o25) ?_ ?_
  .refine zaa ?_;simp only[rnA];obtain⟨T26,hT26⟩:=mkT λa:(Int×Int)=>⟨49,[(1,(.ptr 0 0)),(3,(.sl 1 0 1 l1.length none l1.length)),(4,(dI v4)),(5,(.ptr 2 0)),(6,(dU a.1)),(7,(dI a.2))],[.cells [(fzE false (eI .i64) p0.cards),(fzE false zab p0.gates)],.grow 1 (l1.map ((eI .u64).c true)),.cells [(dI x2.kind),(dI x2.var),(dI x2.val),(dI x2.n),(fzE false (eI .i64) x2.args)]]⟩
   refine EvL.rounds (α:=(Int×Int)) T26 (λn a=>za4 x2 l1 n a.1 a.2=some o25) ((x2.args.length:Int) - 0+2:Int).toNat (v6,0) (by rw[hT26]; exact wm0 [.k,.k,.k] ⟨MB.cs ⟨qcQ,qcQ,qcQ⟩,⟨MB.gs (eI .u64) true l1,⟨MB.cs ⟨qcQ,qcQ,qcQ,qcQ,qcQ,qcQ⟩,qcQ⟩⟩⟩) j25 (λ_ h=>nomatch (show(none:Option Int)=some o25 from h)) ?_;rintro n ⟨v6',v7⟩ j25;simp only[za4]at j25;rw[congrFun hT26 (v6',v7)];refine zaa ?_;try simp only[rnA,Nat.reduceEqDiff,Nat.reduceLT,zal]
   cases c7:(decide (v7<(x2.args.length:Int)))
   .rw[c7,qcS]at j25;try simp only[rnA,Nat.reduceEqDiff,Nat.reduceLT,reduceCtorEq]
    replace j25:=qae j25; subst j25;exact lfj hT25 rfl (wm0 [.k,.k] ⟨MB.cs ⟨qcQ,qcQ,qcQ⟩,⟨MB.gs (eI .u64) true l1,qcQ⟩⟩)
   rw[c7,qcR]at j25;obtain⟨x8,g9,j25⟩:=bind_some j25;obtain⟨x10,g11,j25⟩:=bind_some j25;try simp only[rnA,Nat.reduceEqDiff,Nat.reduceLT,zai (n:=1) (e:=(eI .i64)) rfl g9,zbb g11,(show x8<((l1.length:Nat):Int)from zbc g11),zaz g11 ((eI .u64).c true)]
   exact⟨((orI .u64 v6' x10),(w64 (v7+1))),j25,by rw[hT26]; exact wm0 [.k,.k,.k] ⟨MB.cs ⟨qcQ,qcQ,qcQ⟩,⟨MB.gs (eI .u64) true l1,⟨MB.cs ⟨qcQ,qcQ,qcQ,qcQ,qcQ,qcQ⟩,qcQ⟩⟩⟩⟩
  rintro v6' rfl;rw[congrFun hT25 v6'];refine zaa ?_;obtain⟨y12,g13,j13⟩:=bind_some j13;try simp only[rnA,Nat.reduceEqDiff,Nat.reduceLT,Nat.reduceAdd,Nat.reduceLeDiff,zeg g13,(show l1.length+1=y12.length from zcM g13),(show l1.map ((eI .u64).c true)++ [[(dU v6')]]=y12.map ((eI .u64).c true)from ze8 g13 ((eI .u64).c true))]
  exact⟨((w64 (v4+1)),y12),j13,by rw[hT23]; exact wm0 [.k,.k] ⟨MB.cs ⟨qcQ,qcQ,qcQ⟩,⟨MB.gs (eI .u64) true y12,qcQ⟩⟩⟩
 rintro l1 rfl;rw[congrFun hT13 l1];refine zaa ?_;try simp only[rnA,Nat.reduceEqDiff,Nat.reduceLT]
 replace h:=qae h; subst h;exact zc7.ret rfl (zcS (e:=(eI .u64)) (t:=true) rfl (.inr rfl) rfl rfl (λk h=>nomatch h) (λ_=>rfl))
def zaX(p0:(List Int)):Nat->Int->Int->Option Int
 | 0,_,_=>none
 | n+1,v3,v8=>(
bif (decide (v8<(p0.length:Int)))then(
(zaS p0 v8).bind λx2=>
zaX p0 n (orI .u64 v3 x2) (w64 (v8+1)))
else(
some v3))
def zby(p0:(List Int)):Option Int:=
((zaX p0 ((p0.length:Int) - 0+2:Int).toNat 0 0:Option Int)).bind λv3=>
some v3
theorem zdN{p0:(List Int)}{r:Int}(h:zby p0=some r):Lx.Fn mC 56 [(fzE false (eI .u64) p0)] (dU r):=by
 refine gnO ?_;unfold zby at h;refine zaa ?_;try simp only[rnA,Nat.reduceEqDiff,reduceIte,Nat.reduceLT,Nat.reduceAdd,Nat.reduceLeDiff,Nat.reduceMul,Nat.reduceSub,Int.reduceLE,Int.reduceLT,Int.reduceBEq,Nat.reduceBEq,reduceCtorEq,zal]
 obtain⟨o1,j1,h⟩:=bind_some h;obtain⟨T1,hT1⟩:=mkT λa:Int=>⟨17,[(3,(dU a))],[]⟩
 refine EvL.jn T1 (λa=>a=o1) ?_ ?_
 .refine zaa ?_;simp only[rnA,Nat.reduceEqDiff,reduceIte,Nat.reduceLT,Nat.reduceAdd,Nat.reduceLeDiff,Nat.reduceMul,Nat.reduceSub,Int.reduceLE,Int.reduceLT,Int.reduceBEq,Nat.reduceBEq,reduceCtorEq];obtain⟨T2,hT2⟩:=mkT λa:(Int×Int)=>⟨17,[(3,(dU a.1)),(6,(fzE false (eI .u64) p0)),(7,(dI (p0.length:Int))),(8,(dI a.2))],[]⟩
  refine EvL.rounds (α:=(Int×Int)) T2 (λn a=>zaX p0 n a.1 a.2=some o1) ((p0.length:Int) - 0+2:Int).toNat (0,0) (by rw[hT2]; exact wm0 [] (by exact trivial)) j1 (λ_ h=>nomatch (show(none:Option Int)=some o1 from h)) ?_;rintro n ⟨v3,v8⟩ j1;simp only[zaX]at j1;rw[congrFun hT2 (v3,v8)];refine zaa ?_;try simp only[rnA,Nat.reduceEqDiff,reduceIte,Nat.reduceLT,Nat.reduceAdd,Nat.reduceLeDiff,Nat.reduceMul,Nat.reduceSub,Int.reduceLE,Int.reduceLT,Int.reduceBEq,Nat.reduceBEq,reduceCtorEq]
  cases c1:(decide (v8<(p0.length:Int)))
  .rw[c1,qcS]at j1;try simp only[rnA,Nat.reduceEqDiff,reduceIte,Nat.reduceLT,Nat.reduceAdd,Nat.reduceLeDiff,Nat.reduceMul,Nat.reduceSub,Int.reduceLE,Int.reduceLT,Int.reduceBEq,Nat.reduceBEq,reduceCtorEq,c1]
   replace j1:=qae j1; subst j1;exact lfj hT1 rfl (wm0 [] (by exact trivial))
  rw[c1,qcR]at j1;obtain⟨x2,g3,j1⟩:=bind_some j1;try simp only[rnA,Nat.reduceEqDiff,reduceIte,Nat.reduceLT,Nat.reduceAdd,Nat.reduceLeDiff,Nat.reduceMul,Nat.reduceSub,Int.reduceLE,Int.reduceLT,Int.reduceBEq,Nat.reduceBEq,reduceCtorEq,zai (n:=1) (e:=(eI .u64)) rfl g3,c1]
  exact⟨((orI .u64 v3 x2),(w64 (v8+1))),j1,by rw[hT2]; exact wm0 [] (by exact trivial)⟩
 rintro v3 rfl;rw[congrFun hT1 v3];refine zaa ?_;try simp only[rnA,Nat.reduceEqDiff,reduceIte,Nat.reduceLT,Nat.reduceAdd,Nat.reduceLeDiff,Nat.reduceMul,Nat.reduceSub,Int.reduceLE,Int.reduceLT,Int.reduceBEq,Nat.reduceBEq,reduceCtorEq]
 replace h:=qae h; subst h;exact zc7.ret rfl (.lit _)
def zaG(x4:S_api_Gate)(v15:Int)(p0:S_api_Circuit):Nat->Int->(List Int)->Option (List Int)
 | 0,_,_=>none
 | n+1,v32,l1''=>(
bif (decide (v32<(x4.args.length:Int)))then(
(zaS x4.args v32).bind λx14=>
(zaS l1'' v15).bind λx16=>
(zaS l1'' x14).bind λx18=>
(zby [x16,x18]).bind λr20=>
(zfp l1'' v15 r20).bind λy22=>
zaG x4 v15 p0 n (w64 (v32+1)) y22)
else(
some l1''))
def zaL(p0:S_api_Circuit):Nat->Int->(List Int)->Option (List Int)
 | 0,_,_=>none
 | n+1,v15,l1=>(
bif (decide (v15<(p0.gates.length:Int)))then(
(zaS p0.gates v15).bind λx4=>
((bif (x4.kind == 2)then(
(znS .u64 1 x4.var).bind λq7=>
(zaS l1 v15).bind λx9=>
(zfp l1 v15 q7).bind λy11=>
some y11)
else(
some l1):Option (List Int))).bind λl1'=>
((zaG x4 v15 p0 ((x4.args.length:Int) - 0+2:Int).toNat 0 l1':Option (List Int))).bind λl1''=>
zaL p0 n (w64 (v15+1)) l1'')
else(
some l1))
def zaZ(p0:S_api_Circuit):Option (List Int):=
(zfH 8 (p0.gates.length:Int) 0).bind λy1=>
((zaL p0 ((p0.gates.length:Int) - 0+2:Int).toNat 0 y1:Option (List Int))).bind λl1=>
some l1
theorem zeu(h:zaZ p0=some r):Lx.Fn mC 55 [(.agg [(fzE false (eI .i64) p0.cards),(fzE false zab p0.gates)])] (fzE true (eI .u64) r):=by
 refine gnO ?_;unfold zaZ at h;refine zaa ?_;obtain⟨y1,g2,h⟩:=bind_some h;try simp only[rnA,Nat.reduceEqDiff,Nat.reduceLT,reduceCtorEq,zal,(zbK g2).1.1,(zbK g2).1.2,qbU,(show List.replicate (Int.toNat (p0.gates.length:Int)) [(dU 0)]=y1.map ((eI .u64).c true)from zdk g2 ((eI .u64).c true))]
 obtain⟨o10,j10,h⟩:=bind_some h;obtain⟨T10,hT10⟩:=mkT λa:(List Int)=>⟨52,[(3,(.sl 1 0 1 (Int.toNat (p0.gates.length:Int)) (some (Int.toNat (p0.gates.length:Int))) (Int.toNat (p0.gates.length:Int))))],[.gone,.els 1 (a.map ((eI .u64).c true))]⟩
 refine EvL.jn T10 (λa=>a=o10/\a.length=(Int.toNat (p0.gates.length:Int))) ?_ ?_
 .refine zaa ?_;simp only[rnA];obtain⟨T17,hT17⟩:=mkT λa:(Int×(List Int))=>⟨52,[(3,(.sl 1 0 1 (Int.toNat (p0.gates.length:Int)) (some (Int.toNat (p0.gates.length:Int))) (Int.toNat (p0.gates.length:Int)))),(13,(fzE false zab p0.gates)),(14,(dI (p0.gates.length:Int))),(15,(dI a.1))],[.gone,.els 1 (a.2.map ((eI .u64).c true))]⟩
  refine EvL.rounds (α:=(Int×(List Int))) T17 (λn a=>zaL p0 n a.1 a.2=some o10/\a.2.length=(Int.toNat (p0.gates.length:Int))) ((p0.gates.length:Int) - 0+2:Int).toNat (0,y1) (by rw[hT17]; exact wm0 [.d,.k] ⟨rfl,⟨MB.es (eI .u64) true y1,qcQ⟩⟩) ⟨j10,zd9 g2⟩ (λ_ h=>nomatch (show(none:Option (List Int))=some o10 from h.1)) ?_;rintro n ⟨v15,l1⟩ ⟨j10,el1⟩;simp only[zaL]at j10;rw[congrFun hT17 (v15,l1)];refine zaa ?_;try simp only[rnA,Nat.reduceEqDiff,Nat.reduceLT]
  cases c3:(decide (v15<(p0.gates.length:Int)))
  .rw[c3,qcS]at j10;try simp only[rnA]
   replace j10:=qae j10; subst j10;exact⟨_,⟨rfl,el1⟩,by rw[hT10]; exact wm0 [.d,.k] ⟨rfl,⟨MB.es (eI .u64) true l1,qcQ⟩⟩⟩
  rw[c3,qcR]at j10;obtain⟨x4,g5,j10⟩:=bind_some j10;try simp only[rnA,Nat.reduceEqDiff,Nat.reduceLT,Nat.reduceAdd,Nat.reduceLeDiff,zaE,zai (n:=5) (e:=zab) rfl g5]
  obtain⟨o18,j18,j10⟩:=bind_some j10;obtain⟨T18,hT18⟩:=mkT λa:(List Int)=>⟨52,[(3,(.sl 1 0 1 (Int.toNat (p0.gates.length:Int)) (some (Int.toNat (p0.gates.length:Int))) (Int.toNat (p0.gates.length:Int)))),(4,(dI v15)),(5,(.ptr 2 0)),(13,(fzE false zab p0.gates)),(14,(dI (p0.gates.length:Int))),(15,(dI v15))],[.gone,.els 1 (a.map ((eI .u64).c true)),.cells [(dI x4.kind),(dI x4.var),(dI x4.val),(dI x4.n),(fzE false (eI .i64) x4.args)]]⟩
  refine EvL.jn T18 (λa=>a=o18/\a.length=(Int.toNat (p0.gates.length:Int))) ?_ ?_
  .refine zaa ?_;try simp only[rnA,Nat.reduceEqDiff]
   cases c6:(x4.kind == 2)
   .rw[c6,qcS]at j18;try simp only[rnA]
    replace j18:=qae j18; subst j18;exact⟨_,⟨rfl,el1⟩,by rw[hT18]; exact wm0 [.d,.k,.k] ⟨rfl,⟨MB.es (eI .u64) true l1,⟨MB.cs ⟨qcQ,qcQ,qcQ,qcQ,qcQ,qcQ⟩,qcQ⟩⟩⟩⟩
   rw[c6,qcR]at j18;obtain⟨q7,g8,j18⟩:=bind_some j18;obtain⟨x9,g10,j18⟩:=bind_some j18;obtain⟨y11,g12,j18⟩:=bind_some j18;try simp only[rnA,Nat.reduceEqDiff,Nat.reduceLT,Nat.reduceLeDiff,(zeo g8).1,(zeo g8).2,el1,zbb g10,(show v15<(((Int.toNat (p0.gates.length:Int)):Nat):Int)from el1 ▸ zbc g10),zaz g10 ((eI .u64).c true),(show(l1.map ((eI .u64).c true)).set v15.toNat [(dU q7)]=y11.map ((eI .u64).c true)from zbz g12 ((eI .u64).c true))]
   replace j18:=qae j18; subst j18;exact⟨_,⟨rfl,(zbg g12).trans el1⟩,by rw[hT18]; exact wm0 [.d,.k,.k] ⟨rfl,⟨MB.es (eI .u64) true y11,⟨MB.cs ⟨qcQ,qcQ,qcQ,qcQ,qcQ,qcQ⟩,qcQ⟩⟩⟩⟩
  rintro l1' ⟨rfl,el1'⟩;rw[congrFun hT18 l1'];refine zaa ?_;try simp only[rnA,Nat.reduceEqDiff,Nat.reduceLT,zal]
  obtain⟨o19,j19,j10⟩:=bind_some j10;obtain⟨T19,hT19⟩:=mkT λa:(List Int)=>⟨52,[(3,(.sl 1 0 1 (Int.toNat (p0.gates.length:Int)) (some (Int.toNat (p0.gates.length:Int))) (Int.toNat (p0.gates.length:Int)))),(13,(fzE false zab p0.gates)),(14,(dI (p0.gates.length:Int))),(15,(dI v15))],[.gone,.els 1 (a.map ((eI .u64).c true))]⟩
  refine EvL.jn T19 (λa=>a=o19/\a.length=(Int.toNat (p0.gates.length:Int))) ?_ ?_
  .refine zaa ?_;simp only[rnA];obtain⟨T20,hT20⟩:=mkT λa:(Int×(List Int))=>⟨52,[(3,(.sl 1 0 1 (Int.toNat (p0.gates.length:Int)) (some (Int.toNat (p0.gates.length:Int))) (Int.toNat (p0.gates.length:Int)))),(4,(dI v15)),(13,(fzE false zab p0.gates)),(14,(dI (p0.gates.length:Int))),(15,(dI v15)),(30,(fzE false (eI .i64) x4.args)),(31,(dI (x4.args.length:Int))),(32,(dI a.1))],[.gone,.els 1 (a.2.map ((eI .u64).c true))]⟩
   refine EvL.rounds (α:=(Int×(List Int))) T20 (λn a=>zaG x4 v15 p0 n a.1 a.2=some o19/\a.2.length=(Int.toNat (p0.gates.length:Int))) ((x4.args.length:Int) - 0+2:Int).toNat (0,l1') (by rw[hT20]; exact wm0 [.d,.k] ⟨rfl,⟨MB.es (eI .u64) true l1',qcQ⟩⟩) ⟨j19,el1'⟩ (λ_ h=>nomatch (show(none:Option (List Int))=some o19 from h.1)) ?_;rintro n ⟨v32,l1''⟩ ⟨j19,el1''⟩;simp only[zaG]at j19;rw[congrFun hT20 (v32,l1'')];refine zaa ?_;try simp only[rnA,Nat.reduceEqDiff,Nat.reduceLT]
   cases c13:(decide (v32<(x4.args.length:Int)))
   .rw[c13,qcS]at j19;try simp only[rnA,Nat.reduceEqDiff,Nat.reduceLT,reduceCtorEq]
    replace j19:=qae j19; subst j19;exact⟨_,⟨rfl,el1''⟩,by rw[hT19]; exact wm0 [.d,.k] ⟨rfl,⟨MB.es (eI .u64) true l1'',qcQ⟩⟩⟩
   rw[c13,qcR]at j19;obtain⟨x14,g15,j19⟩:=bind_some j19;obtain⟨x16,g17,j19⟩:=bind_some j19;obtain⟨x18,g19,j19⟩:=bind_some j19;obtain⟨r20,g21,j19⟩:=bind_some j19;try simp only[rnA,Nat.reduceEqDiff,Nat.reduceLT,Nat.reduceAdd,zai (n:=1) (e:=(eI .i64)) rfl g15,el1'',zbb g17,(show v15<(((Int.toNat (p0.gates.length:Int)):Nat):Int)from el1'' ▸ zbc g17),zaz g17 ((eI .u64).c true),zbb g19,(show x14<(((Int.toNat (p0.gates.length:Int)):Nat):Int)from el1'' ▸ zbc g19),zaz g19 ((eI .u64).c true)]
   refine EvL.fn (zdN g21) rfl rfl (.cons (zcS (e:=(eI .u64)) (t:=true) rfl (.inl rfl) rfl rfl (λk h=>by cases h; exact qan _) (λh=>nomatch h)) .nil) ?_;obtain⟨y22,g23,j19⟩:=bind_some j19;try simp only[rnA,Nat.reduceEqDiff,Nat.reduceLT,Nat.reduceLeDiff,el1'',zbb g17,(show v15<(((Int.toNat (p0.gates.length:Int)):Nat):Int)from el1'' ▸ zbc g17),zaz g17 ((eI .u64).c true),(show(l1''.map ((eI .u64).c true)).set v15.toNat [(dU r20)]=y22.map ((eI .u64).c true)from zbz g23 ((eI .u64).c true))]
   exact⟨((w64 (v32+1)),y22),⟨j19,(zbg g23).trans el1''⟩,by rw[hT20]; exact wm0 [.d,.k] ⟨rfl,⟨MB.es (eI .u64) true y22,qcQ⟩⟩⟩
  rintro l1'' ⟨rfl,el1''⟩;rw[congrFun hT19 l1''];refine zaa ?_;try simp only[rnA,Nat.reduceEqDiff,Nat.reduceLT]
  exact⟨((w64 (v15+1)),l1''),⟨j10,el1''⟩,by rw[hT17]; exact wm0 [.d,.k] ⟨rfl,⟨MB.es (eI .u64) true l1'',qcQ⟩⟩⟩
 rintro l1 ⟨rfl,el1⟩;rw[congrFun hT10 l1];refine zaa ?_;try simp only[rnA,Nat.reduceEqDiff,Nat.reduceLT]
 replace h:=qae h; subst h;exact zc7.ret rfl (zcS (e:=(eI .u64)) (t:=true) rfl (.inl rfl) (el1).symm (el1).symm (λk h=>by cases h; exact qan _) (λ_=>rfl))
end Go.Dc
