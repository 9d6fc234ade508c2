/-
 What r15_Draft_Circuit computes. Conditions: none.
-/
import Derived.Test.YtbjogdohfhdaiaaCaJ1
import Derived.Test.YtbjogdohfhdaiaaCaDt
set_option linter.unusedSimpArgs false
set_option linter.unusedVariables false
set_option maxRecDepth 100000
set_option maxHeartbeats 4000000
namespace Go.Dc
open Go Go.Mx Go.Lx Go.Proofs
def zaI(p0:S_haruspexref15_Draft):Nat->Int->(List Int)->Option (List Int)
 | 0,_,_=>none
 | n+1,v4,l3=>(
((bif (decide (v4<(p0.cards.length:Int)))then(
some (decide (v4<4)))
else(
some false):Option Bool)).bind λv22=>
bif v22 then(
(zaS p0.cards v4).bind λx3=>
(zfa 8 l3 [(w64 (1+(w64 (x3.tmod 3))))]).bind λy5=>
zaI p0 n (w64 (v4+1)) y5)
else(
some l3))
def zaK(b2_0:(List Int))(v5:Int):Nat->Int->(List S_api_Gate)->Option (List S_api_Gate)
 | 0,_,_=>none
 | n+1,v6,l3_'=>(
(zaS b2_0 v5).bind λx9=>
bif (decide (v6<x9))then(
(zfa 56 l3_' [(S_api_Gate.mk 2 v5 v6 0 [])]).bind λy12=>
zaK b2_0 v5 n (w64 (v6+1)) y12)
else(
some l3_'))
def zaH(b2_0:(List Int)):Nat->Int->(List S_api_Gate)->Option (List S_api_Gate)
 | 0,_,_=>none
 | n+1,v5,l3_=>(
bif (decide (v5<(b2_0.length:Int)))then(
((zaK b2_0 v5 (((zaS b2_0 v5).getD default) - 0+2:Int).toNat 0 l3_:Option (List S_api_Gate))).bind λl3_'=>
zaH b2_0 n (w64 (v5+1)) l3_')
else(
some l3_))
def zay(p0:S_haruspexref15_Draft)(v7:Int):Nat->Int->(List S_api_Gate)->Option (List S_api_Gate)
 | 0,_,_=>none
 | n+1,v8,l3_'=>(
((bif (decide (v8<(p0.gates.length:Int)))then(
some (decide (v8<30)))
else(
some false):Option Bool)).bind λv78=>
bif v78 then(
(((zaS p0.gates v8).bind λx19=>
bif ((x19.a0.tmod 5)== 0)then(
(zfa 56 l3_' [(S_api_Gate.mk 1 0 0 (w64 ((w64 (x19.a1.tmod 8))* v7)) [])]).bind λy29=>
some y29)
else(
(znK (w64 x19.a1) ((l3_'.length:Nat):Int)).bind λq22=>
(znK (w64 x19.a2) ((l3_'.length:Nat):Int)).bind λq24=>
((bif (q22 == q24)then(
some [q22])
else(
some [(zuZ q22 q24),(zsO q22 q24)]):Option (List Int))).bind λv13=>
(zfa 56 l3_' [(S_api_Gate.mk (w64 (3+(w64 (x19.a0.tmod 2)))) 0 0 0 v13)]).bind λy27=>
some y27):Option (List S_api_Gate))).bind λl3_''=>
zay p0 v7 n (w64 (v8+1)) l3_'')
else(
some l3_'))
def zaW(N:Nat)(p0:S_haruspexref15_Draft):Option S_api_Circuit:=
((zaI p0 N 0 []:Option (List Int))).bind λl3=>
((bif (((l3.length:Nat):Int)== 0)then(
some [2])
else(
some l3):Option (List Int))).bind λb2_0=>
((zaH b2_0 ((b2_0.length:Int) - 0+2:Int).toNat 0 []:Option (List S_api_Gate))).bind λl3_=>
((bif p0.big then(
some (100000000000,true))
else(
some (1,false)):Option ((Int×Bool)))).bind λo=>match o with
|(v7,b0_2)=>(
((zay p0 v7 N 0 l3_:Option (List S_api_Gate))).bind λl3_'=>
some (S_api_Circuit.mk b2_0 l3_'))
theorem zeq{N:Nat}{p0:S_haruspexref15_Draft}{r:S_api_Circuit}(h:zaW N p0=some r):Lx.Fn mC 17 [(.agg [(fzE false (eI .u8) p0.cards),(fzE false zaD p0.gates),(dB p0.big)])] (.agg [(fzE true (eI .i64) r.cards),(fzE true zab r.gates)]):=by
 refine gnO ?_;unfold zaW at h;refine zaa ?_;try simp only[rnA,Nat.reduceLT,Nat.reduceAdd]
 obtain⟨o5,j5,h⟩:=bind_some h;obtain⟨T5,hT5⟩:=mkT λa:(List Int)=>⟨140,[(1,(.ptr 0 0)),(2,(.ptr 1 0)),(3,(.ptr 2 0))],[.cells [(fzE false (eI .u8) p0.cards),(fzE false zaD p0.gates),(dB p0.big)],.cells [zc8,zc8],.cells [(.sl 3 0 1 a.length none a.length),zc8],.grow 1 (a.map ((eI .i64).c true))]⟩
 refine EvL.jn T5 (λa=>a=o5) ?_ ?_
 .refine zaa ?_;simp only[rnA];obtain⟨T9,hT9⟩:=mkT λa:(Int×(List Int))=>⟨140,[(1,(.ptr 0 0)),(2,(.ptr 1 0)),(3,(.ptr 2 0)),(4,(dI a.1))],[.cells [(fzE false (eI .u8) p0.cards),(fzE false zaD p0.gates),(dB p0.big)],.cells [zc8,zc8],.cells [(.sl 3 0 1 a.2.length none a.2.length),zc8],.grow 1 (a.2.map ((eI .i64).c true))]⟩
  refine EvL.zuq (za9.zs3 (n:=1) (β:=2) (o:=0) (by decide) rfl rfl) ?_;refine EvL.rounds (α:=(Int×(List Int))) T9 (λn a=>zaI p0 n a.1 a.2=some o5) N (0,[]) (by rw[hT9]; exact wm0 [.k,.k,.k,.k] ⟨MB.cs ⟨qcQ,qcQ,qcQ,qcQ⟩,⟨MB.cs ⟨qcQ,qcQ,qcQ⟩,⟨MB.cs ⟨rfl,qcQ,qcQ⟩,⟨MB.gs (eI .i64) true [],qcQ⟩⟩⟩⟩) j5 (λ_ h=>nomatch (show(none:Option (List Int))=some o5 from h)) ?_;rintro n ⟨v4,l3⟩ j5;simp only[zaI]at j5;rw[congrFun hT9 (v4,l3)];refine zaa ?_;try simp only[rnA]
  obtain⟨o10,j10,j5⟩:=bind_some j5;obtain⟨T10,hT10⟩:=mkT λa:Bool=>⟨140,[(1,(.ptr 0 0)),(2,(.ptr 1 0)),(3,(.ptr 2 0)),(4,(dI v4)),(22,(dB a))],[.cells [(fzE false (eI .u8) p0.cards),(fzE false zaD p0.gates),(dB p0.big)],.cells [zc8,zc8],.cells [(.sl 3 0 1 l3.length none l3.length),zc8],.grow 1 (l3.map ((eI .i64).c true))]⟩
  refine EvL.jn T10 (λa=>a=o10) ?_ ?_
  .refine zaa ?_;try simp only[rnA,Nat.reduceEqDiff,Nat.reduceLT,zal]
   cases c1:(decide (v4<(p0.cards.length:Int)))
   .rw[c1,qcS]at j10;try simp only[rnA,Nat.reduceEqDiff,Nat.reduceLT]
    replace j10:=qae j10; subst j10;exact lfj hT10 rfl (wm0 [.k,.k,.k,.k] ⟨MB.cs ⟨qcQ,qcQ,qcQ,qcQ⟩,⟨MB.cs ⟨qcQ,qcQ,qcQ⟩,⟨MB.cs ⟨rfl,qcQ,qcQ⟩,⟨MB.gs (eI .i64) true l3,qcQ⟩⟩⟩⟩)
   rw[c1,qcR]at j10;try simp only[rnA,Nat.reduceEqDiff,Nat.reduceLT]
   replace j10:=qae j10; subst j10;exact lfj hT10 rfl (wm0 [.k,.k,.k,.k] ⟨MB.cs ⟨qcQ,qcQ,qcQ,qcQ⟩,⟨MB.cs ⟨qcQ,qcQ,qcQ⟩,⟨MB.cs ⟨rfl,qcQ,qcQ⟩,⟨MB.gs (eI .i64) true l3,qcQ⟩⟩⟩⟩)
  rintro v22 rfl;rw[congrFun hT10 v22];refine zaa ?_;try simp only[rnA,Nat.reduceEqDiff]
  cases c2:v22
  .rw[c2,qcS]at j5;try simp only[rnA]
   replace j5:=qae j5; subst j5;exact lfj hT5 rfl (wm0 [.k,.k,.k,.k] ⟨MB.cs ⟨qcQ,qcQ,qcQ,qcQ⟩,⟨MB.cs ⟨qcQ,qcQ,qcQ⟩,⟨MB.cs ⟨rfl,qcQ,qcQ⟩,⟨MB.gs (eI .i64) true l3,qcQ⟩⟩⟩⟩)
  rw[c2,qcR]at j5;obtain⟨x3,g4,j5⟩:=bind_some j5;obtain⟨y5,g6,j5⟩:=bind_some j5;try simp only[rnA,Nat.reduceEqDiff,Nat.reduceLT,Nat.reduceAdd,Nat.reduceLeDiff,Int.reduceBEq,zai (n:=1) (e:=(eI .u8)) rfl g4,zeg g6,(show l3.length+1=y5.length from zcM g6),(show l3.map ((eI .i64).c true)++ [[(dI (w64 (1+(w64 (x3.tmod 3)))))]]=y5.map ((eI .i64).c true)from ze8 g6 ((eI .i64).c true))]
  exact⟨((w64 (v4+1)),y5),j5,by rw[hT9]; exact wm0 [.k,.k,.k,.k] ⟨MB.cs ⟨qcQ,qcQ,qcQ,qcQ⟩,⟨MB.cs ⟨qcQ,qcQ,qcQ⟩,⟨MB.cs ⟨rfl,qcQ,qcQ⟩,⟨MB.gs (eI .i64) true y5,qcQ⟩⟩⟩⟩⟩
 rintro l3 rfl;rw[congrFun hT5 l3];refine zaa ?_;try simp only[rnA,Nat.reduceEqDiff,Nat.reduceLT]
 obtain⟨o11,j11,h⟩:=bind_some h;obtain⟨T11,hT11⟩:=mkT λa:(List Int)=>⟨140,[(1,(.ptr 0 0)),(2,(.ptr 1 0)),(3,(.ptr 2 0))],[.cells [(fzE false (eI .u8) p0.cards),(fzE false zaD p0.gates),(dB p0.big)],.cells [zc8,zc8],.cells [(fzE true (eI .i64) a),zc8]]⟩
 refine EvL.jn T11 (λa=>a=o11) ?_ ?_
 .refine zaa ?_;try simp only[rnA,Nat.reduceEqDiff]
  cases c7:(((l3.length:Nat):Int)== 0)
  .rw[c7,qcS]at j11;try simp only[rnA]
   replace j11:=qae j11; subst j11;exact lfj hT11 rfl (wm0 [.k,.k,.k,.f] ⟨MB.cs ⟨qcQ,qcQ,qcQ,qcQ⟩,⟨MB.cs ⟨qcQ,qcQ,qcQ⟩,⟨MB.zvP (.cons (.fr (zme (e:=(eI .i64)) (t:=true) rfl rfl (.inr rfl) rfl rfl (λk h=>nomatch h) (λh=>by cases h<;>rfl))) (.cons (.same trivial) .nil)),qcQ⟩⟩⟩)
  rw[c7,qcR]at j11;try simp only[rnA,Nat.reduceEqDiff,Nat.reduceLT,Nat.reduceAdd,Nat.reduceLeDiff]
  replace j11:=qae j11; subst j11;exact lfj hT11 rfl (wm0 [.k,.k,.k,.d,.f] ⟨MB.cs ⟨qcQ,qcQ,qcQ,qcQ⟩,⟨MB.cs ⟨qcQ,qcQ,qcQ⟩,⟨MB.zvP (.cons (.fr (zme (e:=(eI .i64)) (t:=true) rfl rfl (.inl rfl) rfl rfl (λk h=>by cases h; exact qan _) (λh=>by cases h<;>rfl))) (.cons (.same trivial) .nil)),qcQ⟩⟩⟩)
 rintro b2_0 rfl;rw[congrFun hT11 b2_0];refine zaa ?_;try simp only[rnA,Nat.reduceLT]
 obtain⟨o20,j20,h⟩:=bind_some h;obtain⟨T20,hT20⟩:=mkT λa:(List S_api_Gate)=>⟨140,[(1,(.ptr 0 0)),(2,(.ptr 1 0)),(3,(.ptr 2 0))],[.cells [(fzE false (eI .u8) p0.cards),(fzE false zaD p0.gates),(dB p0.big)],.cells [zc8,zc8],.cells [(fzE true (eI .i64) b2_0),(.sl 3 0 5 a.length none a.length)],.grow 5 (a.map (zab.c true))]⟩
 refine EvL.jn T20 (λa=>a=o20) ?_ ?_
 .refine zaa ?_;simp only[rnA];obtain⟨T27,hT27⟩:=mkT λa:(Int×(List S_api_Gate))=>⟨140,[(1,(.ptr 0 0)),(2,(.ptr 1 0)),(3,(.ptr 2 0)),(5,(dI a.1))],[.cells [(fzE false (eI .u8) p0.cards),(fzE false zaD p0.gates),(dB p0.big)],.cells [zc8,zc8],.cells [(fzE true (eI .i64) b2_0),(.sl 3 0 5 a.2.length none a.2.length)],.grow 5 (a.2.map (zab.c true))]⟩
  refine EvL.zuq (za9.zs3 (n:=5) (β:=2) (o:=1) (by decide) rfl rfl) ?_;refine EvL.rounds (α:=(Int×(List S_api_Gate))) T27 (λn a=>zaH b2_0 n a.1 a.2=some o20) ((b2_0.length:Int) - 0+2:Int).toNat (0,[]) (by rw[hT27]; exact wm0 [.k,.k,.k,.k] ⟨MB.cs ⟨qcQ,qcQ,qcQ,qcQ⟩,⟨MB.cs ⟨qcQ,qcQ,qcQ⟩,⟨MB.cs ⟨qcQ,rfl,qcQ⟩,⟨MB.gs zab true [],qcQ⟩⟩⟩⟩) j20 (λ_ h=>nomatch (show(none:Option (List S_api_Gate))=some o20 from h)) ?_;rintro n ⟨v5,l3_⟩ j20;simp only[zaH]at j20;rw[congrFun hT27 (v5,l3_)];refine zaa ?_;try simp only[rnA,Nat.reduceEqDiff,Nat.reduceLT,zal]
  cases c8:(decide (v5<(b2_0.length:Int)))
  .rw[c8,qcS]at j20;try simp only[rnA]
   replace j20:=qae j20; subst j20;exact lfj hT20 rfl (wm0 [.k,.k,.k,.k] ⟨MB.cs ⟨qcQ,qcQ,qcQ,qcQ⟩,⟨MB.cs ⟨qcQ,qcQ,qcQ⟩,⟨MB.cs ⟨qcQ,rfl,qcQ⟩,⟨MB.gs zab true l3_,qcQ⟩⟩⟩⟩)
  rw[c8,qcR]at j20;try simp only[rnA,Nat.reduceLT]
  obtain⟨o28,j28,j20⟩:=bind_some j20;obtain⟨T28,hT28⟩:=mkT λa:(List S_api_Gate)=>⟨140,[(1,(.ptr 0 0)),(2,(.ptr 1 0)),(3,(.ptr 2 0)),(5,(dI v5))],[.cells [(fzE false (eI .u8) p0.cards),(fzE false zaD p0.gates),(dB p0.big)],.cells [zc8,zc8],.cells [(fzE true (eI .i64) b2_0),(.sl 3 0 5 a.length none a.length)],.grow 5 (a.map (zab.c true))]⟩
  refine EvL.jn T28 (λa=>a=o28) ?_ ?_
  .refine zaa ?_;simp only[rnA];obtain⟨T29,hT29⟩:=mkT λa:(Int×(List S_api_Gate))=>⟨140,[(1,(.ptr 0 0)),(2,(.ptr 1 0)),(3,(.ptr 2 0)),(5,(dI v5)),(6,(dI a.1))],[.cells [(fzE false (eI .u8) p0.cards),(fzE false zaD p0.gates),(dB p0.big)],.cells [zc8,zc8],.cells [(fzE true (eI .i64) b2_0),(.sl 3 0 5 a.2.length none a.2.length)],.grow 5 (a.2.map (zab.c true))]⟩
   refine EvL.rounds (α:=(Int×(List S_api_Gate))) T29 (λn a=>zaK b2_0 v5 n a.1 a.2=some o28) (((zaS b2_0 v5).getD default) - 0+2:Int).toNat (0,l3_) (by rw[hT29]; exact wm0 [.k,.k,.k,.k] ⟨MB.cs ⟨qcQ,qcQ,qcQ,qcQ⟩,⟨MB.cs ⟨qcQ,qcQ,qcQ⟩,⟨MB.cs ⟨qcQ,rfl,qcQ⟩,⟨MB.gs zab true l3_,qcQ⟩⟩⟩⟩) j28 (λ_ h=>nomatch (show(none:Option (List S_api_Gate))=some o28 from h)) ?_;rintro n ⟨v6,l3_'⟩ j28;simp only[zaK]at j28;rw[congrFun hT29 (v6,l3_')];refine zaa ?_;obtain⟨x9,g10,j28⟩:=bind_some j28;try simp only[rnA,Nat.reduceEqDiff,Nat.reduceLT,zai (n:=1) (e:=(eI .i64)) rfl g10]
   cases c11:(decide (v6<x9))
   .rw[c11,qcS]at j28;try simp only[rnA,Nat.reduceEqDiff,Nat.reduceLT]
    replace j28:=qae j28; subst j28;exact lfj hT28 rfl (wm0 [.k,.k,.k,.k] ⟨MB.cs ⟨qcQ,qcQ,qcQ,qcQ⟩,⟨MB.cs ⟨qcQ,qcQ,qcQ⟩,⟨MB.cs ⟨qcQ,rfl,qcQ⟩,⟨MB.gs zab true l3_',qcQ⟩⟩⟩⟩)
   rw[c11,qcR]at j28;obtain⟨y12,g13,j28⟩:=bind_some j28;try simp only[rnA,Nat.reduceEqDiff,Nat.reduceLT,Nat.reduceAdd,Nat.reduceLeDiff,zeg g13,(show l3_'.length+1=y12.length from zcM g13)]
   exact⟨((w64 (v6+1)),y12),j28,by rw[hT29]; exact wm0 [.k,.k,.k,.k] ⟨MB.cs ⟨qcQ,qcQ,qcQ,qcQ⟩,⟨MB.cs ⟨qcQ,qcQ,qcQ⟩,⟨MB.cs ⟨qcQ,rfl,qcQ⟩,⟨MB.zuX (zoF (e:=zab) (t:=true) g13 (.cons (.cons (.same trivial) (.cons (.same trivial) (.cons (.same trivial) (.cons (.same trivial) (.cons (.fr (zpG (eI .i64))) .nil))))) .nil)),qcQ⟩⟩⟩⟩⟩
  rintro l3_' rfl;rw[congrFun hT28 l3_'];refine zaa ?_;try simp only[rnA,Nat.reduceEqDiff,Nat.reduceLT]
  exact⟨((w64 (v5+1)),l3_'),j20,by rw[hT27]; exact wm0 [.k,.k,.k,.k] ⟨MB.cs ⟨qcQ,qcQ,qcQ,qcQ⟩,⟨MB.cs ⟨qcQ,qcQ,qcQ⟩,⟨MB.cs ⟨qcQ,rfl,qcQ⟩,⟨MB.gs zab true l3_',qcQ⟩⟩⟩⟩⟩
 rintro l3_ rfl;rw[congrFun hT20 l3_];refine zaa ?_;try simp only[rnA,Nat.reduceEqDiff,Nat.reduceLT]
 obtain⟨o30,j30,h⟩:=bind_some h;obtain⟨T30,hT30⟩:=mkT λa:(Int×Bool)=>⟨140,[(1,(.ptr 0 0)),(2,(.ptr 1 0)),(3,(.ptr 2 0)),(7,(dI a.1))],[.cells [(fzE false (eI .u8) p0.cards),(fzE false zaD p0.gates),(dB a.2)],.cells [zc8,zc8],.cells [(fzE true (eI .i64) b2_0),(.sl 3 0 5 l3_.length none l3_.length)],.grow 5 (l3_.map (zab.c true))]⟩
 refine EvL.jn T30 (λa=>a=o30) ?_ ?_
 .refine zaa ?_;try simp only[rnA,Nat.reduceEqDiff]
  cases c16:p0.big
  .rw[c16,qcS]at j30;try simp only[rnA]
   replace j30:=qae j30; subst j30;exact lfj hT30 rfl (wm0 [.k,.k,.k,.k] ⟨MB.cs ⟨qcQ,qcQ,qcQ,qcQ⟩,⟨MB.cs ⟨qcQ,qcQ,qcQ⟩,⟨MB.cs ⟨qcQ,rfl,qcQ⟩,⟨MB.gs zab true l3_,qcQ⟩⟩⟩⟩)
  rw[c16,qcR]at j30;try simp only[rnA,Nat.reduceLT]
  replace j30:=qae j30; subst j30;exact lfj hT30 rfl (wm0 [.k,.k,.k,.k] ⟨MB.cs ⟨qcQ,qcQ,qcQ,qcQ⟩,⟨MB.cs ⟨qcQ,qcQ,qcQ⟩,⟨MB.cs ⟨qcQ,rfl,qcQ⟩,⟨MB.gs zab true l3_,qcQ⟩⟩⟩⟩)
 rintro⟨v7,b0_2⟩ rfl;dsimp only at h;rw[congrFun hT30 (v7,b0_2)];refine zaa ?_;try simp only[rnA,Nat.reduceLT]
 obtain⟨o43,j43,h⟩:=bind_some h;obtain⟨T43,hT43⟩:=mkT λa:(List S_api_Gate)=>⟨140,[(2,(.ptr 1 0)),(3,(.ptr 2 0))],[.gone,.cells [zc8,zc8],.cells [(fzE true (eI .i64) b2_0),(.sl 3 0 5 a.length none a.length)],.grow 5 (a.map (zab.c true))]⟩
 refine EvL.jn T43 (λa=>a=o43) ?_ ?_
 .refine zaa ?_;simp only[rnA];obtain⟨T52,hT52⟩:=mkT λa:(Int×(List S_api_Gate))=>⟨140,[(1,(.ptr 0 0)),(2,(.ptr 1 0)),(3,(.ptr 2 0)),(7,(dI v7)),(8,(dI a.1))],[.cells [(fzE false (eI .u8) p0.cards),(fzE false zaD p0.gates),(dB b0_2)],.cells [zc8,zc8],.cells [(fzE true (eI .i64) b2_0),(.sl 3 0 5 a.2.length none a.2.length)],.grow 5 (a.2.map (zab.c true))]⟩
  refine EvL.rounds (α:=(Int×(List S_api_Gate))) T52 (λn a=>zay p0 v7 n a.1 a.2=some o43) N (0,l3_) (by rw[hT52]; exact wm0 [.k,.k,.k,.k] ⟨MB.cs ⟨qcQ,qcQ,qcQ,qcQ⟩,⟨MB.cs ⟨qcQ,qcQ,qcQ⟩,⟨MB.cs ⟨qcQ,rfl,qcQ⟩,⟨MB.gs zab true l3_,qcQ⟩⟩⟩⟩) j43 (λ_ h=>nomatch (show(none:Option (List S_api_Gate))=some o43 from h)) ?_;rintro n ⟨v8,l3_'⟩ j43;simp only[zay]at j43;rw[congrFun hT52 (v8,l3_')];refine zaa ?_;try simp only[rnA]
  obtain⟨o53,j53,j43⟩:=bind_some j43;obtain⟨T53,hT53⟩:=mkT λa:Bool=>⟨140,[(1,(.ptr 0 0)),(2,(.ptr 1 0)),(3,(.ptr 2 0)),(7,(dI v7)),(8,(dI v8)),(78,(dB a))],[.cells [(fzE false (eI .u8) p0.cards),(fzE false zaD p0.gates),(dB b0_2)],.cells [zc8,zc8],.cells [(fzE true (eI .i64) b2_0),(.sl 3 0 5 l3_'.length none l3_'.length)],.grow 5 (l3_'.map (zab.c true))]⟩
  refine EvL.jn T53 (λa=>a=o53) ?_ ?_
  .refine zaa ?_;try simp only[rnA,Nat.reduceEqDiff,Nat.reduceLT,zal]
   cases c17:(decide (v8<(p0.gates.length:Int)))
   .rw[c17,qcS]at j53;try simp only[rnA,Nat.reduceEqDiff,Nat.reduceLT]
    replace j53:=qae j53; subst j53;exact lfj hT53 rfl (wm0 [.k,.k,.k,.k] ⟨MB.cs ⟨qcQ,qcQ,qcQ,qcQ⟩,⟨MB.cs ⟨qcQ,qcQ,qcQ⟩,⟨MB.cs ⟨qcQ,rfl,qcQ⟩,⟨MB.gs zab true l3_',qcQ⟩⟩⟩⟩)
   rw[c17,qcR]at j53;try simp only[rnA,Nat.reduceEqDiff,Nat.reduceLT]
   replace j53:=qae j53; subst j53;exact lfj hT53 rfl (wm0 [.k,.k,.k,.k] ⟨MB.cs ⟨qcQ,qcQ,qcQ,qcQ⟩,⟨MB.cs ⟨qcQ,qcQ,qcQ⟩,⟨MB.cs ⟨qcQ,rfl,qcQ⟩,⟨MB.gs zab true l3_',qcQ⟩⟩⟩⟩)
  rintro v78 rfl;rw[congrFun hT53 v78];refine zaa ?_;try simp only[rnA,Nat.reduceEqDiff]
  cases c18:v78
  .rw[c18,qcS]at j43;try simp only[rnA]
   replace j43:=qae j43; subst j43;exact lfj hT43 rfl (wm0 [.d,.k,.k,.k] ⟨rfl,⟨MB.cs ⟨qcQ,qcQ,qcQ⟩,⟨MB.cs ⟨qcQ,rfl,qcQ⟩,⟨MB.gs zab true l3_',qcQ⟩⟩⟩⟩)
  rw[c18,qcR]at j43;try simp only[rnA]
  obtain⟨o55,j55,j43⟩:=bind_some j43;obtain⟨T55,hT55⟩:=mkT λa:(List S_api_Gate)=>⟨140,[(1,(.ptr 0 0)),(2,(.ptr 1 0)),(3,(.ptr 2 0)),(7,(dI v7)),(8,(dI v8))],[.cells [(fzE false (eI .u8) p0.cards),(fzE false zaD p0.gates),(dB b0_2)],.cells [zc8,zc8],.cells [(fzE true (eI .i64) b2_0),(.sl 3 0 5 a.length none a.length)],.grow 5 (a.map (zab.c true))]⟩
  refine EvL.jn T55 (λa=>a=o55) ?_ ?_
  .refine zaa ?_;obtain⟨x19,g20,j55⟩:=bind_some j55;try simp only[rnA,Nat.reduceEqDiff,Nat.reduceLT,Nat.reduceAdd,Nat.reduceLeDiff,Int.reduceLE,Int.reduceLT,Int.reduceBEq,zld,zai (n:=4) (e:=zaD) rfl g20,Int.reduceToNat,qcC,qbI]
   cases c21:((x19.a0.tmod 5)== 0)
   .rw[c21,qcS]at j55;obtain⟨q22,g23,j55⟩:=bind_some j55;obtain⟨q24,g25,j55⟩:=bind_some j55;try simp only[rnA,Nat.reduceEqDiff,Nat.reduceLT,Nat.reduceAdd,Nat.reduceMul,Int.reduceLE,Int.reduceLT,Int.reduceToNat,qcC,qb5,zin g23,ziq g23,ziq g25]
    obtain⟨o56,j56,j55⟩:=bind_some j55;obtain⟨T56,hT56⟩:=mkT λa:(List Int)=>⟨140,[(1,(.ptr 0 0)),(2,(.ptr 1 0)),(3,(.ptr 2 0)),(7,(dI v7)),(8,(dI v8)),(9,(.ptr 4 0)),(13,(fzE true (eI .i64) a))],[.cells [(fzE false (eI .u8) p0.cards),(fzE false zaD p0.gates),(dB b0_2)],.cells [zc8,zc8],.cells [(fzE true (eI .i64) b2_0),(.sl 3 0 5 l3_'.length none l3_'.length)],.grow 5 (l3_'.map (zab.c true)),.cells [(dU8 x19.a0),(dU8 x19.a1),(dU8 x19.a2),(dU8 x19.a3)]]⟩
    refine EvL.jn T56 (λa=>a=o56) ?_ ?_
    .refine zaa ?_;try simp only[rnA,Nat.reduceEqDiff]
     cases c26:(q22 == q24)
     .rw[c26,qcS]at j56;try simp only[rnA]
      replace j56:=qae j56; subst j56;exact lfj hT56 rfl (za9.m0 [.k,.k,.k,.k,.k,.f] rfl (msq (msq (msq (msq (msq (msq (mf rfl (zme (e:=(eI .i64)) (t:=true) rfl rfl (.inl rfl) rfl rfl (λk h=>by cases h; exact qan _) (λh=>by cases h<;>rfl)) trivial))))))) ⟨MB.cs ⟨qcQ,qcQ,qcQ,qcQ⟩,⟨MB.cs ⟨qcQ,qcQ,qcQ⟩,⟨MB.cs ⟨qcQ,rfl,qcQ⟩,⟨MB.gs zab true l3_',⟨MB.cs ⟨qcQ,qcQ,qcQ,qcQ,qcQ⟩,qcQ⟩⟩⟩⟩⟩)
     rw[c26,qcR]at j56;try simp only[rnA,Nat.reduceEqDiff,Nat.reduceLT,Nat.reduceAdd]
     replace j56:=qae j56; subst j56;exact lfj hT56 rfl (za9.m0 [.k,.k,.k,.k,.k,.d,.f] rfl (msq (msq (msq (msq (msq (msq (mf rfl (zme (e:=(eI .i64)) (t:=true) rfl rfl (.inl rfl) rfl rfl (λk h=>by cases h; exact qan _) (λh=>by cases h<;>rfl)) trivial))))))) ⟨MB.cs ⟨qcQ,qcQ,qcQ,qcQ⟩,⟨MB.cs ⟨qcQ,qcQ,qcQ⟩,⟨MB.cs ⟨qcQ,rfl,qcQ⟩,⟨MB.gs zab true l3_',⟨MB.cs ⟨qcQ,qcQ,qcQ,qcQ,qcQ⟩,qcQ⟩⟩⟩⟩⟩)
    rintro v13 rfl;rw[congrFun hT56 v13];refine zaa ?_;obtain⟨y27,g28,j55⟩:=bind_some j55;try simp only[rnA,Nat.reduceEqDiff,Nat.reduceLT,Nat.reduceAdd,Nat.reduceLeDiff,Int.reduceLE,Int.reduceLT,Int.reduceBEq,Int.reduceToNat,qcC,qbI,zeg g28,(show l3_'.length+1=y27.length from zcM g28),(show l3_'.map (zab.c true)++ [[(dI (w64 (3+(w64 (x19.a0.tmod 2))))),(dI 0),(dI 0),(dI 0),(fzE true (eI .i64) v13)]]=y27.map (zab.c true)from ze8 g28 (zab.c true))]
    replace j55:=qae j55; subst j55;exact lfj hT55 rfl (wm0 [.k,.k,.k,.k] ⟨MB.cs ⟨qcQ,qcQ,qcQ,qcQ⟩,⟨MB.cs ⟨qcQ,qcQ,qcQ⟩,⟨MB.cs ⟨qcQ,rfl,qcQ⟩,⟨MB.gs zab true y27,qcQ⟩⟩⟩⟩)
   rw[c21,qcR]at j55;obtain⟨y29,g30,j55⟩:=bind_some j55;try simp only[rnA,Nat.reduceEqDiff,Nat.reduceLT,Nat.reduceAdd,Nat.reduceLeDiff,Int.reduceLE,Int.reduceLT,Int.reduceBEq,Int.reduceToNat,qcC,qb5,zeg g30,(show l3_'.length+1=y29.length from zcM g30)]
   replace j55:=qae j55; subst j55;exact lfj hT55 rfl (wm0 [.k,.k,.k,.k] ⟨MB.cs ⟨qcQ,qcQ,qcQ,qcQ⟩,⟨MB.cs ⟨qcQ,qcQ,qcQ⟩,⟨MB.cs ⟨qcQ,rfl,qcQ⟩,⟨MB.zuX (zoF (e:=zab) (t:=true) g30 (.cons (.cons (.same trivial) (.cons (.same trivial) (.cons (.same trivial) (.cons (.same trivial) (.cons (.fr (zpG (eI .i64))) .nil))))) .nil)),qcQ⟩⟩⟩⟩)
  rintro l3_'' rfl;rw[congrFun hT55 l3_''];refine zaa ?_;try simp only[rnA,Nat.reduceEqDiff,Nat.reduceLT]
  exact⟨((w64 (v8+1)),l3_''),j43,by rw[hT52]; exact wm0 [.k,.k,.k,.k] ⟨MB.cs ⟨qcQ,qcQ,qcQ,qcQ⟩,⟨MB.cs ⟨qcQ,qcQ,qcQ⟩,⟨MB.cs ⟨qcQ,rfl,qcQ⟩,⟨MB.gs zab true l3_'',qcQ⟩⟩⟩⟩⟩
 rintro l3_' rfl;rw[congrFun hT43 l3_'];refine zaa ?_;try simp only[rnA,Nat.reduceEqDiff,Nat.reduceLT,Nat.reduceAdd,Nat.reduceLeDiff]
 replace h:=qae h; subst h;exact zc7.ret rfl (.zl2 (.cons (zaM _ _ (λ_=>rfl)) (.cons (zcS (e:=zab) (t:=true) rfl (.inr rfl) rfl rfl (λk h=>nomatch h) (λ_=>rfl)) .nil)))
def zbR(p0:(List Int))(p1:A8_Intu8):Nat->Int->(List Int)->Option (List Int)
 | 0,_,_=>none
 | n+1,v10,l1=>(
bif (decide (v10<(p0.length:Int)))then(
(zaS p0 v10).bind λx2=>
(zaS [p1.a0,p1.a1,p1.a2,p1.a3,p1.a4,p1.a5,p1.a6,p1.a7] (v10.tmod 8)).bind λx4=>
(znK (w64 x4) (w64 ((zsO x2 0)+1))).bind λq6=>
(zfa 8 l1 [(w64 (q6 - 1))]).bind λy8=>
zbR p0 p1 n (w64 (v10+1)) y8)
else(
some l1))
def zcq(p0:(List Int))(p1:A8_Intu8):Option (List Int):=
((zbR p0 p1 ((p0.length:Int) - 0+2:Int).toNat 0 []:Option (List Int))).bind λl1=>
some l1
theorem ziZ{p0:(List Int)}{p1:A8_Intu8}{r:(List Int)}(h:zcq p0 p1=some r):Lx.FnT mC 19 [(fzE false (eI .i64) p0),(.agg [(dU8 p1.a0),(dU8 p1.a1),(dU8 p1.a2),(dU8 p1.a3),(dU8 p1.a4),(dU8 p1.a5),(dU8 p1.a6),(dU8 p1.a7)])] [(.sl 1 0 1 r.length none r.length)] [.gone,.grow 1 (r.map ((eI .i64).c true))]:=by
 refine zyl (by conv=>lhs; cbv) ?_;unfold zcq at h;refine zaa ?_;try simp only[rnA,Nat.reduceEqDiff,Nat.reduceLT,Nat.reduceAdd,reduceCtorEq,zal]
 obtain⟨o1,j1,h⟩:=bind_some h;obtain⟨T1,hT1⟩:=mkT λa:(List Int)=>⟨30,[(5,(.sl 1 0 1 a.length none a.length))],[.gone,.grow 1 (a.map ((eI .i64).c true))]⟩
 refine EvL.jn T1 (λa=>a=o1) ?_ ?_
 .refine zaa ?_;simp only[rnA];obtain⟨T2,hT2⟩:=mkT λa:(Int×(List Int))=>⟨30,[(3,(.ptr 0 0)),(5,(.sl 1 0 1 a.2.length none a.2.length)),(8,(fzE false (eI .i64) p0)),(9,(dI (p0.length:Int))),(10,(dI a.1))],[.cells [(dU8 p1.a0),(dU8 p1.a1),(dU8 p1.a2),(dU8 p1.a3),(dU8 p1.a4),(dU8 p1.a5),(dU8 p1.a6),(dU8 p1.a7)],.grow 1 (a.2.map ((eI .i64).c true))]⟩
  refine EvL.zuq (za9.ghost (n:=1) (k:=5) (by decide) rfl) ?_;refine EvL.rounds (α:=(Int×(List Int))) T2 (λn a=>zbR p0 p1 n a.1 a.2=some o1) ((p0.length:Int) - 0+2:Int).toNat (0,[]) (by rw[hT2]; exact wm0 [.k,.k] ⟨MB.cs ⟨qcQ,qcQ,qcQ,qcQ,qcQ,qcQ,qcQ,qcQ,qcQ⟩,⟨MB.gs (eI .i64) true [],qcQ⟩⟩) j1 (λ_ h=>nomatch (show(none:Option (List Int))=some o1 from h)) ?_;rintro n ⟨v10,l1⟩ j1;simp only[zbR]at j1;rw[congrFun hT2 (v10,l1)];refine zaa ?_;try simp only[rnA,Nat.reduceEqDiff,Nat.reduceLT]
  cases c1:(decide (v10<(p0.length:Int)))
  .rw[c1,qcS]at j1;try simp only[rnA]
   replace j1:=qae j1; subst j1;exact lfj hT1 rfl (wm0 [.d,.k] ⟨rfl,⟨MB.gs (eI .i64) true l1,qcQ⟩⟩)
  rw[c1,qcR]at j1;obtain⟨x2,g3,j1⟩:=bind_some j1;obtain⟨x4,g5,j1⟩:=bind_some j1;obtain⟨q6,g7,j1⟩:=bind_some j1;obtain⟨y8,g9,j1⟩:=bind_some j1;try simp only[rnA,Nat.reduceEqDiff,Nat.reduceLT,Nat.reduceAdd,Nat.reduceLeDiff,Int.reduceBEq,zai (n:=1) (e:=(eI .i64)) rfl g3,zbb g5,(show(v10.tmod 8)<((8:Nat):Int)from zbc g5),qbV,(show [(dU8 p1.a0),(dU8 p1.a1),(dU8 p1.a2),(dU8 p1.a3),(dU8 p1.a4),(dU8 p1.a5),(dU8 p1.a6),(dU8 p1.a7)][(v10.tmod 8).toNat]? = some (.lit (.int .u8 x4))from zqN g5 (λx=>(.lit (.int .u8 x):D)) rfl),zin g7,ziq g7,zeg g9,(show l1.length+1=y8.length from zcM g9),(show l1.map ((eI .i64).c true)++ [[(dI (w64 (q6 - 1)))]]=y8.map ((eI .i64).c true)from ze8 g9 ((eI .i64).c true))]
  exact⟨((w64 (v10+1)),y8),j1,by rw[hT2]; exact wm0 [.k,.k] ⟨MB.cs ⟨qcQ,qcQ,qcQ,qcQ,qcQ,qcQ,qcQ,qcQ,qcQ⟩,⟨MB.gs (eI .i64) true y8,qcQ⟩⟩⟩
 rintro l1 rfl;rw[congrFun hT1 l1];refine zaa ?_;try simp only[rnA,Nat.reduceEqDiff,Nat.reduceLT]
 replace h:=qae h; subst h;exact zuz.ret (⟨30,[(4,(.sl 1 0 1 l1.length none l1.length))],[.gone,.grow 1 (l1.map ((eI .i64).c true))]⟩) (wm0 [.d,.k] ⟨rfl,⟨MB.gs (eI .i64) true l1,qcQ⟩⟩) rfl rfl
end Go.Dc
