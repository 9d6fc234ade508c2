/-
 What r02_At computes. Conditions: none.
-/
import Derived.Test.YtbjogdohfhdaiaaCkJ2
set_option linter.unusedSimpArgs false
set_option linter.unusedVariables false
set_option maxRecDepth 100000
set_option maxHeartbeats 4000000
namespace Go.Dc
open Go Go.Mx Go.Lx Go.Proofs
def zdr(p1:(List Int))(p0:(List Int)):Nat->Int->(List Int)->Option (List Int)
 | 0,_,_=>none
 | n+1,v6,l0=>(
bif (decide (v6<(p1.length:Int)))then(
(zaH p1 v6).bind λx2=>
(zaH p0 x2).bind λx4=>
(zeo 8 l0 [x4]).bind λy6=>
zdr p1 p0 n (w64 (v6+1)) y6)
else(
some l0))
def zdK(p0:(List Int))(p1:(List Int)):Option (List Int):=
((zdr p1 p0 ((p1.length:Int) - 0+2:Int).toNat 0 []:Option (List Int))).bind λl0=>
some l0
theorem znL{p0:(List Int)}{p1:(List Int)}{r:(List Int)}(h:zdK p0 p1=some r):Lx.Fn mC 60 [(fzE false (eI .i64) p0),(fzE false (eI .i64) p1)] (fzE true (eI .i64) r):=by
 refine gnO ?_;unfold zdK at h;refine zab ?_;try simp only[rnA,Nat.reduceLT,Nat.reduceAdd]
 obtain⟨o1,j1,h⟩:=bind_some h;obtain⟨T1,hT1⟩:=mkT λa:(List Int)=>⟨24,[(5,(.sl 0 0 1 a.length none a.length))],[.grow 1 (a.map ((eI .i64).c true))]⟩
 refine EvL.jn T1 (λa=>a=o1) ?_ ?_
 .refine zab ?_;simp only[rnA];obtain⟨T2,hT2⟩:=mkT λa:(Int×(List Int))=>⟨24,[(0,(fzE false (eI .i64) p0)),(1,(fzE false (eI .i64) p1)),(5,(.sl 0 0 1 a.2.length none a.2.length)),(6,(dI a.1))],[.grow 1 (a.2.map ((eI .i64).c true))]⟩
  refine EvL.zpL (zbQ.ghost (n:=1) (k:=5) (by decide) rfl) ?_;refine EvL.rounds (α:=(Int×(List Int))) T2 (λn a=>zdr p1 p0 n a.1 a.2=some o1) ((p1.length:Int) - 0+2:Int).toNat (0,[]) (by rw[hT2]; exact wm0 [.k] ⟨MB.gs (eI .i64) true [],qcD⟩) j1 (λ_ h=>nomatch (show(none:Option (List Int))=some o1 from h)) ?_;rintro n ⟨v6,l0⟩ j1;simp only[zdr]at j1;rw[congrFun hT2 (v6,l0)];refine zab ?_;try simp only[rnA,Nat.reduceEqDiff,Nat.reduceLT,reduceCtorEq,zaf]
  cases c1:(decide (v6<(p1.length:Int)))
  .rw[c1,qcF]at j1;try simp only[rnA]
   replace j1:=qaa j1; subst j1;exact lfj hT1 rfl (wm0 [.k] ⟨MB.gs (eI .i64) true l0,qcD⟩)
  rw[c1,qcE]at j1;obtain⟨x2,g3,j1⟩:=bind_some j1;obtain⟨x4,g5,j1⟩:=bind_some j1;obtain⟨y6,g7,j1⟩:=bind_some j1;try simp only[rnA,Nat.reduceEqDiff,Nat.reduceLT,Nat.reduceLeDiff,reduceCtorEq,zai (n:=1) (e:=(eI .i64)) rfl g3,zai (n:=1) (e:=(eI .i64)) rfl g5,zcT g7,(show l0.length+1=y6.length from zcd g7),(show l0.map ((eI .i64).c true)++ [[(dI x4)]]=y6.map ((eI .i64).c true)from zc7 g7 ((eI .i64).c true))]
  exact⟨((w64 (v6+1)),y6),j1,by rw[hT2]; exact wm0 [.k] ⟨MB.gs (eI .i64) true y6,qcD⟩⟩
 rintro l0 rfl;rw[congrFun hT1 l0];refine zab ?_;try simp only[rnA,Nat.reduceEqDiff,Nat.reduceLT]
 replace h:=qaa h; subst h;exact zbT.ret rfl (zaz (e:=(eI .i64)) (t:=true) rfl (.inr rfl) rfl rfl (λk h=>nomatch h) (λ_=>rfl))
def zat(x5:S_api_Gate)(l1:(List Int)):Nat->Int->Int->Option Int
 | 0,_,_=>none
 | n+1,v8,v9=>(
bif (decide (v9<(x5.args.length:Int)))then(
(zaH x5.args v9).bind λx16=>
(zaH l1 x16).bind λx18=>
zat x5 l1 n (w64 (v8+x18)) (w64 (v9+1)))
else(
some v8))
def zaP(N:Nat)(p0:S_api_Circuit)(r1:(List (List Int)))(v4:Int):Nat->Int->(List Int)->Option (Out Unit Bool)
 | 0,_,_=>none
 | n+1,v6,l1=>(
bif (decide (v6<(p0.gates.length:Int)))then(
(zaH p0.gates v6).bind λx5=>
((bif (x5.kind == 1)then(
some (.go (zgl x5.n 1)))
else(
bif (x5.kind == 2)then(
(zaH r1 v4).bind λx21=>
(zaH x21 x5.var).bind λx23=>
bif (x23 == x5.val)then(
some (.go 1))
else(
some (.go 0)))
else(
bif (x5.kind == 3)then(
((zat x5 l1 ((x5.args.length:Int) - 0+2:Int).toNat 0 0:Option Int)).bind λv8=>
bif (decide (1<v8))then(
some (.ret false))
else(
some (.go v8)))
else(
bif (x5.kind == 4)then(
(zdK l1 x5.args).bind λr11=>
(zbF N r11).bind λr13=>
some (.go r13.1))
else(
some (.go 0))))):Option (Out Int Bool))).bind λo=>match o with
| .go v8=>(
(zeo 8 l1 [v8]).bind λy26=>
zaP N p0 r1 v4 n (w64 (v6+1)) y26)
| .ret r=>some (.ret r))
else(
some (.go ())))
def zaO(N:Nat)(r1:(List (List Int)))(p0:S_api_Circuit):Nat->Int->Option (Out Unit Bool)
 | 0,_=>none
 | n+1,v4=>(
bif (decide (v4<(r1.length:Int)))then(
((zaP N p0 r1 v4 ((p0.gates.length:Int) - 0+2:Int).toNat 0 []:Option (Out Unit Bool))).bind λo=>match o with
| .go _=>(
zaO N r1 p0 n (w64 (v4+1)))
| .ret r=>some (.ret r))
else(
some (.go ())))
def zaA(N:Nat)(p0:S_api_Circuit):Option Bool:=
(zef N p0.cards).bind λr1=>
((zaO N r1 p0 ((r1.length:Int) - 0+2:Int).toNat 0:Option (Out Unit Bool))).bind λo=>match o with
| .go _=>(
some true)
| .ret r=>some r
variable{N:Nat}
theorem zbs{p0:S_api_Circuit}{r:Bool}(h:zaA N p0=some r):Lx.Fn mC 16 [(.agg [(fzE false (eI .i64) p0.cards),(fzE false zaa p0.gates)])] (dB r):=by
 refine gnO ?_;unfold zaA at h;refine zab ?_;obtain⟨r1,g2,h⟩:=bind_some h;try simp only[rnA,Nat.reduceEqDiff,Nat.reduceLT,reduceCtorEq]
 refine EvL.fn (zmS g2) rfl rfl (.cons (zah _ _ (λh=>nomatch h)) .nil) ?_;try simp only[rnA,Nat.reduceEqDiff,Nat.reduceLT,reduceCtorEq]
 obtain⟨o127,j127,h⟩:=bind_some h;obtain⟨T127,hT127⟩:=mkT λa:Unit=>⟨86,[],[]⟩
 refine EvL.jn T127 (λa=>o127=.go a) ?_ ?_
 .refine zab ?_;simp only[rnA];obtain⟨T212,hT212⟩:=mkT λa:Int=>⟨86,[(1,(.ptr 0 0)),(3,(fzE true (eL (eI .i64)) r1)),(4,(dI a))],[.cells [(fzE false (eI .i64) p0.cards),(fzE false zaa p0.gates)]]⟩
  refine EvL.rounds (α:=Int) T212 (λn a=>zaO N r1 p0 n a=some o127) ((r1.length:Int) - 0+2:Int).toNat 0 (by rw[hT212]; exact wm0 [.k] ⟨MB.cs ⟨qcD,qcD,qcD⟩,qcD⟩) j127 (λ_ h=>nomatch (show(none:Option (Out Unit Bool))=some o127 from h)) ?_;rintro n v4 j127;simp only[zaO]at j127;rw[congrFun hT212 v4];refine zab ?_;try simp only[rnA,Nat.reduceEqDiff,Nat.reduceLT,zaf]
  cases c3:(decide (v4<(r1.length:Int)))
  .rw[c3,qcF]at j127;try simp only[rnA]
   replace j127:=qaa j127; subst j127;exact lfj hT127 rfl (wm0 [] (by exact trivial))
  rw[c3,qcE]at j127;try simp only[rnA,Nat.reduceLT]
  obtain⟨o233,j233,j127⟩:=bind_some j127;obtain⟨T233,hT233⟩:=mkT λa:Unit=>⟨86,[(1,(.ptr 0 0)),(3,(fzE true (eL (eI .i64)) r1)),(4,(dI v4))],[.cells [(fzE false (eI .i64) p0.cards),(fzE false zaa p0.gates)]]⟩
  refine EvL.jn T233 (λa=>o233=.go a) ?_ ?_
  .refine zab ?_;simp only[rnA];obtain⟨T249,hT249⟩:=mkT λa:(Int×(List Int))=>⟨86,[(1,(.ptr 0 0)),(3,(fzE true (eL (eI .i64)) r1)),(4,(dI v4)),(5,(.sl 1 0 1 a.2.length none a.2.length)),(6,(dI a.1))],[.cells [(fzE false (eI .i64) p0.cards),(fzE false zaa p0.gates)],.grow 1 (a.2.map ((eI .i64).c true))]⟩
   refine EvL.zpL (zbQ.ghost (n:=1) (k:=5) (by decide) rfl) ?_;refine EvL.rounds (α:=(Int×(List Int))) T249 (λn a=>zaP N p0 r1 v4 n a.1 a.2=some o233) ((p0.gates.length:Int) - 0+2:Int).toNat (0,[]) (by rw[hT249]; exact wm0 [.k,.k] ⟨MB.cs ⟨qcD,qcD,qcD⟩,⟨MB.gs (eI .i64) true [],qcD⟩⟩) j233 (λ_ h=>nomatch (show(none:Option (Out Unit Bool))=some o233 from h)) ?_;rintro n ⟨v6,l1⟩ j233;simp only[zaP]at j233;rw[congrFun hT249 (v6,l1)];refine zab ?_;try simp only[rnA,Nat.reduceEqDiff,Nat.reduceLT,zaf]
   cases c4:(decide (v6<(p0.gates.length:Int)))
   .rw[c4,qcF]at j233;try simp only[rnA,Nat.reduceEqDiff,Nat.reduceLT,reduceCtorEq]
    replace j233:=qaa j233; subst j233;exact lfj hT233 rfl (wm0 [.k] ⟨MB.cs ⟨qcD,qcD,qcD⟩,qcD⟩)
   rw[c4,qcE]at j233;obtain⟨x5,g6,j233⟩:=bind_some j233;try simp only[rnA,Nat.reduceEqDiff,Nat.reduceLT,Nat.reduceAdd,Nat.reduceLeDiff,zal,zai (n:=5) (e:=zaa) rfl g6]
   obtain⟨o252,j252,j233⟩:=bind_some j233;obtain⟨T252,hT252⟩:=mkT λa:Int=>⟨86,[(1,(.ptr 0 0)),(3,(fzE true (eL (eI .i64)) r1)),(4,(dI v4)),(5,(.sl 1 0 1 l1.length none l1.length)),(6,(dI v6)),(8,(dI a))],[.cells [(fzE false (eI .i64) p0.cards),(fzE false zaa p0.gates)],.grow 1 (l1.map ((eI .i64).c true))]⟩
   refine EvL.jn T252 (λa=>o252=.go a) ?_ ?_
   .refine zab ?_;try simp only[rnA,Nat.reduceEqDiff]
    cases c7:(x5.kind == 1)
    .rw[c7,qcF]at j252;try simp only[rnA,Nat.reduceEqDiff,Nat.reduceLT]
     cases c8:(x5.kind == 2)
     .rw[c8,qcF]at j252;try simp only[rnA,Nat.reduceEqDiff,Nat.reduceLT]
      cases c9:(x5.kind == 3)
      .rw[c9,qcF]at j252;try simp only[rnA,Nat.reduceEqDiff,Nat.reduceLT]
       cases c10:(x5.kind == 4)
       .rw[c10,qcF]at j252;try simp only[rnA]
        replace j252:=qaa j252; subst j252;exact lfj hT252 rfl (wm0 [.k,.k] ⟨MB.cs ⟨qcD,qcD,qcD⟩,⟨MB.gs (eI .i64) true l1,qcD⟩⟩)
       rw[c10,qcE]at j252;obtain⟨r11,g12,j252⟩:=bind_some j252;try simp only[rnA,Nat.reduceEqDiff,Nat.reduceLT]
       refine EvL.fn (znL g12) rfl rfl (.cons (zaz (e:=(eI .i64)) (t:=true) rfl (.inr rfl) rfl rfl (λk h=>nomatch h) (λh=>nomatch h)) (.cons (zah _ _ (λh=>nomatch h)) .nil)) ?_;obtain⟨r13,g14,j252⟩:=bind_some j252;try simp only[rnA,Nat.reduceLT]
       refine EvL.fn (zhu g14) rfl rfl (.cons (zah _ _ (λh=>nomatch h)) .nil) ?_;try simp only[rnA,Nat.reduceEqDiff,Nat.reduceLT]
       replace j252:=qaa j252; subst j252;exact lfj hT252 rfl (wm0 [.k,.k] ⟨MB.cs ⟨qcD,qcD,qcD⟩,⟨MB.gs (eI .i64) true l1,qcD⟩⟩)
      rw[c9,qcE]at j252;try simp only[rnA,Nat.reduceLT]
      obtain⟨o253,j253,j252⟩:=bind_some j252;obtain⟨T253,hT253⟩:=mkT λa:Int=>⟨86,[(1,(.ptr 0 0)),(3,(fzE true (eL (eI .i64)) r1)),(4,(dI v4)),(5,(.sl 1 0 1 l1.length none l1.length)),(6,(dI v6)),(8,(dI a))],[.cells [(fzE false (eI .i64) p0.cards),(fzE false zaa p0.gates)],.grow 1 (l1.map ((eI .i64).c true))]⟩
      refine EvL.jn T253 (λa=>a=o253) ?_ ?_
      .refine zab ?_;simp only[rnA];obtain⟨T254,hT254⟩:=mkT λa:(Int×Int)=>⟨86,[(1,(.ptr 0 0)),(3,(fzE true (eL (eI .i64)) r1)),(4,(dI v4)),(5,(.sl 1 0 1 l1.length none l1.length)),(6,(dI v6)),(7,(.ptr 2 0)),(8,(dI a.1)),(9,(dI a.2))],[.cells [(fzE false (eI .i64) p0.cards),(fzE false zaa p0.gates)],.grow 1 (l1.map ((eI .i64).c true)),.cells [(dI x5.kind),(dI x5.var),(dI x5.val),(dI x5.n),(fzE false (eI .i64) x5.args)]]⟩
       refine EvL.rounds (α:=(Int×Int)) T254 (λn a=>zat x5 l1 n a.1 a.2=some o253) ((x5.args.length:Int) - 0+2:Int).toNat (0,0) (by rw[hT254]; exact wm0 [.k,.k,.k] ⟨MB.cs ⟨qcD,qcD,qcD⟩,⟨MB.gs (eI .i64) true l1,⟨MB.cs ⟨qcD,qcD,qcD,qcD,qcD,qcD⟩,qcD⟩⟩⟩) j253 (λ_ h=>nomatch (show(none:Option Int)=some o253 from h)) ?_;rintro n ⟨v8,v9⟩ j253;simp only[zat]at j253;rw[congrFun hT254 (v8,v9)];refine zab ?_;try simp only[rnA,Nat.reduceEqDiff,Nat.reduceLT,zaf]
       cases c15:(decide (v9<(x5.args.length:Int)))
       .rw[c15,qcF]at j253;try simp only[rnA,Nat.reduceEqDiff,Nat.reduceLT,Nat.reduceAdd,Nat.reduceLeDiff,reduceCtorEq]
        replace j253:=qaa j253; subst j253;exact lfj hT253 rfl (wm0 [.k,.k] ⟨MB.cs ⟨qcD,qcD,qcD⟩,⟨MB.gs (eI .i64) true l1,qcD⟩⟩)
       rw[c15,qcE]at j253;obtain⟨x16,g17,j253⟩:=bind_some j253;obtain⟨x18,g19,j253⟩:=bind_some j253;try simp only[rnA,Nat.reduceEqDiff,Nat.reduceLT,zai (n:=1) (e:=(eI .i64)) rfl g17,zbh g19,(show x16<((l1.length:Nat):Int)from zbg g19),zaC g19 ((eI .i64).c true)]
       exact⟨((w64 (v8+x18)),(w64 (v9+1))),j253,by rw[hT254]; exact wm0 [.k,.k,.k] ⟨MB.cs ⟨qcD,qcD,qcD⟩,⟨MB.gs (eI .i64) true l1,⟨MB.cs ⟨qcD,qcD,qcD,qcD,qcD,qcD⟩,qcD⟩⟩⟩⟩
      rintro v8 rfl;rw[congrFun hT253 v8];refine zab ?_;try simp only[rnA,Nat.reduceEqDiff,Nat.reduceLT]
      cases c20:(decide (1<v8))
      .rw[c20,qcF]at j252;try simp only[rnA]
       replace j252:=qaa j252; subst j252;exact lfj hT252 rfl (wm0 [.k,.k] ⟨MB.cs ⟨qcD,qcD,qcD⟩,⟨MB.gs (eI .i64) true l1,qcD⟩⟩)
      rw[c20,qcE]at j252;try simp only[rnA,Nat.reduceLT]
      replace j252:=qaa j252; subst j252;dsimp only at j233;replace j233:=qaa j233; subst j233;dsimp only at j127;replace j127:=qaa j127; subst j127;dsimp only at h;replace h:=qaa h; subst h;exact zbT.ret rfl (.lit _)
     rw[c8,qcE]at j252;obtain⟨x21,g22,j252⟩:=bind_some j252;obtain⟨x23,g24,j252⟩:=bind_some j252;try simp only[rnA,Nat.reduceEqDiff,Nat.reduceLT,zai (n:=1) (e:=(eL (eI .i64))) rfl g22,zai (n:=1) (e:=(eI .i64)) rfl g24]
     cases c25:(x23 == x5.val)
     .rw[c25,qcF]at j252;try simp only[rnA]
      replace j252:=qaa j252; subst j252;exact lfj hT252 rfl (wm0 [.k,.k] ⟨MB.cs ⟨qcD,qcD,qcD⟩,⟨MB.gs (eI .i64) true l1,qcD⟩⟩)
     rw[c25,qcE]at j252;try simp only[rnA,Nat.reduceLT]
     replace j252:=qaa j252; subst j252;exact lfj hT252 rfl (wm0 [.k,.k] ⟨MB.cs ⟨qcD,qcD,qcD⟩,⟨MB.gs (eI .i64) true l1,qcD⟩⟩)
    rw[c7,qcE]at j252;try simp only[rnA,Nat.reduceEqDiff,Nat.reduceLT]
    replace j252:=qaa j252; subst j252;exact lfj hT252 rfl (wm0 [.k,.k] ⟨MB.cs ⟨qcD,qcD,qcD⟩,⟨MB.gs (eI .i64) true l1,qcD⟩⟩)
   rintro v8 rfl;dsimp only at j233;rw[congrFun hT252 v8];refine zab ?_;obtain⟨y26,g27,j233⟩:=bind_some j233;try simp only[rnA,Nat.reduceEqDiff,Nat.reduceLT,Nat.reduceAdd,Nat.reduceLeDiff,zcT g27,(show l1.length+1=y26.length from zcd g27),(show l1.map ((eI .i64).c true)++ [[(dI v8)]]=y26.map ((eI .i64).c true)from zc7 g27 ((eI .i64).c true))]
   exact⟨((w64 (v6+1)),y26),j233,by rw[hT249]; exact wm0 [.k,.k] ⟨MB.cs ⟨qcD,qcD,qcD⟩,⟨MB.gs (eI .i64) true y26,qcD⟩⟩⟩
  rintro⟨⟩ rfl;dsimp only at j127;rw[congrFun hT233 ()];refine zab ?_;try simp only[rnA,Nat.reduceEqDiff,Nat.reduceLT]
  exact⟨(w64 (v4+1)),j127,by rw[hT212]; exact wm0 [.k] ⟨MB.cs ⟨qcD,qcD,qcD⟩,qcD⟩⟩
 rintro⟨⟩ rfl;dsimp only at h;rw[congrFun hT127 ()];refine zab ?_;try simp only[rnA,Nat.reduceLT]
 replace h:=qaa h; subst h;exact zbT.ret rfl (.lit _)
def zaS(p0:S_haruspexref15_Draft):Nat->Int->(List Int)->Option (List Int)
 | 0,_,_=>none
 | n+1,v4,l3=>(
((bif (decide (v4<(p0.cards.length:Int)))then(
some (decide (v4<4)))
else(
some false):Option Bool)).bind λv22=>
bif v22 then(
(zaH p0.cards v4).bind λx3=>
(zeo 8 l3 [(w64 (1+(w64 (x3.tmod 3))))]).bind λy5=>
zaS p0 n (w64 (v4+1)) y5)
else(
some l3))
def zaU(b2_0:(List Int))(v5:Int):Nat->Int->(List S_api_Gate)->Option (List S_api_Gate)
 | 0,_,_=>none
 | n+1,v6,l3_'=>(
(zaH b2_0 v5).bind λx9=>
bif (decide (v6<x9))then(
(zeo 56 l3_' [(S_api_Gate.mk 2 v5 v6 0 [])]).bind λy12=>
zaU b2_0 v5 n (w64 (v6+1)) y12)
else(
some l3_'))
def zaN(b2_0:(List Int)):Nat->Int->(List S_api_Gate)->Option (List S_api_Gate)
 | 0,_,_=>none
 | n+1,v5,l3_=>(
bif (decide (v5<(b2_0.length:Int)))then(
((zaU b2_0 v5 (((zaH b2_0 v5).getD default) - 0+2:Int).toNat 0 l3_:Option (List S_api_Gate))).bind λl3_'=>
zaN b2_0 n (w64 (v5+1)) l3_')
else(
some l3_))
def zaD(p0:S_haruspexref15_Draft)(v7:Int):Nat->Int->(List S_api_Gate)->Option (List S_api_Gate)
 | 0,_,_=>none
 | n+1,v8,l3_'=>(
((bif (decide (v8<(p0.gates.length:Int)))then(
some (decide (v8<30)))
else(
some false):Option Bool)).bind λv78=>
bif v78 then(
(((zaH p0.gates v8).bind λx19=>
bif ((x19.a0.tmod 5)== 0)then(
(zeo 56 l3_' [(S_api_Gate.mk 1 0 0 (w64 ((w64 (x19.a1.tmod 8))* v7)) [])]).bind λy29=>
some y29)
else(
(zsA (w64 x19.a1) ((l3_'.length:Nat):Int)).bind λq22=>
(zsA (w64 x19.a2) ((l3_'.length:Nat):Int)).bind λq24=>
((bif (q22 == q24)then(
some [q22])
else(
some [(zgl q22 q24),(zxh q22 q24)]):Option (List Int))).bind λv13=>
(zeo 56 l3_' [(S_api_Gate.mk (w64 (3+(w64 (x19.a0.tmod 2)))) 0 0 0 v13)]).bind λy27=>
some y27):Option (List S_api_Gate))).bind λl3_''=>
zaD p0 v7 n (w64 (v8+1)) l3_'')
else(
some l3_'))
def zbb(N:Nat)(p0:S_haruspexref15_Draft):Option S_api_Circuit:=
((zaS p0 N 0 []:Option (List Int))).bind λl3=>
((bif (((l3.length:Nat):Int)== 0)then(
some [2])
else(
some l3):Option (List Int))).bind λb2_0=>
((zaN b2_0 ((b2_0.length:Int) - 0+2:Int).toNat 0 []:Option (List S_api_Gate))).bind λl3_=>
((bif p0.big then(
some (100000000000,true))
else(
some (1,false)):Option ((Int×Bool)))).bind λo=>match o with
|(v7,b0_2)=>(
((zaD p0 v7 N 0 l3_:Option (List S_api_Gate))).bind λl3_'=>
some (S_api_Circuit.mk b2_0 l3_'))
variable{p0:S_haruspexref15_Draft}{r:S_api_Circuit}
theorem zeO(h:zbb N p0=some r):Lx.Fn mC 17 [(.agg [(fzE false (eI .u8) p0.cards),(fzE false zaF p0.gates),(dB p0.big)])] (.agg [(fzE true (eI .i64) r.cards),(fzE true zaa r.gates)]):=by
 refine gnO ?_;unfold zbb at h;refine zab ?_;try simp only[rnA,Nat.reduceLT,Nat.reduceAdd]
 obtain⟨o5,j5,h⟩:=bind_some h;obtain⟨T5,hT5⟩:=mkT λa:(List Int)=>⟨140,[(1,(.ptr 0 0)),(2,(.ptr 1 0)),(3,(.ptr 2 0))],[.cells [(fzE false (eI .u8) p0.cards),(fzE false zaF p0.gates),(dB p0.big)],.cells [zcu,zcu],.cells [(.sl 3 0 1 a.length none a.length),zcu],.grow 1 (a.map ((eI .i64).c true))]⟩
 refine EvL.jn T5 (λa=>a=o5) ?_ ?_
 .refine zab ?_;simp only[rnA];obtain⟨T9,hT9⟩:=mkT λa:(Int×(List Int))=>⟨140,[(1,(.ptr 0 0)),(2,(.ptr 1 0)),(3,(.ptr 2 0)),(4,(dI a.1))],[.cells [(fzE false (eI .u8) p0.cards),(fzE false zaF p0.gates),(dB p0.big)],.cells [zcu,zcu],.cells [(.sl 3 0 1 a.2.length none a.2.length),zcu],.grow 1 (a.2.map ((eI .i64).c true))]⟩
  refine EvL.zpL (zbQ.zoe (n:=1) (β:=2) (o:=0) (by decide) rfl rfl) ?_;refine EvL.rounds (α:=(Int×(List Int))) T9 (λn a=>zaS p0 n a.1 a.2=some o5) N (0,[]) (by rw[hT9]; exact wm0 [.k,.k,.k,.k] ⟨MB.cs ⟨qcD,qcD,qcD,qcD⟩,⟨MB.cs ⟨qcD,qcD,qcD⟩,⟨MB.cs ⟨rfl,qcD,qcD⟩,⟨MB.gs (eI .i64) true [],qcD⟩⟩⟩⟩) j5 (λ_ h=>nomatch (show(none:Option (List Int))=some o5 from h)) ?_;rintro n ⟨v4,l3⟩ j5;simp only[zaS]at j5;rw[congrFun hT9 (v4,l3)];refine zab ?_;try simp only[rnA]
  obtain⟨o10,j10,j5⟩:=bind_some j5;obtain⟨T10,hT10⟩:=mkT λa:Bool=>⟨140,[(1,(.ptr 0 0)),(2,(.ptr 1 0)),(3,(.ptr 2 0)),(4,(dI v4)),(22,(dB a))],[.cells [(fzE false (eI .u8) p0.cards),(fzE false zaF p0.gates),(dB p0.big)],.cells [zcu,zcu],.cells [(.sl 3 0 1 l3.length none l3.length),zcu],.grow 1 (l3.map ((eI .i64).c true))]⟩
  refine EvL.jn T10 (λa=>a=o10) ?_ ?_
  .refine zab ?_;try simp only[rnA,Nat.reduceEqDiff,Nat.reduceLT,zaf]
   cases c1:(decide (v4<(p0.cards.length:Int)))
   .rw[c1,qcF]at j10;try simp only[rnA,Nat.reduceEqDiff,Nat.reduceLT]
    replace j10:=qaa j10; subst j10;exact lfj hT10 rfl (wm0 [.k,.k,.k,.k] ⟨MB.cs ⟨qcD,qcD,qcD,qcD⟩,⟨MB.cs ⟨qcD,qcD,qcD⟩,⟨MB.cs ⟨rfl,qcD,qcD⟩,⟨MB.gs (eI .i64) true l3,qcD⟩⟩⟩⟩)
   rw[c1,qcE]at j10;try simp only[rnA,Nat.reduceEqDiff,Nat.reduceLT]
   replace j10:=qaa j10; subst j10;exact lfj hT10 rfl (wm0 [.k,.k,.k,.k] ⟨MB.cs ⟨qcD,qcD,qcD,qcD⟩,⟨MB.cs ⟨qcD,qcD,qcD⟩,⟨MB.cs ⟨rfl,qcD,qcD⟩,⟨MB.gs (eI .i64) true l3,qcD⟩⟩⟩⟩)
  rintro v22 rfl;rw[congrFun hT10 v22];refine zab ?_;try simp only[rnA,Nat.reduceEqDiff]
  cases c2:v22
  .rw[c2,qcF]at j5;try simp only[rnA]
   replace j5:=qaa j5; subst j5;exact lfj hT5 rfl (wm0 [.k,.k,.k,.k] ⟨MB.cs ⟨qcD,qcD,qcD,qcD⟩,⟨MB.cs ⟨qcD,qcD,qcD⟩,⟨MB.cs ⟨rfl,qcD,qcD⟩,⟨MB.gs (eI .i64) true l3,qcD⟩⟩⟩⟩)
  rw[c2,qcE]at j5;obtain⟨x3,g4,j5⟩:=bind_some j5;obtain⟨y5,g6,j5⟩:=bind_some j5;try simp only[rnA,Nat.reduceEqDiff,Nat.reduceLT,Nat.reduceAdd,Nat.reduceLeDiff,Int.reduceBEq,zai (n:=1) (e:=(eI .u8)) rfl g4,zcT g6,(show l3.length+1=y5.length from zcd g6),(show l3.map ((eI .i64).c true)++ [[(dI (w64 (1+(w64 (x3.tmod 3)))))]]=y5.map ((eI .i64).c true)from zc7 g6 ((eI .i64).c true))]
  exact⟨((w64 (v4+1)),y5),j5,by rw[hT9]; exact wm0 [.k,.k,.k,.k] ⟨MB.cs ⟨qcD,qcD,qcD,qcD⟩,⟨MB.cs ⟨qcD,qcD,qcD⟩,⟨MB.cs ⟨rfl,qcD,qcD⟩,⟨MB.gs (eI .i64) true y5,qcD⟩⟩⟩⟩⟩
 rintro l3 rfl;rw[congrFun hT5 l3];refine zab ?_;try simp only[rnA,Nat.reduceEqDiff,Nat.reduceLT]
 obtain⟨o11,j11,h⟩:=bind_some h;obtain⟨T11,hT11⟩:=mkT λa:(List Int)=>⟨140,[(1,(.ptr 0 0)),(2,(.ptr 1 0)),(3,(.ptr 2 0))],[.cells [(fzE false (eI .u8) p0.cards),(fzE false zaF p0.gates),(dB p0.big)],.cells [zcu,zcu],.cells [(fzE true (eI .i64) a),zcu]]⟩
 refine EvL.jn T11 (λa=>a=o11) ?_ ?_
 .refine zab ?_;try simp only[rnA,Nat.reduceEqDiff]
  cases c7:(((l3.length:Nat):Int)== 0)
  .rw[c7,qcF]at j11;try simp only[rnA]
   replace j11:=qaa j11; subst j11;exact lfj hT11 rfl (wm0 [.k,.k,.k,.f] ⟨MB.cs ⟨qcD,qcD,qcD,qcD⟩,⟨MB.cs ⟨qcD,qcD,qcD⟩,⟨MB.ztG (.cons (.fr (zgV (e:=(eI .i64)) (t:=true) rfl rfl (.inr rfl) rfl rfl (λk h=>nomatch h) (λh=>by cases h<;>rfl))) (.cons (.same trivial) .nil)),qcD⟩⟩⟩)
  rw[c7,qcE]at j11;try simp only[rnA,Nat.reduceEqDiff,Nat.reduceLT,Nat.reduceAdd,Nat.reduceLeDiff]
  replace j11:=qaa j11; subst j11;exact lfj hT11 rfl (wm0 [.k,.k,.k,.d,.f] ⟨MB.cs ⟨qcD,qcD,qcD,qcD⟩,⟨MB.cs ⟨qcD,qcD,qcD⟩,⟨MB.ztG (.cons (.fr (zgV (e:=(eI .i64)) (t:=true) rfl rfl (.inl rfl) rfl rfl (λk h=>by cases h; exact qam _) (λh=>by cases h<;>rfl))) (.cons (.same trivial) .nil)),qcD⟩⟩⟩)
 rintro b2_0 rfl;rw[congrFun hT11 b2_0];refine zab ?_;try simp only[rnA,Nat.reduceLT]
 obtain⟨o20,j20,h⟩:=bind_some h;obtain⟨T20,hT20⟩:=mkT λa:(List S_api_Gate)=>⟨140,[(1,(.ptr 0 0)),(2,(.ptr 1 0)),(3,(.ptr 2 0))],[.cells [(fzE false (eI .u8) p0.cards),(fzE false zaF p0.gates),(dB p0.big)],.cells [zcu,zcu],.cells [(fzE true (eI .i64) b2_0),(.sl 3 0 5 a.length none a.length)],.grow 5 (a.map (zaa.c true))]⟩
 refine EvL.jn T20 (λa=>a=o20) ?_ ?_
 .refine zab ?_;simp only[rnA];obtain⟨T27,hT27⟩:=mkT λa:(Int×(List S_api_Gate))=>⟨140,[(1,(.ptr 0 0)),(2,(.ptr 1 0)),(3,(.ptr 2 0)),(5,(dI a.1))],[.cells [(fzE false (eI .u8) p0.cards),(fzE false zaF p0.gates),(dB p0.big)],.cells [zcu,zcu],.cells [(fzE true (eI .i64) b2_0),(.sl 3 0 5 a.2.length none a.2.length)],.grow 5 (a.2.map (zaa.c true))]⟩
  refine EvL.zpL (zbQ.zoe (n:=5) (β:=2) (o:=1) (by decide) rfl rfl) ?_;refine EvL.rounds (α:=(Int×(List S_api_Gate))) T27 (λn a=>zaN b2_0 n a.1 a.2=some o20) ((b2_0.length:Int) - 0+2:Int).toNat (0,[]) (by rw[hT27]; exact wm0 [.k,.k,.k,.k] ⟨MB.cs ⟨qcD,qcD,qcD,qcD⟩,⟨MB.cs ⟨qcD,qcD,qcD⟩,⟨MB.cs ⟨qcD,rfl,qcD⟩,⟨MB.gs zaa true [],qcD⟩⟩⟩⟩) j20 (λ_ h=>nomatch (show(none:Option (List S_api_Gate))=some o20 from h)) ?_;rintro n ⟨v5,l3_⟩ j20;simp only[zaN]at j20;rw[congrFun hT27 (v5,l3_)];refine zab ?_;try simp only[rnA,Nat.reduceEqDiff,Nat.reduceLT,zaf]
  cases c8:(decide (v5<(b2_0.length:Int)))
  .rw[c8,qcF]at j20;try simp only[rnA]
   replace j20:=qaa j20; subst j20;exact lfj hT20 rfl (wm0 [.k,.k,.k,.k] ⟨MB.cs ⟨qcD,qcD,qcD,qcD⟩,⟨MB.cs ⟨qcD,qcD,qcD⟩,⟨MB.cs ⟨qcD,rfl,qcD⟩,⟨MB.gs zaa true l3_,qcD⟩⟩⟩⟩)
  rw[c8,qcE]at j20;try simp only[rnA,Nat.reduceLT]
  obtain⟨o28,j28,j20⟩:=bind_some j20;obtain⟨T28,hT28⟩:=mkT λa:(List S_api_Gate)=>⟨140,[(1,(.ptr 0 0)),(2,(.ptr 1 0)),(3,(.ptr 2 0)),(5,(dI v5))],[.cells [(fzE false (eI .u8) p0.cards),(fzE false zaF p0.gates),(dB p0.big)],.cells [zcu,zcu],.cells [(fzE true (eI .i64) b2_0),(.sl 3 0 5 a.length none a.length)],.grow 5 (a.map (zaa.c true))]⟩
  refine EvL.jn T28 (λa=>a=o28) ?_ ?_
  .refine zab ?_;simp only[rnA];obtain⟨T29,hT29⟩:=mkT λa:(Int×(List S_api_Gate))=>⟨140,[(1,(.ptr 0 0)),(2,(.ptr 1 0)),(3,(.ptr 2 0)),(5,(dI v5)),(6,(dI a.1))],[.cells [(fzE false (eI .u8) p0.cards),(fzE false zaF p0.gates),(dB p0.big)],.cells [zcu,zcu],.cells [(fzE true (eI .i64) b2_0),(.sl 3 0 5 a.2.length none a.2.length)],.grow 5 (a.2.map (zaa.c true))]⟩
   refine EvL.rounds (α:=(Int×(List S_api_Gate))) T29 (λn a=>zaU b2_0 v5 n a.1 a.2=some o28) (((zaH b2_0 v5).getD default) - 0+2:Int).toNat (0,l3_) (by rw[hT29]; exact wm0 [.k,.k,.k,.k] ⟨MB.cs ⟨qcD,qcD,qcD,qcD⟩,⟨MB.cs ⟨qcD,qcD,qcD⟩,⟨MB.cs ⟨qcD,rfl,qcD⟩,⟨MB.gs zaa true l3_,qcD⟩⟩⟩⟩) j28 (λ_ h=>nomatch (show(none:Option (List S_api_Gate))=some o28 from h)) ?_;rintro n ⟨v6,l3_'⟩ j28;simp only[zaU]at j28;rw[congrFun hT29 (v6,l3_')];refine zab ?_;obtain⟨x9,g10,j28⟩:=bind_some j28;try simp only[rnA,Nat.reduceEqDiff,Nat.reduceLT,zai (n:=1) (e:=(eI .i64)) rfl g10]
   cases c11:(decide (v6<x9))
   .rw[c11,qcF]at j28;try simp only[rnA,Nat.reduceEqDiff,Nat.reduceLT]
    replace j28:=qaa j28; subst j28;exact lfj hT28 rfl (wm0 [.k,.k,.k,.k] ⟨MB.cs ⟨qcD,qcD,qcD,qcD⟩,⟨MB.cs ⟨qcD,qcD,qcD⟩,⟨MB.cs ⟨qcD,rfl,qcD⟩,⟨MB.gs zaa true l3_',qcD⟩⟩⟩⟩)
   rw[c11,qcE]at j28;obtain⟨y12,g13,j28⟩:=bind_some j28;try simp only[rnA,Nat.reduceEqDiff,Nat.reduceLT,Nat.reduceAdd,Nat.reduceLeDiff,zcT g13,(show l3_'.length+1=y12.length from zcd g13)]
   exact⟨((w64 (v6+1)),y12),j28,by rw[hT29]; exact wm0 [.k,.k,.k,.k] ⟨MB.cs ⟨qcD,qcD,qcD,qcD⟩,⟨MB.cs ⟨qcD,qcD,qcD⟩,⟨MB.cs ⟨qcD,rfl,qcD⟩,⟨MB.zpx (zpa (e:=zaa) (t:=true) g13 (.cons (.cons (.same trivial) (.cons (.same trivial) (.cons (.same trivial) (.cons (.same trivial) (.cons (.fr (zoA (eI .i64))) .nil))))) .nil)),qcD⟩⟩⟩⟩⟩
  rintro l3_' rfl;rw[congrFun hT28 l3_'];refine zab ?_;try simp only[rnA,Nat.reduceEqDiff,Nat.reduceLT]
  exact⟨((w64 (v5+1)),l3_'),j20,by rw[hT27]; exact wm0 [.k,.k,.k,.k] ⟨MB.cs ⟨qcD,qcD,qcD,qcD⟩,⟨MB.cs ⟨qcD,qcD,qcD⟩,⟨MB.cs ⟨qcD,rfl,qcD⟩,⟨MB.gs zaa true l3_',qcD⟩⟩⟩⟩⟩
 rintro l3_ rfl;rw[congrFun hT20 l3_];refine zab ?_;try simp only[rnA,Nat.reduceEqDiff,Nat.reduceLT]
 obtain⟨o30,j30,h⟩:=bind_some h;obtain⟨T30,hT30⟩:=mkT λa:(Int×Bool)=>⟨140,[(1,(.ptr 0 0)),(2,(.ptr 1 0)),(3,(.ptr 2 0)),(7,(dI a.1))],[.cells [(fzE false (eI .u8) p0.cards),(fzE false zaF p0.gates),(dB a.2)],.cells [zcu,zcu],.cells [(fzE true (eI .i64) b2_0),(.sl 3 0 5 l3_.length none l3_.length)],.grow 5 (l3_.map (zaa.c true))]⟩
 refine EvL.jn T30 (λa=>a=o30) ?_ ?_
 .refine zab ?_;try simp only[rnA,Nat.reduceEqDiff]
  cases c16:p0.big
  .rw[c16,qcF]at j30;try simp only[rnA]
   replace j30:=qaa j30; subst j30;exact lfj hT30 rfl (wm0 [.k,.k,.k,.k] ⟨MB.cs ⟨qcD,qcD,qcD,qcD⟩,⟨MB.cs ⟨qcD,qcD,qcD⟩,⟨MB.cs ⟨qcD,rfl,qcD⟩,⟨MB.gs zaa true l3_,qcD⟩⟩⟩⟩)
  rw[c16,qcE]at j30;try simp only[rnA,Nat.reduceLT]
  replace j30:=qaa j30; subst j30;exact lfj hT30 rfl (wm0 [.k,.k,.k,.k] ⟨MB.cs ⟨qcD,qcD,qcD,qcD⟩,⟨MB.cs ⟨qcD,qcD,qcD⟩,⟨MB.cs ⟨qcD,rfl,qcD⟩,⟨MB.gs zaa true l3_,qcD⟩⟩⟩⟩)
 rintro⟨v7,b0_2⟩ rfl;dsimp only at h;rw[congrFun hT30 (v7,b0_2)];refine zab ?_;try simp only[rnA,Nat.reduceLT]
 obtain⟨o43,j43,h⟩:=bind_some h;obtain⟨T43,hT43⟩:=mkT λa:(List S_api_Gate)=>⟨140,[(2,(.ptr 1 0)),(3,(.ptr 2 0))],[.gone,.cells [zcu,zcu],.cells [(fzE true (eI .i64) b2_0),(.sl 3 0 5 a.length none a.length)],.grow 5 (a.map (zaa.c true))]⟩
 refine EvL.jn T43 (λa=>a=o43) ?_ ?_
 .refine zab ?_;simp only[rnA];obtain⟨T52,hT52⟩:=mkT λa:(Int×(List S_api_Gate))=>⟨140,[(1,(.ptr 0 0)),(2,(.ptr 1 0)),(3,(.ptr 2 0)),(7,(dI v7)),(8,(dI a.1))],[.cells [(fzE false (eI .u8) p0.cards),(fzE false zaF p0.gates),(dB b0_2)],.cells [zcu,zcu],.cells [(fzE true (eI .i64) b2_0),(.sl 3 0 5 a.2.length none a.2.length)],.grow 5 (a.2.map (zaa.c true))]⟩
  refine EvL.rounds (α:=(Int×(List S_api_Gate))) T52 (λn a=>zaD p0 v7 n a.1 a.2=some o43) N (0,l3_) (by rw[hT52]; exact wm0 [.k,.k,.k,.k] ⟨MB.cs ⟨qcD,qcD,qcD,qcD⟩,⟨MB.cs ⟨qcD,qcD,qcD⟩,⟨MB.cs ⟨qcD,rfl,qcD⟩,⟨MB.gs zaa true l3_,qcD⟩⟩⟩⟩) j43 (λ_ h=>nomatch (show(none:Option (List S_api_Gate))=some o43 from h)) ?_;rintro n ⟨v8,l3_'⟩ j43;simp only[zaD]at j43;rw[congrFun hT52 (v8,l3_')];refine zab ?_;try simp only[rnA]
  obtain⟨o53,j53,j43⟩:=bind_some j43;obtain⟨T53,hT53⟩:=mkT λa:Bool=>⟨140,[(1,(.ptr 0 0)),(2,(.ptr 1 0)),(3,(.ptr 2 0)),(7,(dI v7)),(8,(dI v8)),(78,(dB a))],[.cells [(fzE false (eI .u8) p0.cards),(fzE false zaF p0.gates),(dB b0_2)],.cells [zcu,zcu],.cells [(fzE true (eI .i64) b2_0),(.sl 3 0 5 l3_'.length none l3_'.length)],.grow 5 (l3_'.map (zaa.c true))]⟩
  refine EvL.jn T53 (λa=>a=o53) ?_ ?_
  .refine zab ?_;try simp only[rnA,Nat.reduceEqDiff,Nat.reduceLT,zaf]
   cases c17:(decide (v8<(p0.gates.length:Int)))
   .rw[c17,qcF]at j53;try simp only[rnA,Nat.reduceEqDiff,Nat.reduceLT]
    replace j53:=qaa j53; subst j53;exact lfj hT53 rfl (wm0 [.k,.k,.k,.k] ⟨MB.cs ⟨qcD,qcD,qcD,qcD⟩,⟨MB.cs ⟨qcD,qcD,qcD⟩,⟨MB.cs ⟨qcD,rfl,qcD⟩,⟨MB.gs zaa true l3_',qcD⟩⟩⟩⟩)
   rw[c17,qcE]at j53;try simp only[rnA,Nat.reduceEqDiff,Nat.reduceLT]
   replace j53:=qaa j53; subst j53;exact lfj hT53 rfl (wm0 [.k,.k,.k,.k] ⟨MB.cs ⟨qcD,qcD,qcD,qcD⟩,⟨MB.cs ⟨qcD,qcD,qcD⟩,⟨MB.cs ⟨qcD,rfl,qcD⟩,⟨MB.gs zaa true l3_',qcD⟩⟩⟩⟩)
  rintro v78 rfl;rw[congrFun hT53 v78];refine zab ?_;try simp only[rnA,Nat.reduceEqDiff]
  cases c18:v78
  .rw[c18,qcF]at j43;try simp only[rnA]
   replace j43:=qaa j43; subst j43;exact lfj hT43 rfl (wm0 [.d,.k,.k,.k] ⟨rfl,⟨MB.cs ⟨qcD,qcD,qcD⟩,⟨MB.cs ⟨qcD,rfl,qcD⟩,⟨MB.gs zaa true l3_',qcD⟩⟩⟩⟩)
  rw[c18,qcE]at j43;try simp only[rnA]
  obtain⟨o55,j55,j43⟩:=bind_some j43;obtain⟨T55,hT55⟩:=mkT λa:(List S_api_Gate)=>⟨140,[(1,(.ptr 0 0)),(2,(.ptr 1 0)),(3,(.ptr 2 0)),(7,(dI v7)),(8,(dI v8))],[.cells [(fzE false (eI .u8) p0.cards),(fzE false zaF p0.gates),(dB b0_2)],.cells [zcu,zcu],.cells [(fzE true (eI .i64) b2_0),(.sl 3 0 5 a.length none a.length)],.grow 5 (a.map (zaa.c true))]⟩
  refine EvL.jn T55 (λa=>a=o55) ?_ ?_
  .refine zab ?_;obtain⟨x19,g20,j55⟩:=bind_some j55;try simp only[rnA,Nat.reduceEqDiff,Nat.reduceLT,Nat.reduceAdd,Nat.reduceLeDiff,Int.reduceLE,Int.reduceLT,Int.reduceBEq,zeZ,zai (n:=4) (e:=zaF) rfl g20,Int.reduceToNat,qb3,qbI]
   cases c21:((x19.a0.tmod 5)== 0)
   .rw[c21,qcF]at j55;obtain⟨q22,g23,j55⟩:=bind_some j55;obtain⟨q24,g25,j55⟩:=bind_some j55;try simp only[rnA,Nat.reduceEqDiff,Nat.reduceLT,Nat.reduceAdd,Nat.reduceMul,Int.reduceLE,Int.reduceLT,Int.reduceToNat,qb3,qcr,zo9 g23,zn3 g23,zn3 g25]
    obtain⟨o56,j56,j55⟩:=bind_some j55;obtain⟨T56,hT56⟩:=mkT λa:(List Int)=>⟨140,[(1,(.ptr 0 0)),(2,(.ptr 1 0)),(3,(.ptr 2 0)),(7,(dI v7)),(8,(dI v8)),(9,(.ptr 4 0)),(13,(fzE true (eI .i64) a))],[.cells [(fzE false (eI .u8) p0.cards),(fzE false zaF p0.gates),(dB b0_2)],.cells [zcu,zcu],.cells [(fzE true (eI .i64) b2_0),(.sl 3 0 5 l3_'.length none l3_'.length)],.grow 5 (l3_'.map (zaa.c true)),.cells [(dU8 x19.a0),(dU8 x19.a1),(dU8 x19.a2),(dU8 x19.a3)]]⟩
    refine EvL.jn T56 (λa=>a=o56) ?_ ?_
    .refine zab ?_;try simp only[rnA,Nat.reduceEqDiff]
     cases c26:(q22 == q24)
     .rw[c26,qcF]at j56;try simp only[rnA]
      replace j56:=qaa j56; subst j56;exact lfj hT56 rfl (zbQ.m0 [.k,.k,.k,.k,.k,.f] rfl (msq (msq (msq (msq (msq (msq (mf rfl (zgV (e:=(eI .i64)) (t:=true) rfl rfl (.inl rfl) rfl rfl (λk h=>by cases h; exact qam _) (λh=>by cases h<;>rfl)) trivial))))))) ⟨MB.cs ⟨qcD,qcD,qcD,qcD⟩,⟨MB.cs ⟨qcD,qcD,qcD⟩,⟨MB.cs ⟨qcD,rfl,qcD⟩,⟨MB.gs zaa true l3_',⟨MB.cs ⟨qcD,qcD,qcD,qcD,qcD⟩,qcD⟩⟩⟩⟩⟩)
     rw[c26,qcE]at j56;try simp only[rnA,Nat.reduceEqDiff,Nat.reduceLT,Nat.reduceAdd]
     replace j56:=qaa j56; subst j56;exact lfj hT56 rfl (zbQ.m0 [.k,.k,.k,.k,.k,.d,.f] rfl (msq (msq (msq (msq (msq (msq (mf rfl (zgV (e:=(eI .i64)) (t:=true) rfl rfl (.inl rfl) rfl rfl (λk h=>by cases h; exact qam _) (λh=>by cases h<;>rfl)) trivial))))))) ⟨MB.cs ⟨qcD,qcD,qcD,qcD⟩,⟨MB.cs ⟨qcD,qcD,qcD⟩,⟨MB.cs ⟨qcD,rfl,qcD⟩,⟨MB.gs zaa true l3_',⟨MB.cs ⟨qcD,qcD,qcD,qcD,qcD⟩,qcD⟩⟩⟩⟩⟩)
    rintro v13 rfl;rw[congrFun hT56 v13];refine zab ?_;obtain⟨y27,g28,j55⟩:=bind_some j55;try simp only[rnA,Nat.reduceEqDiff,Nat.reduceLT,Nat.reduceAdd,Nat.reduceLeDiff,Int.reduceLE,Int.reduceLT,Int.reduceBEq,Int.reduceToNat,qb3,qbI,zcT g28,(show l3_'.length+1=y27.length from zcd g28),(show l3_'.map (zaa.c true)++ [[(dI (w64 (3+(w64 (x19.a0.tmod 2))))),(dI 0),(dI 0),(dI 0),(fzE true (eI .i64) v13)]]=y27.map (zaa.c true)from zc7 g28 (zaa.c true))]
    replace j55:=qaa j55; subst j55;exact lfj hT55 rfl (wm0 [.k,.k,.k,.k] ⟨MB.cs ⟨qcD,qcD,qcD,qcD⟩,⟨MB.cs ⟨qcD,qcD,qcD⟩,⟨MB.cs ⟨qcD,rfl,qcD⟩,⟨MB.gs zaa true y27,qcD⟩⟩⟩⟩)
   rw[c21,qcE]at j55;obtain⟨y29,g30,j55⟩:=bind_some j55;try simp only[rnA,Nat.reduceEqDiff,Nat.reduceLT,Nat.reduceAdd,Nat.reduceLeDiff,Int.reduceLE,Int.reduceLT,Int.reduceBEq,Int.reduceToNat,qb3,qcr,zcT g30,(show l3_'.length+1=y29.length from zcd g30)]
   replace j55:=qaa j55; subst j55;exact lfj hT55 rfl (wm0 [.k,.k,.k,.k] ⟨MB.cs ⟨qcD,qcD,qcD,qcD⟩,⟨MB.cs ⟨qcD,qcD,qcD⟩,⟨MB.cs ⟨qcD,rfl,qcD⟩,⟨MB.zpx (zpa (e:=zaa) (t:=true) g30 (.cons (.cons (.same trivial) (.cons (.same trivial) (.cons (.same trivial) (.cons (.same trivial) (.cons (.fr (zoA (eI .i64))) .nil))))) .nil)),qcD⟩⟩⟩⟩)
  rintro l3_'' rfl;rw[congrFun hT55 l3_''];refine zab ?_;try simp only[rnA,Nat.reduceEqDiff,Nat.reduceLT]
  exact⟨((w64 (v8+1)),l3_''),j43,by rw[hT52]; exact wm0 [.k,.k,.k,.k] ⟨MB.cs ⟨qcD,qcD,qcD,qcD⟩,⟨MB.cs ⟨qcD,qcD,qcD⟩,⟨MB.cs ⟨qcD,rfl,qcD⟩,⟨MB.gs zaa true l3_'',qcD⟩⟩⟩⟩⟩
 rintro l3_' rfl;rw[congrFun hT43 l3_'];refine zab ?_;try simp only[rnA,Nat.reduceEqDiff,Nat.reduceLT,Nat.reduceAdd,Nat.reduceLeDiff]
 replace h:=qaa h; subst h;exact zbT.ret rfl (.zdp (.cons (zah _ _ (λ_=>rfl)) (.cons (zaz (e:=zaa) (t:=true) rfl (.inr rfl) rfl rfl (λk h=>nomatch h) (λ_=>rfl)) .nil)))
def zcF(y3:(List S_api_Gate)):Nat->Int->(List S_api_Gate)->Option (List S_api_Gate)
 | 0,_,_=>none
 | n+1,v22,l3=>(
bif (decide (v22<(y3.length:Int)))then(
(zaH y3 v22).bind λx6=>
(zfF x6.args 0 (zgl (x6.args.length:Int) 10)).bind λy8=>
(zeo 56 l3 [(S_api_Gate.mk x6.kind x6.var x6.val x6.n y8)]).bind λy10=>
zcF y3 n (w64 (v22+1)) y10)
else(
some l3))
def zeh(p0:S_api_Circuit):Option S_api_Circuit:=
(zfF p0.cards 0 (zgl (p0.cards.length:Int) 10)).bind λy1=>
(zfF p0.gates 0 (zgl (p0.gates.length:Int) 40)).bind λy3=>
((zcF y3 ((y3.length:Int) - 0+2:Int).toNat 0 []:Option (List S_api_Gate))).bind λl3=>
some (S_api_Circuit.mk y1 l3)
theorem zm6{p0:S_api_Circuit}(h:zeh p0=some r):Lx.FnA mC 51 [(.agg [(fzE false (eI .i64) p0.cards),(fzE false zaa p0.gates)])] (.agg [(fzE false (eI .i64) r.cards),(fzE false zaa r.gates)]):=by
 refine zwt ?_;unfold zeh at h;refine zab ?_;obtain⟨y1,g2,h⟩:=bind_some h;obtain⟨y3,g4,h⟩:=bind_some h;try simp only[rnA,Nat.reduceEqDiff,Nat.reduceLT,Nat.reduceAdd,Nat.reduceLeDiff,reduceCtorEq,zaf,zod (n:=1) (e:=(eI .i64)) rfl g2,zod (n:=5) (e:=zaa) rfl g4]
 obtain⟨o1,j1,h⟩:=bind_some h;obtain⟨T1,hT1⟩:=mkT λa:(List S_api_Gate)=>⟨42,[(2,(.ptr 1 0)),(3,(.ptr 2 0))],[.gone,.cells [zcu,zcu],.cells [(fzE false (eI .i64) y1),(.sl 3 0 5 a.length none a.length)],.grow 5 (a.map (zaa.c false))]⟩
 refine EvL.jn T1 (λa=>a=o1) ?_ ?_
 .refine zab ?_;simp only[rnA];obtain⟨T2,hT2⟩:=mkT λa:(Int×(List S_api_Gate))=>⟨42,[(2,(.ptr 1 0)),(3,(.ptr 2 0)),(20,(fzE false zaa y3)),(21,(dI (y3.length:Int))),(22,(dI a.1))],[.gone,.cells [zcu,zcu],.cells [(fzE false (eI .i64) y1),(.sl 3 0 5 a.2.length none a.2.length)],.grow 5 (a.2.map (zaa.c false))]⟩
  refine EvL.zpL (zbQ.zoe (n:=5) (β:=2) (o:=1) (by decide) rfl rfl) ?_;refine EvL.rounds (α:=(Int×(List S_api_Gate))) T2 (λn a=>zcF y3 n a.1 a.2=some o1) ((y3.length:Int) - 0+2:Int).toNat (0,[]) (by rw[hT2]; exact wm0 [.d,.k,.k,.k] ⟨rfl,⟨MB.cs ⟨qcD,qcD,qcD⟩,⟨MB.cs ⟨qcD,rfl,qcD⟩,⟨MB.gs zaa false [],qcD⟩⟩⟩⟩) j1 (λ_ h=>nomatch (show(none:Option (List S_api_Gate))=some o1 from h)) ?_;rintro n ⟨v22,l3⟩ j1;simp only[zcF]at j1;rw[congrFun hT2 (v22,l3)];refine zab ?_;try simp only[rnA,Nat.reduceEqDiff,Nat.reduceLT]
  cases c5:(decide (v22<(y3.length:Int)))
  .rw[c5,qcF]at j1;try simp only[rnA]
   replace j1:=qaa j1; subst j1;exact lfj hT1 rfl (wm0 [.d,.k,.k,.k] ⟨rfl,⟨MB.cs ⟨qcD,qcD,qcD⟩,⟨MB.cs ⟨qcD,rfl,qcD⟩,⟨MB.gs zaa false l3,qcD⟩⟩⟩⟩)
  rw[c5,qcE]at j1;obtain⟨x6,g7,j1⟩:=bind_some j1;obtain⟨y8,g9,j1⟩:=bind_some j1;obtain⟨y10,g11,j1⟩:=bind_some j1;try simp only[rnA,Nat.reduceEqDiff,Nat.reduceLT,Nat.reduceAdd,Nat.reduceLeDiff,zal,zai (n:=5) (e:=zaa) rfl g7,zaf,zod (n:=1) (e:=(eI .i64)) rfl g9,zcT g11,(show l3.length+1=y10.length from zcd g11),(show l3.map (zaa.c false)++ [[(dI x6.kind),(dI x6.var),(dI x6.val),(dI x6.n),(fzE false (eI .i64) y8)]]=y10.map (zaa.c false)from zc7 g11 (zaa.c false))]
  exact⟨((w64 (v22+1)),y10),j1,by rw[hT2]; exact wm0 [.d,.k,.k,.k] ⟨rfl,⟨MB.cs ⟨qcD,qcD,qcD⟩,⟨MB.cs ⟨qcD,rfl,qcD⟩,⟨MB.gs zaa false y10,qcD⟩⟩⟩⟩⟩
 rintro l3 rfl;rw[congrFun hT1 l3];refine zab ?_;try simp only[rnA,Nat.reduceEqDiff,Nat.reduceLT,Nat.reduceAdd,Nat.reduceLeDiff]
 replace h:=qaa h; subst h;exact zqs.ret rfl (.zdp (.cons (zah _ _ (λh=>nomatch h)) (.cons (zaz (e:=zaa) (t:=false) rfl (.inr rfl) rfl rfl (λk h=>nomatch h) (λh=>nomatch h)) .nil)))
def zcb(N:Nat)(p0:S_haruspexref15_Draft)(p1:A2_S_haruspexref15_Bend)(p2:S_api_Circuit):Option A4_S_api_Circuit:=
(zbb N p0).bind λr1=>
(zeX p1.a0 r1).bind λr3=>
(zeX p1.a0 r1).bind λr5=>
(zeX p1.a1 r5).bind λr7=>
(zeh p2).bind λr9=>
some (A4_S_api_Circuit.mk r1 r3 r7 r9)
def zeS:C:=
 .seq (rg [oW 3 0,
 oW 4 1,
 oW 5 2,
 ⟨some 6,.alloc [(.slice none 0 0),(.slice none 0 0),(.slice none 0 0),(.slice none 0 0),(.slice none 0 0),(.slice none 0 0),(.slice none 0 0),(.slice none 0 0)],none⟩])
 (.seq (rg [oN 8 3 3,
 oU 9 17 8,
 ⟨some 7,.alloc [(.slice none 0 0),(.slice none 0 0)],none⟩,
 oS 2 7 9])
 (.seq (.reg true true [oN 10 2 7,
 ⟨some 11,.idxA 3 2 (.s 4) (.c (.int .i64 0)),none⟩,
 oN 12 3 11,
 oN 13 2 7,
 ⟨some 15,.idxA 3 2 (.s 4) (.c (.int .i64 1)),none⟩,
 oN 16 3 15,
 ⟨some 17,.idxA 3 2 (.s 4) (.c (.int .i64 0)),none⟩,
 oN 18 3 17,
 oN 19 2 7,
 oN 22 2 5,
 oV 14 50 12 13,
 oV 20 50 18 19,
 oV 21 50 16 20,
 oU 23 51 22,
 ⟨some 24,.build [(.slice none 0 0),(.slice none 0 0),(.slice none 0 0),(.slice none 0 0),(.slice none 0 0),(.slice none 0 0),(.slice none 0 0),(.slice none 0 0)] [(0,2,(.s 10)),(2,2,(.s 14)),(4,2,(.s 21)),(6,2,(.s 23))],none⟩,
 oS 8 6 24])
 (.ret)))
theorem zgj:znz mC 9=some (25,zeS,[.cell 6 (some 8)],false):=zea (by kernel_rfl)
variable{p1:A2_S_haruspexref15_Bend}{p2:S_api_Circuit}
theorem zgw{r:A4_S_api_Circuit}(h:zcb N p0 p1 p2=some r):Lx.FnA mC 9 [(.agg [(fzE false (eI .u8) p0.cards),(fzE false zaF p0.gates),(dB p0.big)]),(.agg [(dU8 p1.a0.what),(dU8 p1.a0.at_),(dI p1.a0.n),(dU8 p1.a1.what),(dU8 p1.a1.at_),(dI p1.a1.n)]),(.agg [(fzE false (eI .i64) p2.cards),(fzE false zaa p2.gates)])] (.agg [(fzE false (eI .i64) r.a0.cards),(fzE false zaa r.a0.gates),(fzE false (eI .i64) r.a1.cards),(fzE false zaa r.a1.gates),(fzE false (eI .i64) r.a2.cards),(fzE false zaa r.a2.gates),(fzE false (eI .i64) r.a3.cards),(fzE false zaa r.a3.gates)]):=by
 refine FnA.of zgj (zdc rfl) (qai rfl) ?_;unfold zcb at h;simp only[zeS,zvq];refine zab ?_;obtain⟨r1,g2,h⟩:=bind_some h;try simp only[rnA,Nat.reduceEqDiff,Nat.reduceLT,Nat.reduceAdd,Nat.reduceLeDiff,reduceCtorEq]
 refine EvL.fn (zeO g2) rfl rfl (.cons (.zdp (.cons (zah _ _ (λh=>nomatch h)) (.cons (zah _ _ (λh=>nomatch h)) (.cons (.lit _) .nil)))) .nil) ?_;obtain⟨r3,g4,h⟩:=bind_some h;try simp only[rnA,Nat.reduceEqDiff,Nat.reduceLT,Nat.reduceAdd,Nat.reduceLeDiff,Int.reduceLE,Int.reduceLT,reduceCtorEq,Int.reduceToNat,qb3,qbI,qcr]
 refine EvL.fn (zi4 g4) rfl rfl (.cons (.zdp (.cons (.lit _) (.cons (.lit _) (.cons (.lit _) .nil)))) (.cons (.zdp (.cons (zah _ _ (λh=>nomatch h)) (.cons (zah _ _ (λh=>nomatch h)) .nil))) .nil)) ?_;obtain⟨r5,g6,h⟩:=bind_some h;try simp only[rnA,Nat.reduceLT]
 refine EvL.fn (zi4 g6) rfl rfl (.cons (.zdp (.cons (.lit _) (.cons (.lit _) (.cons (.lit _) .nil)))) (.cons (.zdp (.cons (zah _ _ (λh=>nomatch h)) (.cons (zah _ _ (λh=>nomatch h)) .nil))) .nil)) ?_;obtain⟨r7,g8,h⟩:=bind_some h;try simp only[rnA,Nat.reduceLT]
 refine EvL.fn (zi4 g8) rfl rfl (.cons (.zdp (.cons (.lit _) (.cons (.lit _) (.cons (.lit _) .nil)))) (.cons (.zdp (.cons (zah _ _ (λh=>nomatch h)) (.cons (zah _ _ (λh=>nomatch h)) .nil))) .nil)) ?_;obtain⟨r9,g10,h⟩:=bind_some h;try simp only[rnA,Nat.reduceLT]
 refine EvL.fnS (zm6 g10) rfl rfl (.cons (Mzs.agg (.cons (zfP _ _ (λh=>by cases h<;>contradiction)) (.cons (zfP _ _ (λh=>by cases h<;>contradiction)) .nil))) .nil) ⟨⟨(zcr _ _),(zcr _ _),qcD⟩,qcD⟩ ⟨(zcr _ _),(zcr _ _),qcD⟩ ?_;try simp only[rnA,Nat.reduceEqDiff,Nat.reduceLT,Nat.reduceAdd,Nat.reduceLeDiff,reduceCtorEq]
 replace h:=qaa h; subst h;exact zqs.ret rfl (.zdp (.cons (zah _ _ (λh=>nomatch h)) (.cons (zah _ _ (λh=>nomatch h)) (.cons (zah _ _ (λh=>nomatch h)) (.cons (zah _ _ (λh=>nomatch h)) (.cons (zah _ _ (λh=>nomatch h)) (.cons (zah _ _ (λh=>nomatch h)) (.cons (zah _ _ (λh=>nomatch h)) (.cons (zah _ _ (λh=>nomatch h)) .nil)))))))))
def zaT(x7:S_api_Circuit):Nat->Int->Int->Option Int
 | 0,_,_=>none
 | n+1,v18,v85=>(
bif (decide (v85<(x7.gates.length:Int)))then(
(zaH x7.gates v85).bind λx31=>
zaT x7 n (w64 (v18+(x31.args.length:Int))) (w64 (v85+1)))
else(
some v18))
def zav(N:Nat)(r4:A4_S_api_Circuit):Nat->Int->Option (Out Unit Bool)
 | 0,_=>none
 | n+1,v27=>(
bif (decide (v27<4))then(
(((zaH [r4.a0,r4.a1,r4.a2,r4.a3] v27).bind λx7=>
(zc2 x7).bind λr9=>
(za9 x7).bind λr11=>
(zbe x7).bind λr13=>
(zbn x7).bind λr15=>
((bif (r13.2.2.2 == r11)then(
bif (r15.2.2 == r11)then(
bif (r11 == 0)then(
bif r9 then(
some (true,false))
else(
some (false,true)))
else(
bif r9 then(
some (true,true))
else(
some (false,false))))
else(
some (r9,true)))
else(
some (r9,true)):Option ((Bool×Bool)))).bind λo=>match o with
|(v9,v60)=>(
bif v60 then(
some (.ret false))
else(
bif v9 then(
((zaT x7 ((x7.gates.length:Int) - 0+2:Int).toNat 0 0:Option Int)).bind λv18=>
(((zcN x7).bind λr33=>
bif r13.1 then(
bif r33 then(
(za5 x7).bind λr57=>
bif r13.2.1 then(
bif r57 then(
(zaA N x7).bind λr69=>
bif r13.2.2.1 then(
bif r69 then(
bif (r15.1 ==(x7.gates.length:Int))then(
some (!(r15.2.1 == v18)))
else(
some true))
else(
some true))
else(
bif r69 then(
some true)
else(
bif (r15.1 ==(x7.gates.length:Int))then(
some (!(r15.2.1 == v18)))
else(
some true))))
else(
some true))
else(
bif r57 then(
some true)
else(
(zaA N x7).bind λr61=>
bif r13.2.2.1 then(
bif r61 then(
bif (r15.1 ==(x7.gates.length:Int))then(
some (!(r15.2.1 == v18)))
else(
some true))
else(
some true))
else(
bif r61 then(
some true)
else(
bif (r15.1 ==(x7.gates.length:Int))then(
some (!(r15.2.1 == v18)))
else(
some true))))))
else(
some true))
else(
bif r33 then(
some true)
else(
(za5 x7).bind λr37=>
bif r13.2.1 then(
bif r37 then(
(zaA N x7).bind λr49=>
bif r13.2.2.1 then(
bif r49 then(
bif (r15.1 ==(x7.gates.length:Int))then(
some (!(r15.2.1 == v18)))
else(
some true))
else(
some true))
else(
bif r49 then(
some true)
else(
bif (r15.1 ==(x7.gates.length:Int))then(
some (!(r15.2.1 == v18)))
else(
some true))))
else(
some true))
else(
bif r37 then(
some true)
else(
(zaA N x7).bind λr41=>
bif r13.2.2.1 then(
bif r41 then(
bif (r15.1 ==(x7.gates.length:Int))then(
some (!(r15.2.1 == v18)))
else(
some true))
else(
some true))
else(
bif r41 then(
some true)
else(
bif (r15.1 ==(x7.gates.length:Int))then(
some (!(r15.2.1 == v18)))
else(
some true))))))):Option Bool)).bind λv122=>
bif v122 then(
some (.ret false))
else(
some (.go ())))
else(
((bif (r11 == 150)then(
bif r13.1 then(
some true)
else(
bif r13.2.1 then(
some true)
else(
bif r13.2.2.1 then(
some true)
else(
bif (r15.1 == 0)then(
some (!(r15.2.1 == 0)))
else(
some true)))))
else(
some true):Option Bool)).bind λv81=>
bif v81 then(
some (.ret false))
else(
some (.go ()))))):Option (Out Unit Bool))).bind λo=>match o with
| .go _=>(
zav N r4 n (w64 (v27+1)))
| .ret r=>some (.ret r))
else(
some (.go ())))
def zbG(N:Nat)(p0:S_haruspexref15_Draft)(p1:A2_S_haruspexref15_Bend)(p2:S_api_Circuit):Option Bool:=
(zld).bind λr1=>
bif r1 then(
(zcb N p0 p1 p2).bind λr4=>
((zav N r4 (4 - 0+2:Int).toNat 0:Option (Out Unit Bool))).bind λo=>match o with
| .go _=>(
some true)
| .ret r=>some r)
else(
some false)
def zc5:C:=
 .seq (rg [oW 3 0,
 oW 4 1,
 oW 5 2,
 oJ 6 false])
 (.seq (.seq (rg [⟨some 21,.call 8 [],none⟩,
 ⟨some 22,.un .not (.s 21),none⟩])
 (.cond (.s 22) (.seq (rg [oJ 6 false])
 (.ret))
 (.skip)))
 (.seq (.seq (rg [oN 23 3 3,
 oN 24 6 4,
 oN 25 2 5,
 ⟨some 26,.call 9 [(.s 23),(.s 24),(.s 25)],none⟩,
 oK 27 0])
 (.scope (.block 0 (.loop (.seq (rg [oD 28 .lss 27 4])
 (.seq (.cond (.s 28) (.skip)
 (.exit 0))
 (.seq (.scope (.block 1 (.seq (rg [⟨some 29,.idxV (some 2) 4 (.s 26) (.s 27),none⟩,
 ⟨some 8,.alloc [(.slice none 0 0),(.slice none 0 0)],none⟩,
 oS 2 8 29])
 (.seq (rg [oN 30 2 8,
 oU 31 10 30,
 oM 9 31])
 (.seq (rg [oN 32 2 8,
 oU 33 11 32,
 oM 10 33])
 (.seq (rg [oN 35 2 8,
 oU 36 12 35,
 oM 34 36,
 oX 37 34 0,
 oX 38 34 1,
 oX 39 34 2,
 oX 40 34 3,
 oM 11 37,
 oM 12 38,
 oM 13 39,
 oM 14 40])
 (.seq (rg [oN 42 2 8,
 oU 43 13 42,
 oM 41 43,
 oX 44 41 0,
 oX 45 41 1,
 oX 46 41 2,
 oM 15 44,
 oM 16 45,
 oM 17 46])
 (.seq (.seq (.scope (rg [oM 47 14,
 oM 48 10,
 oB 49 .neq 47 48,
 oM 50 49,
 oMg 51 17 50 false,
 oMg 52 10 50 false,
 ⟨some 53,.bin .neq (.s 51) (.s 52),some (50,false)⟩,
 oP 54 50 53,
 oM 55 54,
 oMg 56 10 55 false,
 oDg 57 .eql 56 0 55 false,
 oMg 58 9 55 false,
 ⟨some 59,.eqb true (.s 57) (.s 58),some (55,false)⟩,
 oP 60 55 59]))
 (.cond (.s 60) (.seq (rg [oJ 6 false])
 (.ret))
 (.skip)))
 (.seq (.seq (rg [oM 61 9,
 ⟨some 62,.un .not (.s 61),none⟩])
 (.cond (.s 62) (.seq (.seq (.scope (rg [oM 63 10,
 oD 64 .neq 63 150,
 oM 65 64,
 oMg 66 11 65 false,
 oP 67 65 66,
 oM 68 67,
 oMg 69 12 68 false,
 oP 70 68 69,
 oM 71 70,
 oMg 72 13 71 false,
 oP 73 71 72,
 oM 74 73,
 oMg 75 15 74 false,
 oDg 76 .neq 75 0 74 false,
 oP 77 74 76,
 oM 78 77,
 oMg 79 16 78 false,
 oDg 80 .neq 79 0 78 false,
 oP 81 78 80]))
 (.cond (.s 81) (.seq (rg [oJ 6 false])
 (.ret))
 (.skip)))
 (.exit 1))
 (.skip)))
 (.seq (rg [oK 18 0])
 (.seq (.seq (rg [oF 82 1 8,
 oL 83 82,
 oE 84 83,
 oK 85 0])
 (.scope (.block 2 (.loop (.seq (rg [oB 86 .lss 85 84])
 (.seq (.cond (.s 86) (.skip)
 (.exit 2))
 (.seq (.block 3 (.seq (rg [oI 87 5 83 85,
 oN 88 5 87,
 ⟨some 20,.alloc [(.int .i64 0),(.int .i64 0),(.int .i64 0),(.int .i64 0),(.slice none 0 0)],none⟩,
 oS 5 20 88])
 (rg [oM 89 18,
 oF 90 4 20,
 oL 91 90,
 oE 92 91,
 oB 93 .add 89 92,
 oM 18 93])))
 (rg [oD 94 .add 85 1,
 oM 85 94]))))))))
 (.seq (.scope (rg [oM 95 11,
 oN 96 2 8,
 oU 97 14 96,
 ⟨some 98,.eqb true (.s 95) (.s 97),none⟩,
 oM 99 98,
 oMg 100 12 99 false,
 ⟨some 101,.load (some 2) (.s 8),some (99,false)⟩,
 ⟨some 102,.call 15 [(.s 101)],some (99,false)⟩,
 ⟨some 103,.eqb true (.s 100) (.s 102),some (99,false)⟩,
 oP 104 99 103,
 oM 105 104,
 oMg 106 13 105 false,
 ⟨some 107,.load (some 2) (.s 8),some (105,false)⟩,
 ⟨some 108,.call 16 [(.s 107)],some (105,false)⟩,
 ⟨some 109,.eqb true (.s 106) (.s 108),some (105,false)⟩,
 oP 110 105 109,
 oM 111 110,
 oMg 112 15 111 false,
 oFg 113 1 8 111 false,
 oLg 114 113 111 false,
 ⟨some 115,.len (.s 114),some (111,false)⟩,
 ⟨some 116,.bin .neq (.s 112) (.s 115),some (111,false)⟩,
 oP 117 111 116,
 oM 118 117,
 oMg 119 16 118 false,
 oMg 120 18 118 false,
 ⟨some 121,.bin .neq (.s 119) (.s 120),some (118,false)⟩,
 oP 122 118 121]))
 (.cond (.s 122) (.seq (rg [oJ 6 false])
 (.ret))
 (.skip))))))))))))))
 (rg [oD 123 .add 27 1,
 oM 27 123]))))))))
 (.seq (rg [oJ 6 true])
 (.ret))))
theorem zet:znz mC 3=some (124,zc5,[.tmp 6],false):=zea (by kernel_rfl)
theorem zeL{r:Bool}(h:zbG N p0 p1 p2=some r):Lx.Fn mC 3 [(.agg [(fzE false (eI .u8) p0.cards),(fzE false zaF p0.gates),(dB p0.big)]),(.agg [(dU8 p1.a0.what),(dU8 p1.a0.at_),(dI p1.a0.n),(dU8 p1.a1.what),(dU8 p1.a1.at_),(dI p1.a1.n)]),(.agg [(fzE false (eI .i64) p2.cards),(fzE false zaa p2.gates)])] (dB r):=by
 refine Fn.of zet (zdc rfl) (qai rfl) ?_;unfold zbG at h;simp only[zc5,zvq];refine zab ?_;obtain⟨r1,g2,h⟩:=bind_some h;try simp only[rnA,Nat.reduceEqDiff,Nat.reduceLT,Nat.reduceAdd,reduceCtorEq]
 refine EvL.fn (zqY g2) rfl rfl .nil ?_;try simp only[rnA,Nat.reduceEqDiff,Nat.reduceLT,reduceCtorEq]
 cases c3:r1
 .rw[c3,qcF]at h;try simp only[rnA,Nat.reduceLT]
  replace h:=qaa h; subst h;exact zbT.ret rfl (.lit _)
 rw[c3,qcE]at h;obtain⟨r4,g5,h⟩:=bind_some h;try simp only[rnA,Nat.reduceEqDiff,Nat.reduceLT,Nat.reduceAdd,Nat.reduceLeDiff,reduceCtorEq]
 refine EvL.fnS (zgw g5) rfl rfl (.cons (Mzs.agg (.cons (zfP _ _ (λh=>by cases h<;>contradiction)) (.cons (zfP _ _ (λh=>by cases h<;>contradiction)) (.cons (.lit _) .nil)))) (.cons (Mzs.agg (.cons (.lit _) (.cons (.lit _) (.cons (.lit _) (.cons (.lit _) (.cons (.lit _) (.cons (.lit _) .nil))))))) (.cons (Mzs.agg (.cons (zfP _ _ (λh=>by cases h<;>contradiction)) (.cons (zfP _ _ (λh=>by cases h<;>contradiction)) .nil))) .nil))) ⟨⟨(zcr _ _),(zcr _ _),qcD,qcD⟩,⟨qcD,qcD,qcD,qcD,qcD,qcD,qcD⟩,⟨(zcr _ _),(zcr _ _),qcD⟩,qcD⟩ ⟨(zcr _ _),(zcr _ _),(zcr _ _),(zcr _ _),(zcr _ _),(zcr _ _),(zcr _ _),(zcr _ _),qcD⟩ ?_;try simp only[rnA,Nat.reduceLT]
 obtain⟨o34,j34,h⟩:=bind_some h;obtain⟨T34,hT34⟩:=mkT λa:Unit=>⟨124,[],[]⟩
 refine EvL.jn T34 (λa=>o34=.go a) ?_ ?_
 .refine zab ?_;simp only[rnA];obtain⟨T57,hT57⟩:=mkT λa:Int=>⟨124,[(26,(.agg [(fzE false (eI .i64) r4.a0.cards),(fzE false zaa r4.a0.gates),(fzE false (eI .i64) r4.a1.cards),(fzE false zaa r4.a1.gates),(fzE false (eI .i64) r4.a2.cards),(fzE false zaa r4.a2.gates),(fzE false (eI .i64) r4.a3.cards),(fzE false zaa r4.a3.gates)])),(27,(dI a))],[]⟩
  refine EvL.rounds (α:=Int) T57 (λn a=>zav N r4 n a=some o34) (4 - 0+2:Int).toNat 0 (by rw[hT57]; exact wm0 [] (by exact trivial)) j34 (λ_ h=>nomatch (show(none:Option (Out Unit Bool))=some o34 from h)) ?_;rintro n v27 j34;simp only[zav]at j34;rw[congrFun hT57 v27];refine zab ?_;try simp only[rnA,Nat.reduceEqDiff,Nat.reduceLT]
  cases c6:(decide (v27<4))
  .rw[c6,qcF]at j34;try simp only[rnA]
   replace j34:=qaa j34; subst j34;exact lfj hT34 rfl (wm0 [] (by exact trivial))
  rw[c6,qcE]at j34;try simp only[rnA]
  obtain⟨o63,j63,j34⟩:=bind_some j34;obtain⟨T63,hT63⟩:=mkT λa:Unit=>⟨124,[(26,(.agg [(fzE false (eI .i64) r4.a0.cards),(fzE false zaa r4.a0.gates),(fzE false (eI .i64) r4.a1.cards),(fzE false zaa r4.a1.gates),(fzE false (eI .i64) r4.a2.cards),(fzE false zaa r4.a2.gates),(fzE false (eI .i64) r4.a3.cards),(fzE false zaa r4.a3.gates)])),(27,(dI v27))],[]⟩
  refine EvL.jn T63 (λa=>o63=.go a) ?_ ?_
  .refine zab ?_;obtain⟨x7,g8,j63⟩:=bind_some j63;obtain⟨r9,g10,j63⟩:=bind_some j63;try simp only[rnA,Nat.reduceEqDiff,Nat.reduceLT,Nat.reduceAdd,Nat.reduceLeDiff,zbh g8,(show v27<((4:Nat):Int)from zbg g8),qba,(show([(fzE false (eI .i64) r4.a0.cards),(fzE false zaa r4.a0.gates),(fzE false (eI .i64) r4.a1.cards),(fzE false zaa r4.a1.gates),(fzE false (eI .i64) r4.a2.cards),(fzE false zaa r4.a2.gates),(fzE false (eI .i64) r4.a3.cards),(fzE false zaa r4.a3.gates)].drop (v27.toNat * 2)).take 2=[(fzE false (eI .i64) x7.cards),(fzE false zaa x7.gates)]from zrp (e:=za1) (t:=false) rfl g8 rfl),(show v27.toNat * 2+2<=8 from zuN (e:=za1) rfl g8)]
   refine EvL.fn (zj1 g10) rfl rfl (.cons (.zdp (.cons (zah _ _ (λh=>nomatch h)) (.cons (zah _ _ (λh=>nomatch h)) .nil))) .nil) ?_;obtain⟨r11,g12,j63⟩:=bind_some j63;try simp only[rnA,Nat.reduceEqDiff,Nat.reduceLT,Nat.reduceAdd,Nat.reduceLeDiff]
   refine EvL.fn (zcO g12) rfl rfl (.cons (.zdp (.cons (zah _ _ (λh=>nomatch h)) (.cons (zah _ _ (λh=>nomatch h)) .nil))) .nil) ?_;obtain⟨r13,g14,j63⟩:=bind_some j63;try simp only[rnA,Nat.reduceEqDiff,Nat.reduceLT,Nat.reduceAdd,Nat.reduceLeDiff]
   refine EvL.fn (zgd g14) rfl rfl (.cons (.zdp (.cons (zah _ _ (λh=>nomatch h)) (.cons (zah _ _ (λh=>nomatch h)) .nil))) .nil) ?_;obtain⟨r15,g16,j63⟩:=bind_some j63;try simp only[rnA,Nat.reduceEqDiff,Nat.reduceLT,Nat.reduceAdd,Nat.reduceLeDiff]
   refine EvL.fn (zhj g16) rfl rfl (.cons (.zdp (.cons (zah _ _ (λh=>nomatch h)) (.cons (zah _ _ (λh=>nomatch h)) .nil))) .nil) ?_;try simp only[rnA,Nat.reduceEqDiff,Nat.reduceLT]
   obtain⟨o64,j64,j63⟩:=bind_some j63;obtain⟨T64,hT64⟩:=mkT λa:(Bool×Bool)=>⟨124,[(8,(.ptr 0 0)),(9,(dB a.1)),(10,(dI r11)),(11,(dB r13.1)),(12,(dB r13.2.1)),(13,(dB r13.2.2.1)),(15,(dI r15.1)),(16,(dI r15.2.1)),(26,(.agg [(fzE false (eI .i64) r4.a0.cards),(fzE false zaa r4.a0.gates),(fzE false (eI .i64) r4.a1.cards),(fzE false zaa r4.a1.gates),(fzE false (eI .i64) r4.a2.cards),(fzE false zaa r4.a2.gates),(fzE false (eI .i64) r4.a3.cards),(fzE false zaa r4.a3.gates)])),(27,(dI v27)),(60,(dB a.2))],[.cells [(fzE false (eI .i64) x7.cards),(fzE false zaa x7.gates)]]⟩
   refine EvL.jn T64 (λa=>a=o64) ?_ ?_
   .refine zab ?_;try simp only[rnA,Nat.reduceEqDiff,Nat.reduceLT]
    cases c17:(r13.2.2.2 == r11)
    .rw[c17,qcF]at j64;try simp only[rnA,Nat.reduceEqDiff,Nat.reduceLT]
     replace j64:=qaa j64; subst j64;exact lfj hT64 rfl (wm0 [.k] ⟨MB.cs ⟨qcD,qcD,qcD⟩,qcD⟩)
    rw[c17,qcE]at j64;try simp only[rnA,Nat.reduceEqDiff,Nat.reduceLT]
    cases c18:(r15.2.2 == r11)
    .rw[c18,qcF]at j64;try simp only[rnA,Nat.reduceEqDiff,Nat.reduceLT]
     replace j64:=qaa j64; subst j64;exact lfj hT64 rfl (wm0 [.k] ⟨MB.cs ⟨qcD,qcD,qcD⟩,qcD⟩)
    rw[c18,qcE]at j64;try simp only[rnA,Nat.reduceEqDiff,Nat.reduceLT]
    cases c19:(r11 == 0)
    .rw[c19,qcF]at j64;try simp only[rnA,qbz]
     cases c20:r9
     .rw[c20,qcF]at j64;try simp only[rnA,Nat.reduceEqDiff,reduceIte,Nat.reduceLT,Nat.reduceAdd,Nat.reduceLeDiff,Nat.reduceMul,Nat.reduceSub,Int.reduceLE,Int.reduceLT,Int.reduceBEq,Nat.reduceBEq,reduceCtorEq,zeZ,zci,zb7,zal,zdV,zcZ,qbz,qbH,c3,c6,c17,c18,c19,c20]
      replace j64:=qaa j64; subst j64;exact lfj hT64 rfl (wm0 [.k] ⟨MB.cs ⟨qcD,qcD,qcD⟩,qcD⟩)
     rw[c20,qcE]at j64;try simp only[rnA,Nat.reduceEqDiff,reduceIte,Nat.reduceLT,Nat.reduceAdd,Nat.reduceLeDiff,Nat.reduceMul,Nat.reduceSub,Int.reduceLE,Int.reduceLT,Int.reduceBEq,Nat.reduceBEq,reduceCtorEq,zeZ,zci,zb7,zal,zdV,zcZ,qbz,qbH,c3,c6,c17,c18,c19,c20]
     replace j64:=qaa j64; subst j64;exact lfj hT64 rfl (wm0 [.k] ⟨MB.cs ⟨qcD,qcD,qcD⟩,qcD⟩)
    rw[c19,qcE]at j64;try simp only[qbH]
    cases c21:r9
    .rw[c21,qcF]at j64;try simp only[rnA]
     replace j64:=qaa j64; subst j64;exact lfj hT64 rfl (wm0 [.k] ⟨MB.cs ⟨qcD,qcD,qcD⟩,qcD⟩)
    rw[c21,qcE]at j64;try simp only[rnA]
    replace j64:=qaa j64; subst j64;exact lfj hT64 rfl (wm0 [.k] ⟨MB.cs ⟨qcD,qcD,qcD⟩,qcD⟩)
   rintro⟨v9,v60⟩ rfl;dsimp only at j63;rw[congrFun hT64 (v9,v60)];refine zab ?_;try simp only[rnA,Nat.reduceEqDiff]
   cases c22:v60
   .rw[c22,qcF]at j63;try simp only[rnA,Nat.reduceEqDiff,Nat.reduceLT]
    cases c23:v9
    .rw[c23,qcF]at j63;try simp only[rnA]
     obtain⟨o65,j65,j63⟩:=bind_some j63;obtain⟨T65,hT65⟩:=mkT λa:Bool=>⟨124,[(26,(.agg [(fzE false (eI .i64) r4.a0.cards),(fzE false zaa r4.a0.gates),(fzE false (eI .i64) r4.a1.cards),(fzE false zaa r4.a1.gates),(fzE false (eI .i64) r4.a2.cards),(fzE false zaa r4.a2.gates),(fzE false (eI .i64) r4.a3.cards),(fzE false zaa r4.a3.gates)])),(27,(dI v27)),(81,(dB a))],[]⟩
     refine EvL.jn T65 (λa=>a=o65) ?_ ?_
     .refine zab ?_;try simp only[rnA,Nat.reduceEqDiff,Nat.reduceLT]
      cases c24:(r11 == 150)
      .rw[c24,qcF]at j65;try simp only[rnA,Nat.reduceEqDiff,Nat.reduceLT]
       replace j65:=qaa j65; subst j65;exact lfj hT65 rfl (wm0 [] (by exact trivial))
      rw[c24,qcE]at j65;try simp only[rnA,Nat.reduceEqDiff,Nat.reduceLT]
      cases c25:r13.1
      .rw[c25,qcF]at j65;try simp only[rnA,Nat.reduceEqDiff,Nat.reduceLT]
       cases c26:r13.2.1
       .rw[c26,qcF]at j65;try simp only[rnA,Nat.reduceEqDiff,Nat.reduceLT]
        cases c27:r13.2.2.1
        .rw[c27,qcF]at j65;try simp only[rnA,Nat.reduceEqDiff,Nat.reduceLT]
         cases c28:(r15.1 == 0)
         .rw[c28,qcF]at j65;try simp only[rnA,Nat.reduceEqDiff,Nat.reduceLT]
          replace j65:=qaa j65; subst j65;exact lfj hT65 rfl (wm0 [] (by exact trivial))
         rw[c28,qcE]at j65;try simp only[rnA,Nat.reduceEqDiff,Nat.reduceLT]
         replace j65:=qaa j65; subst j65;exact lfj hT65 rfl (wm0 [] (by exact trivial))
        rw[c27,qcE]at j65;try simp only[rnA,Nat.reduceEqDiff,Nat.reduceLT]
        replace j65:=qaa j65; subst j65;exact lfj hT65 rfl (wm0 [] (by exact trivial))
       rw[c26,qcE]at j65;try simp only[rnA,Nat.reduceEqDiff,Nat.reduceLT]
       replace j65:=qaa j65; subst j65;exact lfj hT65 rfl (wm0 [] (by exact trivial))
      rw[c25,qcE]at j65;try simp only[rnA,Nat.reduceEqDiff,Nat.reduceLT]
      replace j65:=qaa j65; subst j65;exact lfj hT65 rfl (wm0 [] (by exact trivial))
     rintro v81 rfl;rw[congrFun hT65 v81];refine zab ?_;try simp only[rnA,Nat.reduceEqDiff]
     cases c29:v81
     .rw[c29,qcF]at j63;try simp only[rnA,reduceCtorEq]
      replace j63:=qaa j63; subst j63;exact lfj hT63 rfl (wm0 [] (by exact trivial))
     rw[c29,qcE]at j63;try simp only[rnA,Nat.reduceLT]
     replace j63:=qaa j63; subst j63;dsimp only at j34;replace j34:=qaa j34; subst j34;dsimp only at h;replace h:=qaa h; subst h;exact zbT.ret rfl (.lit _)
    rw[c23,qcE]at j63;try simp only[rnA,Nat.reduceEqDiff,Nat.reduceLT,zaf]
    obtain⟨o66,j66,j63⟩:=bind_some j63;obtain⟨T66,hT66⟩:=mkT λa:Int=>⟨124,[(8,(.ptr 0 0)),(11,(dB r13.1)),(12,(dB r13.2.1)),(13,(dB r13.2.2.1)),(15,(dI r15.1)),(16,(dI r15.2.1)),(18,(dI a)),(26,(.agg [(fzE false (eI .i64) r4.a0.cards),(fzE false zaa r4.a0.gates),(fzE false (eI .i64) r4.a1.cards),(fzE false zaa r4.a1.gates),(fzE false (eI .i64) r4.a2.cards),(fzE false zaa r4.a2.gates),(fzE false (eI .i64) r4.a3.cards),(fzE false zaa r4.a3.gates)])),(27,(dI v27))],[.cells [(fzE false (eI .i64) x7.cards),(fzE false zaa x7.gates)]]⟩
    refine EvL.jn T66 (λa=>a=o66) ?_ ?_
    .refine zab ?_;simp only[rnA];obtain⟨T67,hT67⟩:=mkT λa:(Int×Int)=>⟨124,[(8,(.ptr 0 0)),(11,(dB r13.1)),(12,(dB r13.2.1)),(13,(dB r13.2.2.1)),(15,(dI r15.1)),(16,(dI r15.2.1)),(18,(dI a.1)),(26,(.agg [(fzE false (eI .i64) r4.a0.cards),(fzE false zaa r4.a0.gates),(fzE false (eI .i64) r4.a1.cards),(fzE false zaa r4.a1.gates),(fzE false (eI .i64) r4.a2.cards),(fzE false zaa r4.a2.gates),(fzE false (eI .i64) r4.a3.cards),(fzE false zaa r4.a3.gates)])),(27,(dI v27)),(83,(fzE false zaa x7.gates)),(84,(dI (x7.gates.length:Int))),(85,(dI a.2))],[.cells [(fzE false (eI .i64) x7.cards),(fzE false zaa x7.gates)]]⟩
     refine EvL.rounds (α:=(Int×Int)) T67 (λn a=>zaT x7 n a.1 a.2=some o66) ((x7.gates.length:Int) - 0+2:Int).toNat (0,0) (by rw[hT67]; exact wm0 [.k] ⟨MB.cs ⟨qcD,qcD,qcD⟩,qcD⟩) j66 (λ_ h=>nomatch (show(none:Option Int)=some o66 from h)) ?_;rintro n ⟨v18,v85⟩ j66;simp only[zaT]at j66;rw[congrFun hT67 (v18,v85)];refine zab ?_;try simp only[rnA,Nat.reduceEqDiff,Nat.reduceLT]
     cases c30:(decide (v85<(x7.gates.length:Int)))
     .rw[c30,qcF]at j66;try simp only[rnA,Nat.reduceEqDiff,reduceCtorEq]
      replace j66:=qaa j66; subst j66;exact lfj hT66 rfl (wm0 [.k] ⟨MB.cs ⟨qcD,qcD,qcD⟩,qcD⟩)
     rw[c30,qcE]at j66;obtain⟨x31,g32,j66⟩:=bind_some j66;try simp only[rnA,Nat.reduceEqDiff,Nat.reduceLT,Nat.reduceAdd,Nat.reduceLeDiff,zal,zai (n:=5) (e:=zaa) rfl g32,zaf]
     exact⟨((w64 (v18+(x31.args.length:Int))),(w64 (v85+1))),j66,by rw[hT67]; exact wm0 [.k] ⟨MB.cs ⟨qcD,qcD,qcD⟩,qcD⟩⟩
    rintro v18 rfl;rw[congrFun hT66 v18];refine zab ?_;try simp only[rnA]
    obtain⟨o68,j68,j63⟩:=bind_some j63;obtain⟨T68,hT68⟩:=mkT λa:Bool=>⟨124,[(26,(.agg [(fzE false (eI .i64) r4.a0.cards),(fzE false zaa r4.a0.gates),(fzE false (eI .i64) r4.a1.cards),(fzE false zaa r4.a1.gates),(fzE false (eI .i64) r4.a2.cards),(fzE false zaa r4.a2.gates),(fzE false (eI .i64) r4.a3.cards),(fzE false zaa r4.a3.gates)])),(27,(dI v27)),(122,(dB a))],[]⟩
    refine EvL.jn T68 (λa=>a=o68) ?_ ?_
    .refine zab ?_;obtain⟨r33,g34,j68⟩:=bind_some j68;try simp only[rnA,Nat.reduceEqDiff,Nat.reduceLT,Nat.reduceAdd,Nat.reduceLeDiff]
     refine EvL.fn (zie g34) rfl rfl (.cons (.zdp (.cons (zah _ _ (λh=>nomatch h)) (.cons (zah _ _ (λh=>nomatch h)) .nil))) .nil) ?_;try simp only[rnA,Nat.reduceEqDiff,Nat.reduceLT]
     cases c35:r13.1
     .rw[c35,qcF]at j68;try simp only[rnA,qbz]
      cases c36:r33
      .rw[c36,qcF]at j68;obtain⟨r37,g38,j68⟩:=bind_some j68;try simp only[rnA,Nat.reduceEqDiff,Nat.reduceLT,Nat.reduceAdd,Nat.reduceLeDiff]
       refine EvL.fn (zc9 g38) rfl rfl (.cons (.zdp (.cons (zah _ _ (λh=>nomatch h)) (.cons (zah _ _ (λh=>nomatch h)) .nil))) .nil) ?_;try simp only[rnA,Nat.reduceEqDiff,Nat.reduceLT]
       cases c39:r13.2.1
       .rw[c39,qcF]at j68;try simp only[rnA,qbz]
        cases c40:r37
        .rw[c40,qcF]at j68;obtain⟨r41,g42,j68⟩:=bind_some j68;try simp only[rnA,Nat.reduceEqDiff,Nat.reduceLT,Nat.reduceAdd,Nat.reduceLeDiff]
         refine EvL.fn (zbs g42) rfl rfl (.cons (.zdp (.cons (zah _ _ (λh=>nomatch h)) (.cons (zah _ _ (λh=>nomatch h)) .nil))) .nil) ?_;try simp only[rnA,Nat.reduceEqDiff,Nat.reduceLT]
         cases c43:r13.2.2.1
         .rw[c43,qcF]at j68;try simp only[rnA,qbz]
          cases c44:r41
          .rw[c44,qcF]at j68;try simp only[rnA,Nat.reduceEqDiff,Nat.reduceLT,zaf]
           cases c45:(r15.1 ==(x7.gates.length:Int))
           .rw[c45,qcF]at j68;try simp only[rnA,Nat.reduceEqDiff,Nat.reduceLT]
            replace j68:=qaa j68; subst j68;exact lfj hT68 rfl (wm0 [] (by exact trivial))
           rw[c45,qcE]at j68;try simp only[rnA,Nat.reduceEqDiff,Nat.reduceLT]
           replace j68:=qaa j68; subst j68;exact lfj hT68 rfl (wm0 [] (by exact trivial))
          rw[c44,qcE]at j68;try simp only[rnA,Nat.reduceEqDiff,Nat.reduceLT]
          replace j68:=qaa j68; subst j68;exact lfj hT68 rfl (wm0 [] (by exact trivial))
         rw[c43,qcE]at j68;try simp only[qbH]
         cases c46:r41
         .rw[c46,qcF]at j68;try simp only[rnA,Nat.reduceEqDiff,Nat.reduceLT]
          replace j68:=qaa j68; subst j68;exact lfj hT68 rfl (wm0 [] (by exact trivial))
         rw[c46,qcE]at j68;try simp only[rnA,Nat.reduceEqDiff,Nat.reduceLT,zaf]
         cases c47:(r15.1 ==(x7.gates.length:Int))
         .rw[c47,qcF]at j68;try simp only[rnA,Nat.reduceEqDiff,Nat.reduceLT]
          replace j68:=qaa j68; subst j68;exact lfj hT68 rfl (wm0 [] (by exact trivial))
         rw[c47,qcE]at j68;try simp only[rnA,Nat.reduceEqDiff,Nat.reduceLT]
         replace j68:=qaa j68; subst j68;exact lfj hT68 rfl (wm0 [] (by exact trivial))
        rw[c40,qcE]at j68;try simp only[rnA,Nat.reduceEqDiff,Nat.reduceLT]
        refine EvL.skip rfl ?_;try simp only[rnA,Nat.reduceEqDiff,Nat.reduceLT]
        replace j68:=qaa j68; subst j68;exact lfj hT68 rfl (wm0 [] (by exact trivial))
       rw[c39,qcE]at j68;try simp only[qbH]
       cases c48:r37
       .rw[c48,qcF]at j68;try simp only[rnA,Nat.reduceEqDiff,Nat.reduceLT]
        refine EvL.skip rfl ?_;try simp only[rnA,Nat.reduceEqDiff,Nat.reduceLT]
        replace j68:=qaa j68; subst j68;exact lfj hT68 rfl (wm0 [] (by exact trivial))
       rw[c48,qcE]at j68;obtain⟨r49,g50,j68⟩:=bind_some j68;try simp only[rnA,Nat.reduceEqDiff,Nat.reduceLT,Nat.reduceAdd,Nat.reduceLeDiff]
       refine EvL.fn (zbs g50) rfl rfl (.cons (.zdp (.cons (zah _ _ (λh=>nomatch h)) (.cons (zah _ _ (λh=>nomatch h)) .nil))) .nil) ?_;try simp only[rnA,Nat.reduceEqDiff,Nat.reduceLT]
       cases c51:r13.2.2.1
       .rw[c51,qcF]at j68;try simp only[rnA,qbz]
        cases c52:r49
        .rw[c52,qcF]at j68;try simp only[rnA,Nat.reduceEqDiff,Nat.reduceLT,zaf]
         cases c53:(r15.1 ==(x7.gates.length:Int))
         .rw[c53,qcF]at j68;try simp only[rnA,Nat.reduceEqDiff,Nat.reduceLT]
          replace j68:=qaa j68; subst j68;exact lfj hT68 rfl (wm0 [] (by exact trivial))
         rw[c53,qcE]at j68;try simp only[rnA,Nat.reduceEqDiff,Nat.reduceLT]
         replace j68:=qaa j68; subst j68;exact lfj hT68 rfl (wm0 [] (by exact trivial))
        rw[c52,qcE]at j68;try simp only[rnA,Nat.reduceEqDiff,Nat.reduceLT]
        replace j68:=qaa j68; subst j68;exact lfj hT68 rfl (wm0 [] (by exact trivial))
       rw[c51,qcE]at j68;try simp only[qbH]
       cases c54:r49
       .rw[c54,qcF]at j68;try simp only[rnA,Nat.reduceEqDiff,Nat.reduceLT]
        replace j68:=qaa j68; subst j68;exact lfj hT68 rfl (wm0 [] (by exact trivial))
       rw[c54,qcE]at j68;try simp only[rnA,Nat.reduceEqDiff,Nat.reduceLT,zaf]
       cases c55:(r15.1 ==(x7.gates.length:Int))
       .rw[c55,qcF]at j68;try simp only[rnA,Nat.reduceEqDiff,Nat.reduceLT]
        replace j68:=qaa j68; subst j68;exact lfj hT68 rfl (wm0 [] (by exact trivial))
       rw[c55,qcE]at j68;try simp only[rnA,Nat.reduceEqDiff,Nat.reduceLT]
       replace j68:=qaa j68; subst j68;exact lfj hT68 rfl (wm0 [] (by exact trivial))
      rw[c36,qcE]at j68;try simp only[rnA,Nat.reduceEqDiff,Nat.reduceLT]
      refine EvL.skip rfl ?_;try simp only[rnA,Nat.reduceEqDiff,Nat.reduceLT]
      refine EvL.skip rfl ?_;try simp only[rnA,Nat.reduceEqDiff,Nat.reduceLT]
      replace j68:=qaa j68; subst j68;exact lfj hT68 rfl (wm0 [] (by exact trivial))
     rw[c35,qcE]at j68;try simp only[qbH]
     cases c56:r33
     .rw[c56,qcF]at j68;try simp only[rnA,Nat.reduceEqDiff,Nat.reduceLT]
      refine EvL.skip rfl ?_;try simp only[rnA,Nat.reduceEqDiff,Nat.reduceLT]
      refine EvL.skip rfl ?_;try simp only[rnA,Nat.reduceEqDiff,Nat.reduceLT]
      replace j68:=qaa j68; subst j68;exact lfj hT68 rfl (wm0 [] (by exact trivial))
     rw[c56,qcE]at j68;obtain⟨r57,g58,j68⟩:=bind_some j68;try simp only[rnA,Nat.reduceEqDiff,Nat.reduceLT,Nat.reduceAdd,Nat.reduceLeDiff]
     refine EvL.fn (zc9 g58) rfl rfl (.cons (.zdp (.cons (zah _ _ (λh=>nomatch h)) (.cons (zah _ _ (λh=>nomatch h)) .nil))) .nil) ?_;try simp only[rnA,Nat.reduceEqDiff,Nat.reduceLT]
     cases c59:r13.2.1
     .rw[c59,qcF]at j68;try simp only[rnA,qbz]
      cases c60:r57
      .rw[c60,qcF]at j68;obtain⟨r61,g62,j68⟩:=bind_some j68;try simp only[rnA,Nat.reduceEqDiff,Nat.reduceLT,Nat.reduceAdd,Nat.reduceLeDiff]
       refine EvL.fn (zbs g62) rfl rfl (.cons (.zdp (.cons (zah _ _ (λh=>nomatch h)) (.cons (zah _ _ (λh=>nomatch h)) .nil))) .nil) ?_;try simp only[rnA,Nat.reduceEqDiff,Nat.reduceLT]
       cases c63:r13.2.2.1
       .rw[c63,qcF]at j68;try simp only[rnA,qbz]
        cases c64:r61
        .rw[c64,qcF]at j68;try simp only[rnA,Nat.reduceEqDiff,Nat.reduceLT,zaf]
         cases c65:(r15.1 ==(x7.gates.length:Int))
         .rw[c65,qcF]at j68;try simp only[rnA,Nat.reduceEqDiff,Nat.reduceLT]
          replace j68:=qaa j68; subst j68;exact lfj hT68 rfl (wm0 [] (by exact trivial))
         rw[c65,qcE]at j68;try simp only[rnA,Nat.reduceEqDiff,Nat.reduceLT]
         replace j68:=qaa j68; subst j68;exact lfj hT68 rfl (wm0 [] (by exact trivial))
        rw[c64,qcE]at j68;try simp only[rnA,Nat.reduceEqDiff,Nat.reduceLT]
        replace j68:=qaa j68; subst j68;exact lfj hT68 rfl (wm0 [] (by exact trivial))
       rw[c63,qcE]at j68;try simp only[qbH]
       cases c66:r61
       .rw[c66,qcF]at j68;try simp only[rnA,Nat.reduceEqDiff,Nat.reduceLT]
        replace j68:=qaa j68; subst j68;exact lfj hT68 rfl (wm0 [] (by exact trivial))
       rw[c66,qcE]at j68;try simp only[rnA,Nat.reduceEqDiff,Nat.reduceLT,zaf]
       cases c67:(r15.1 ==(x7.gates.length:Int))
       .rw[c67,qcF]at j68;try simp only[rnA,Nat.reduceEqDiff,Nat.reduceLT]
        replace j68:=qaa j68; subst j68;exact lfj hT68 rfl (wm0 [] (by exact trivial))
       rw[c67,qcE]at j68;try simp only[rnA,Nat.reduceEqDiff,Nat.reduceLT]
       replace j68:=qaa j68; subst j68;exact lfj hT68 rfl (wm0 [] (by exact trivial))
      rw[c60,qcE]at j68;try simp only[rnA,Nat.reduceEqDiff,Nat.reduceLT]
      refine EvL.skip rfl ?_;try simp only[rnA,Nat.reduceEqDiff,Nat.reduceLT]
      replace j68:=qaa j68; subst j68;exact lfj hT68 rfl (wm0 [] (by exact trivial))
     rw[c59,qcE]at j68;try simp only[qbH]
     cases c68:r57
     .rw[c68,qcF]at j68;try simp only[rnA,Nat.reduceEqDiff,Nat.reduceLT]
      refine EvL.skip rfl ?_;try simp only[rnA,Nat.reduceEqDiff,Nat.reduceLT]
      replace j68:=qaa j68; subst j68;exact lfj hT68 rfl (wm0 [] (by exact trivial))
     rw[c68,qcE]at j68;obtain⟨r69,g70,j68⟩:=bind_some j68;try simp only[rnA,Nat.reduceEqDiff,Nat.reduceLT,Nat.reduceAdd,Nat.reduceLeDiff]
     refine EvL.fn (zbs g70) rfl rfl (.cons (.zdp (.cons (zah _ _ (λh=>nomatch h)) (.cons (zah _ _ (λh=>nomatch h)) .nil))) .nil) ?_;try simp only[rnA,Nat.reduceEqDiff,Nat.reduceLT]
     cases c71:r13.2.2.1
     .rw[c71,qcF]at j68;try simp only[rnA,qbz]
      cases c72:r69
      .rw[c72,qcF]at j68;try simp only[rnA,Nat.reduceEqDiff,Nat.reduceLT,zaf]
       cases c73:(r15.1 ==(x7.gates.length:Int))
       .rw[c73,qcF]at j68;try simp only[rnA,Nat.reduceEqDiff,Nat.reduceLT]
        replace j68:=qaa j68; subst j68;exact lfj hT68 rfl (wm0 [] (by exact trivial))
       rw[c73,qcE]at j68;try simp only[rnA,Nat.reduceEqDiff,Nat.reduceLT]
       replace j68:=qaa j68; subst j68;exact lfj hT68 rfl (wm0 [] (by exact trivial))
      rw[c72,qcE]at j68;try simp only[rnA,Nat.reduceEqDiff,Nat.reduceLT]
      replace j68:=qaa j68; subst j68;exact lfj hT68 rfl (wm0 [] (by exact trivial))
     rw[c71,qcE]at j68;try simp only[qbH]
     cases c74:r69
     .rw[c74,qcF]at j68;try simp only[rnA,Nat.reduceEqDiff,Nat.reduceLT]
      replace j68:=qaa j68; subst j68;exact lfj hT68 rfl (wm0 [] (by exact trivial))
     rw[c74,qcE]at j68;try simp only[rnA,Nat.reduceEqDiff,Nat.reduceLT,zaf]
     cases c75:(r15.1 ==(x7.gates.length:Int))
     .rw[c75,qcF]at j68;try simp only[rnA,Nat.reduceEqDiff,Nat.reduceLT]
      replace j68:=qaa j68; subst j68;exact lfj hT68 rfl (wm0 [] (by exact trivial))
     rw[c75,qcE]at j68;try simp only[rnA,Nat.reduceEqDiff,Nat.reduceLT]
     replace j68:=qaa j68; subst j68;exact lfj hT68 rfl (wm0 [] (by exact trivial))
    rintro v122 rfl;rw[congrFun hT68 v122];refine zab ?_;try simp only[rnA,Nat.reduceEqDiff]
    cases c76:v122
    .rw[c76,qcF]at j63;try simp only[rnA]
     replace j63:=qaa j63; subst j63;exact lfj hT63 rfl (wm0 [] (by exact trivial))
    rw[c76,qcE]at j63;try simp only[rnA,Nat.reduceLT]
    replace j63:=qaa j63; subst j63;dsimp only at j34;replace j34:=qaa j34; subst j34;dsimp only at h;replace h:=qaa h; subst h;exact zbT.ret rfl (.lit _)
   rw[c22,qcE]at j63;try simp only[rnA,Nat.reduceLT]
   replace j63:=qaa j63; subst j63;dsimp only at j34;replace j34:=qaa j34; subst j34;dsimp only at h;replace h:=qaa h; subst h;exact zbT.ret rfl (.lit _)
  rintro⟨⟩ rfl;dsimp only at j34;rw[congrFun hT63 ()];refine zab ?_;try simp only[rnA,Nat.reduceEqDiff,Nat.reduceLT]
  exact⟨(w64 (v27+1)),j34,by rw[hT57]; exact wm0 [] (by exact trivial)⟩
 rintro⟨⟩ rfl;dsimp only at h;rw[congrFun hT34 ()];refine zab ?_;try simp only[rnA,Nat.reduceLT]
 replace h:=qaa h; subst h;exact zbT.ret rfl (.lit _)
end Go.Dc
