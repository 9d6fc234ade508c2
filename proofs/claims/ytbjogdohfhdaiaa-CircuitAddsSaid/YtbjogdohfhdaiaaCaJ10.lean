/-
 What l15_CircuitChecks computes. Conditions: none.
-/
import Derived.Test.YtbjogdohfhdaiaaCaJ6
import Derived.Test.YtbjogdohfhdaiaaCaJ9
import Derived.Test.YtbjogdohfhdaiaaCaJ7
set_option linter.unusedSimpArgs false
set_option linter.unusedVariables false
set_option maxRecDepth 100000
set_option maxHeartbeats 4000000
namespace Go.Dc
open Go Go.Mx Go.Lx Go.Proofs
def zaQ(x38:Int)(q11:Int)(r4:S_api_Circuit)(r28:((List (List Int))×Int)):Nat->Int->Int->(List Int)->Option (Out Int Bool)
 | 0,_,_,_=>none
 | n+1,v18,v126,l4=>(
bif (decide (v126<x38))then(
(zaS l4 q11).bind λx41=>
(zfp l4 q11 v126).bind λy43=>
(zaV r4 y43).bind λr45=>
((bif (r45.2 == 0)then(
(zaS r28.1 q11).bind λx48=>
(zaS x48 v126).bind λx50=>
some (!(r45.1 == x50)))
else(
some true):Option Bool)).bind λv151=>
bif v151 then(
some (.ret false))
else(
zaQ x38 q11 r4 r28 n (w64 (v18+r45.1)) (w64 (v126+1)) y43))
else(
some (.go v18)))
def zbS(N:Nat)(p0:S_haruspexref15_Draft)(p1:A8_Intu8)(p2:Int):Option Bool:=
(zll).bind λr1=>
bif r1 then(
(zaW N p0).bind λr4=>
(zbD r4).bind λr6=>
((bif (r6.2.2.2 == 0)then(
bif r6.1 then(
some (!r6.2.1))
else(
some true))
else(
some true):Option Bool)).bind λv42=>
bif v42 then(
some (r6.2.2.2 == 0))
else(
(znK (w64 p2) (r4.cards.length:Int)).bind λq11=>
(zbG r4).bind λr13=>
(zaS r13 (w64 ((r4.gates.length:Int) - 1))).bind λx15=>
(znX .u64 x15 q11).bind λq17=>
bif ((zkD .u64 q17 1)== 0)then(
some true)
else(
(zcq r4.cards p1).bind λr20=>
(zaS r20 q11).bind λx22=>
(zfp r20 q11 (-1)).bind λy24=>
(zaV r4 y24).bind λr26=>
(zbu r4 y24).bind λr28=>
((bif (r26.2 == 0)then(
some (!(r28.2 == 0)))
else(
some true):Option Bool)).bind λv87=>
bif v87 then(
((bif (r26.2 == 0)then(
bif (r28.2 == 0)then(
some true)
else(
some (r28.2 == 6)))
else(
bif (r26.2 == 6)then(
bif (r28.2 == 0)then(
some true)
else(
some (r28.2 == 6)))
else(
some false)):Option Bool)).bind λv6=>
some v6)
else(
((bif ((r28.1.length:Int)==(r4.cards.length:Int))then(
(zaS r28.1 q11).bind λx33=>
(zaS r4.cards q11).bind λx35=>
some (!((x33.length:Int)== x35)))
else(
some true):Option Bool)).bind λv120=>
bif v120 then(
some false)
else(
(zaS r4.cards q11).bind λx38=>
((zaQ x38 q11 r4 r28 (x38 - 0+2:Int).toNat 0 0 y24:Option (Out Int Bool))).bind λo=>match o with
| .go v18=>(
some (v18 == r26.1))
| .ret r=>some r)))))
else(
some false)
theorem ze2{N:Nat}{p0:S_haruspexref15_Draft}{p1:A8_Intu8}{p2:Int}{r:Bool}(h:zbS N p0 p1 p2=some r):Lx.Fn mC 4 [(.agg [(fzE false (eI .u8) p0.cards),(fzE false zaD p0.gates),(dB p0.big)]),(.agg [(dU8 p1.a0),(dU8 p1.a1),(dU8 p1.a2),(dU8 p1.a3),(dU8 p1.a4),(dU8 p1.a5),(dU8 p1.a6),(dU8 p1.a7)]),(dU8 p2)] (dB r):=by
 refine gnO ?_;unfold zbS at h;refine zaa ?_;obtain⟨r1,g2,h⟩:=bind_some h;try simp only[rnA,Nat.reduceEqDiff,Nat.reduceLT,Nat.reduceAdd,reduceCtorEq]
 refine EvL.fn (zrw g2) rfl rfl .nil ?_;try simp only[rnA,Nat.reduceEqDiff,Nat.reduceLT,reduceCtorEq]
 cases c3:r1
 .rw[c3,qcS]at h;try simp only[rnA,Nat.reduceLT]
  replace h:=qae h; subst h;exact zc7.ret rfl (.lit _)
 rw[c3,qcR]at h;obtain⟨r4,g5,h⟩:=bind_some h;try simp only[rnA,Nat.reduceEqDiff,Nat.reduceLT,Nat.reduceAdd,Nat.reduceLeDiff,reduceCtorEq]
 refine EvL.fn (zeq g5) rfl rfl (.cons (.zl2 (.cons (zaM _ _ (λh=>nomatch h)) (.cons (zaM _ _ (λh=>nomatch h)) (.cons (.lit _) .nil)))) .nil) ?_;obtain⟨r6,g7,h⟩:=bind_some h;try simp only[rnA,Nat.reduceEqDiff,Nat.reduceLT,Nat.reduceAdd,Nat.reduceLeDiff,reduceCtorEq]
 refine EvL.fn (zf1 g7) rfl rfl (.cons (.zl2 (.cons (zaM _ _ (λh=>nomatch h)) (.cons (zaM _ _ (λh=>nomatch h)) .nil))) .nil) ?_;try simp only[rnA,Nat.reduceEqDiff,Nat.reduceLT,reduceCtorEq]
 obtain⟨o1,j1,h⟩:=bind_some h;obtain⟨T1,hT1⟩:=mkT λa:Bool=>⟨159,[(2,(dU8 p2)),(4,(.ptr 1 0)),(7,(.ptr 2 0)),(11,(dI r6.2.2.2)),(42,(dB a))],[.gone,.cells [(dU8 p1.a0),(dU8 p1.a1),(dU8 p1.a2),(dU8 p1.a3),(dU8 p1.a4),(dU8 p1.a5),(dU8 p1.a6),(dU8 p1.a7)],.cells [(fzE true (eI .i64) r4.cards),(fzE true zab r4.gates)]]⟩
 refine EvL.jn T1 (λa=>a=o1) ?_ ?_
 .refine zaa ?_;try simp only[rnA,Nat.reduceEqDiff,Nat.reduceLT,reduceCtorEq]
  cases c8:(r6.2.2.2 == 0)
  .rw[c8,qcS]at j1;try simp only[rnA,Nat.reduceEqDiff,Nat.reduceLT,reduceCtorEq]
   replace j1:=qae j1; subst j1;exact lfj hT1 rfl (wm0 [.d,.k,.k] ⟨rfl,⟨MB.cs ⟨qcQ,qcQ,qcQ,qcQ,qcQ,qcQ,qcQ,qcQ,qcQ⟩,⟨MB.cs ⟨qcQ,qcQ,qcQ⟩,qcQ⟩⟩⟩)
  rw[c8,qcR]at j1;try simp only[rnA,Nat.reduceEqDiff,Nat.reduceLT,reduceCtorEq]
  cases c9:r6.1
  .rw[c9,qcS]at j1;try simp only[rnA,Nat.reduceEqDiff,Nat.reduceLT,reduceCtorEq]
   replace j1:=qae j1; subst j1;exact lfj hT1 rfl (wm0 [.d,.k,.k] ⟨rfl,⟨MB.cs ⟨qcQ,qcQ,qcQ,qcQ,qcQ,qcQ,qcQ,qcQ,qcQ⟩,⟨MB.cs ⟨qcQ,qcQ,qcQ⟩,qcQ⟩⟩⟩)
  rw[c9,qcR]at j1;try simp only[rnA,Nat.reduceEqDiff,Nat.reduceLT,reduceCtorEq]
  replace j1:=qae j1; subst j1;exact lfj hT1 rfl (wm0 [.d,.k,.k] ⟨rfl,⟨MB.cs ⟨qcQ,qcQ,qcQ,qcQ,qcQ,qcQ,qcQ,qcQ,qcQ⟩,⟨MB.cs ⟨qcQ,qcQ,qcQ⟩,qcQ⟩⟩⟩)
 rintro v42 rfl;rw[congrFun hT1 v42];refine zaa ?_;try simp only[rnA,Nat.reduceEqDiff]
 cases c10:v42
 .rw[c10,qcS]at h;obtain⟨q11,g12,h⟩:=bind_some h;obtain⟨r13,g14,h⟩:=bind_some h;try simp only[rnA,Nat.reduceEqDiff,Nat.reduceLT,Nat.reduceAdd,Nat.reduceLeDiff,zal,zin g12,ziq g12]
  refine EvL.fn (zf0 g14) rfl rfl (.cons (.zl2 (.cons (zaM _ _ (λh=>nomatch h)) (.cons (zaM _ _ (λh=>nomatch h)) .nil))) .nil) ?_;obtain⟨x15,g16,h⟩:=bind_some h;obtain⟨q17,g18,h⟩:=bind_some h;try simp only[rnA,Nat.reduceEqDiff,Nat.reduceLT,zai (n:=1) (e:=(eI .u64)) rfl g16,(zb0 g18).1,(zb0 g18).2]
  cases c19:((zkD .u64 q17 1)== 0)
  .rw[c19,qcS]at h;obtain⟨r20,g21,h⟩:=bind_some h;try simp only[rnA,Nat.reduceEqDiff,Nat.reduceLT,Nat.reduceAdd,Nat.reduceLeDiff]
   refine EvL.fnT (r:=(.sl 4 0 1 r20.length none r20.length)) (L':=[.gone,.cells [(dU8 p1.a0),(dU8 p1.a1),(dU8 p1.a2),(dU8 p1.a3),(dU8 p1.a4),(dU8 p1.a5),(dU8 p1.a6),(dU8 p1.a7)],.cells [(fzE true (eI .i64) r4.cards),(fzE true zab r4.gates)],.gone,.grow 1 (r20.map ((eI .i64).c true))]) (ziZ g21) rfl rfl (.cons (zmN _ _ (λh=>by cases h<;>contradiction)) (.cons (Mzs.agg (.cons (.lit _) (.cons (.lit _) (.cons (.lit _) (.cons (.lit _) (.cons (.lit _) (.cons (.lit _) (.cons (.lit _) (.cons (.lit _) .nil))))))))) .nil)) ⟨(zlK _ _),⟨qcQ,qcQ,qcQ,qcQ,qcQ,qcQ,qcQ,qcQ,qcQ⟩,qcQ⟩ ⟨qcQ,qcQ⟩ ⟨qcQ,(zud (eI .i64) (λ_=>⟨qcQ,qcQ⟩) _),qcQ⟩ rfl rfl ?_;obtain⟨x22,g23,h⟩:=bind_some h;obtain⟨y24,g25,h⟩:=bind_some h;obtain⟨r26,g27,h⟩:=bind_some h;try simp only[rnA,Nat.reduceEqDiff,Nat.reduceLT,Nat.reduceAdd,Nat.reduceLeDiff,zbb g23,(show q11<((r20.length:Nat):Int)from zbc g23),zaz g23 ((eI .i64).c true),(show(r20.map ((eI .i64).c true)).set q11.toNat [(dI (-1))]=y24.map ((eI .i64).c true)from zbz g25 ((eI .i64).c true))]
   refine EvL.fn (zea g27) rfl rfl (.cons (.zl2 (.cons (zaM _ _ (λh=>nomatch h)) (.cons (zaM _ _ (λh=>nomatch h)) .nil))) (.cons (zcS (e:=(eI .i64)) (t:=true) rfl (.inr rfl) (zbg g25).symm (zbg g25).symm (λk h=>nomatch h) (λh=>nomatch h)) .nil)) ?_;obtain⟨r28,g29,h⟩:=bind_some h;try simp only[rnA,Nat.reduceEqDiff,Nat.reduceLT,Nat.reduceAdd,Nat.reduceLeDiff]
   refine EvL.fn (zfN g29) rfl rfl (.cons (.zl2 (.cons (zaM _ _ (λh=>nomatch h)) (.cons (zaM _ _ (λh=>nomatch h)) .nil))) (.cons (zcS (e:=(eI .i64)) (t:=true) rfl (.inr rfl) (zbg g25).symm (zbg g25).symm (λk h=>nomatch h) (λh=>nomatch h)) .nil)) ?_;try simp only[rnA,Nat.reduceEqDiff,Nat.reduceLT]
   obtain⟨o2,j2,h⟩:=bind_some h;obtain⟨T2,hT2⟩:=mkT λa:Bool=>⟨159,[(7,(.ptr 2 0)),(12,(dI q11)),(13,(.sl 4 0 1 r20.length none r20.length)),(14,(dI r26.1)),(15,(dI r26.2)),(16,(fzE true (eL (eI .i64)) r28.1)),(17,(dI r28.2)),(87,(dB a))],[.gone,.gone,.cells [(fzE true (eI .i64) r4.cards),(fzE true zab r4.gates)],.gone,.grow 1 (y24.map ((eI .i64).c true))]⟩
   refine EvL.jn T2 (λa=>a=o2) ?_ ?_
   .refine zaa ?_;try simp only[rnA,Nat.reduceEqDiff,Nat.reduceLT]
    cases c30:(r26.2 == 0)
    .rw[c30,qcS]at j2;try simp only[rnA,Nat.reduceEqDiff,Nat.reduceLT]
     replace j2:=qae j2; subst j2;exact lfj hT2 rfl (wm0 [.d,.d,.k,.d,.k] ⟨rfl,⟨rfl,⟨MB.cs ⟨qcQ,qcQ,qcQ⟩,⟨rfl,⟨MB.gs (eI .i64) true y24,qcQ⟩⟩⟩⟩⟩)
    rw[c30,qcR]at j2;try simp only[rnA,Nat.reduceEqDiff,Nat.reduceLT]
    replace j2:=qae j2; subst j2;exact lfj hT2 rfl (wm0 [.d,.d,.k,.d,.k] ⟨rfl,⟨rfl,⟨MB.cs ⟨qcQ,qcQ,qcQ⟩,⟨rfl,⟨MB.gs (eI .i64) true y24,qcQ⟩⟩⟩⟩⟩)
   rintro v87 rfl;rw[congrFun hT2 v87];refine zaa ?_;try simp only[rnA,Nat.reduceEqDiff]
   cases c31:v87
   .rw[c31,qcS]at h;try simp only[rnA]
    obtain⟨o3,j3,h⟩:=bind_some h;obtain⟨T3,hT3⟩:=mkT λa:Bool=>⟨159,[(7,(.ptr 2 0)),(12,(dI q11)),(13,(.sl 4 0 1 r20.length none r20.length)),(14,(dI r26.1)),(16,(fzE true (eL (eI .i64)) r28.1)),(120,(dB a))],[.gone,.gone,.cells [(fzE true (eI .i64) r4.cards),(fzE true zab r4.gates)],.gone,.grow 1 (y24.map ((eI .i64).c true))]⟩
    refine EvL.jn T3 (λa=>a=o3) ?_ ?_
    .refine zaa ?_;try simp only[rnA,Nat.reduceEqDiff,Nat.reduceLT,zal]
     cases c32:((r28.1.length:Int)==(r4.cards.length:Int))
     .rw[c32,qcS]at j3;try simp only[rnA,Nat.reduceEqDiff,Nat.reduceLT]
      replace j3:=qae j3; subst j3;exact lfj hT3 rfl (wm0 [.d,.d,.k,.d,.k] ⟨rfl,⟨rfl,⟨MB.cs ⟨qcQ,qcQ,qcQ⟩,⟨rfl,⟨MB.gs (eI .i64) true y24,qcQ⟩⟩⟩⟩⟩)
     rw[c32,qcR]at j3;obtain⟨x33,g34,j3⟩:=bind_some j3;obtain⟨x35,g36,j3⟩:=bind_some j3;try simp only[rnA,Nat.reduceEqDiff,Nat.reduceLT,zai (n:=1) (e:=(eL (eI .i64))) rfl g34,zal,zai (n:=1) (e:=(eI .i64)) rfl g36]
     replace j3:=qae j3; subst j3;exact lfj hT3 rfl (wm0 [.d,.d,.k,.d,.k] ⟨rfl,⟨rfl,⟨MB.cs ⟨qcQ,qcQ,qcQ⟩,⟨rfl,⟨MB.gs (eI .i64) true y24,qcQ⟩⟩⟩⟩⟩)
    rintro v120 rfl;rw[congrFun hT3 v120];refine zaa ?_;try simp only[rnA,Nat.reduceEqDiff]
    cases c37:v120
    .rw[c37,qcS]at h;obtain⟨x38,g39,h⟩:=bind_some h;try simp only[rnA,Nat.reduceEqDiff,Nat.reduceLT,zai (n:=1) (e:=(eI .i64)) rfl g39]
     obtain⟨o7,j7,h⟩:=bind_some h;obtain⟨T7,hT7⟩:=mkT λa:Int=>⟨159,[(14,(dI r26.1)),(18,(dI a))],[]⟩
     refine EvL.jn T7 (λa=>o7=.go a) ?_ ?_
     .refine zaa ?_;simp only[rnA];obtain⟨T10,hT10⟩:=mkT λa:(Int×Int×(List Int))=>⟨159,[(7,(.ptr 2 0)),(12,(dI q11)),(13,(.sl 4 0 1 a.2.2.length none a.2.2.length)),(14,(dI r26.1)),(16,(fzE true (eL (eI .i64)) r28.1)),(18,(dI a.1)),(125,(dI x38)),(126,(dI a.2.1))],[.gone,.gone,.cells [(fzE true (eI .i64) r4.cards),(fzE true zab r4.gates)],.gone,.grow 1 (a.2.2.map ((eI .i64).c true))]⟩
      refine EvL.rounds (α:=(Int×Int×(List Int))) T10 (λn a=>zaQ x38 q11 r4 r28 n a.1 a.2.1 a.2.2=some o7) (x38 - 0+2:Int).toNat (0,0,y24) (by rw[hT10]; exact za9.m0 [.d,.d,.k,.d,.k] rfl (msq (msq (ms (by simp only[zbg g25]; rfl) rfl (msq (msq (msq (msq (msq trivial)))))))) ⟨rfl,⟨rfl,⟨MB.cs ⟨qcQ,qcQ,qcQ⟩,⟨rfl,⟨MB.gs (eI .i64) true y24,qcQ⟩⟩⟩⟩⟩) j7 (λ_ h=>nomatch (show(none:Option (Out Int Bool))=some o7 from h)) ?_;rintro n ⟨v18,v126,l4⟩ j7;simp only[zaQ]at j7;rw[congrFun hT10 (v18,v126,l4)];refine zaa ?_;try simp only[rnA,Nat.reduceEqDiff,Nat.reduceLT]
      cases c40:(decide (v126<x38))
      .rw[c40,qcS]at j7;try simp only[rnA]
       replace j7:=qae j7; subst j7;exact lfj hT7 rfl (wm0 [] (by exact trivial))
      rw[c40,qcR]at j7;obtain⟨x41,g42,j7⟩:=bind_some j7;obtain⟨y43,g44,j7⟩:=bind_some j7;obtain⟨r45,g46,j7⟩:=bind_some j7;try simp only[rnA,Nat.reduceEqDiff,Nat.reduceLT,Nat.reduceAdd,Nat.reduceLeDiff,zbb g42,(show q11<((l4.length:Nat):Int)from zbc g42),zaz g42 ((eI .i64).c true),(show(l4.map ((eI .i64).c true)).set q11.toNat [(dI v126)]=y43.map ((eI .i64).c true)from zbz g44 ((eI .i64).c true))]
      refine EvL.fn (zea g46) rfl rfl (.cons (.zl2 (.cons (zaM _ _ (λh=>nomatch h)) (.cons (zaM _ _ (λh=>nomatch h)) .nil))) (.cons (zcS (e:=(eI .i64)) (t:=true) rfl (.inr rfl) (zbg g44).symm (zbg g44).symm (λk h=>nomatch h) (λh=>nomatch h)) .nil)) ?_;try simp only[rnA,Nat.reduceEqDiff,Nat.reduceLT]
      obtain⟨o11,j11,j7⟩:=bind_some j7;obtain⟨T11,hT11⟩:=mkT λa:Bool=>⟨159,[(7,(.ptr 2 0)),(12,(dI q11)),(13,(.sl 4 0 1 l4.length none l4.length)),(14,(dI r26.1)),(16,(fzE true (eL (eI .i64)) r28.1)),(18,(dI v18)),(20,(dI r45.1)),(125,(dI x38)),(126,(dI v126)),(151,(dB a))],[.gone,.gone,.cells [(fzE true (eI .i64) r4.cards),(fzE true zab r4.gates)],.gone,.grow 1 (y43.map ((eI .i64).c true))]⟩
      refine EvL.jn T11 (λa=>a=o11) ?_ ?_
      .refine zaa ?_;try simp only[rnA,Nat.reduceEqDiff,Nat.reduceLT]
       cases c47:(r45.2 == 0)
       .rw[c47,qcS]at j11;try simp only[rnA,Nat.reduceEqDiff,Nat.reduceLT]
        replace j11:=qae j11; subst j11;exact lfj hT11 rfl (wm0 [.d,.d,.k,.d,.k] ⟨rfl,⟨rfl,⟨MB.cs ⟨qcQ,qcQ,qcQ⟩,⟨rfl,⟨MB.gs (eI .i64) true y43,qcQ⟩⟩⟩⟩⟩)
       rw[c47,qcR]at j11;obtain⟨x48,g49,j11⟩:=bind_some j11;obtain⟨x50,g51,j11⟩:=bind_some j11;try simp only[rnA,Nat.reduceEqDiff,Nat.reduceLT,zai (n:=1) (e:=(eL (eI .i64))) rfl g49,zai (n:=1) (e:=(eI .i64)) rfl g51]
       replace j11:=qae j11; subst j11;exact lfj hT11 rfl (wm0 [.d,.d,.k,.d,.k] ⟨rfl,⟨rfl,⟨MB.cs ⟨qcQ,qcQ,qcQ⟩,⟨rfl,⟨MB.gs (eI .i64) true y43,qcQ⟩⟩⟩⟩⟩)
      rintro v151 rfl;rw[congrFun hT11 v151];refine zaa ?_;try simp only[rnA,Nat.reduceEqDiff]
      cases c52:v151
      .rw[c52,qcS]at j7;try simp only[rnA,Nat.reduceEqDiff,Nat.reduceLT]
       exact⟨((w64 (v18+r45.1)),(w64 (v126+1)),y43),j7,by rw[hT10]; exact za9.m0 [.d,.d,.k,.d,.k] rfl (msq (msq (ms (by simp only[zbg g44]; rfl) rfl (msq (msq (msq (msq (msq trivial)))))))) ⟨rfl,⟨rfl,⟨MB.cs ⟨qcQ,qcQ,qcQ⟩,⟨rfl,⟨MB.gs (eI .i64) true y43,qcQ⟩⟩⟩⟩⟩⟩
      rw[c52,qcR]at j7;try simp only[rnA,Nat.reduceLT]
      replace j7:=qae j7; subst j7;dsimp only at h;replace h:=qae h; subst h;exact zc7.ret rfl (.lit _)
     rintro v18 rfl;dsimp only at h;rw[congrFun hT7 v18];refine zaa ?_;try simp only[rnA,Nat.reduceEqDiff,Nat.reduceLT]
     replace h:=qae h; subst h;exact zc7.ret rfl (.lit _)
    rw[c37,qcR]at h;try simp only[rnA,Nat.reduceLT]
    replace h:=qae h; subst h;exact zc7.ret rfl (.lit _)
   rw[c31,qcR]at h;try simp only[rnA]
   obtain⟨o12,j12,h⟩:=bind_some h;obtain⟨T12,hT12⟩:=mkT λa:Bool=>⟨159,[(6,(dB a))],[]⟩
   refine EvL.jn T12 (λa=>a=o12) ?_ ?_
   .refine zaa ?_;try simp only[rnA,Nat.reduceEqDiff,Nat.reduceLT]
    cases c53:(r26.2 == 0)
    .rw[c53,qcS]at j12;try simp only[rnA,Nat.reduceEqDiff,Nat.reduceLT]
     cases c54:(r26.2 == 6)
     .rw[c54,qcS]at j12;try simp only[rnA,Nat.reduceEqDiff,Nat.reduceLT]
      replace j12:=qae j12; subst j12;exact lfj hT12 rfl (wm0 [] (by exact trivial))
     rw[c54,qcR]at j12;try simp only[rnA,Nat.reduceEqDiff,Nat.reduceLT]
     cases c55:(r28.2 == 0)
     .rw[c55,qcS]at j12;try simp only[rnA,Nat.reduceEqDiff,Nat.reduceLT]
      replace j12:=qae j12; subst j12;exact lfj hT12 rfl (wm0 [] (by exact trivial))
     rw[c55,qcR]at j12;try simp only[rnA,Nat.reduceEqDiff,Nat.reduceLT]
     replace j12:=qae j12; subst j12;exact lfj hT12 rfl (wm0 [] (by exact trivial))
    rw[c53,qcR]at j12;try simp only[rnA,Nat.reduceEqDiff,Nat.reduceLT]
    cases c56:(r28.2 == 0)
    .rw[c56,qcS]at j12;try simp only[rnA,Nat.reduceEqDiff,Nat.reduceLT]
     replace j12:=qae j12; subst j12;exact lfj hT12 rfl (wm0 [] (by exact trivial))
    rw[c56,qcR]at j12;try simp only[rnA,Nat.reduceEqDiff,Nat.reduceLT]
    replace j12:=qae j12; subst j12;exact lfj hT12 rfl (wm0 [] (by exact trivial))
   rintro v6 rfl;rw[congrFun hT12 v6];refine zaa ?_;try simp only[rnA]
   replace h:=qae h; subst h;exact zc7.ret rfl (.lit _)
  rw[c19,qcR]at h;try simp only[rnA,Nat.reduceLT]
  replace h:=qae h; subst h;exact zc7.ret rfl (.lit _)
 rw[c10,qcR]at h;try simp only[rnA,Nat.reduceEqDiff,Nat.reduceLT]
 replace h:=qae h; subst h;exact zc7.ret rfl (.lit _)
end Go.Dc
