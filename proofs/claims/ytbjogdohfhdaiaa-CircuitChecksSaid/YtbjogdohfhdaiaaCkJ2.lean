/-
 What r15_Right computes. Conditions: none.
-/
import Derived.Test.YtbjogdohfhdaiaaCkJ1
set_option linter.unusedSimpArgs false
set_option linter.unusedVariables false
set_option maxRecDepth 100000
set_option maxHeartbeats 4000000
namespace Go.Dc
open Go Go.Mx Go.Lx Go.Proofs
def zcm(p0:S_api_Circuit):Nat->Int->Option (Out Unit Bool)
 | 0,_=>none
 | n+1,v3=>(
bif (decide (v3<(p0.gates.length:Int)))then(
(zaH p0.gates v3).bind λx7=>
(zdu x7 v3 p0.cards).bind λr9=>
bif r9 then(
zcm p0 n (w64 (v3+1)))
else(
some (.ret false)))
else(
some (.go ())))
def zc2(p0:S_api_Circuit):Option Bool:=
(((zc6 p0.cards).bind λr1=>
bif r1 then(
bif (decide ((p0.gates.length:Int)<1))then(
some true)
else(
some (decide (4000<(p0.gates.length:Int)))))
else(
some true):Option Bool)).bind λv19=>
bif v19 then(
some false)
else(
((zcm p0 ((p0.gates.length:Int) - 0+2:Int).toNat 0:Option (Out Unit Bool))).bind λo=>match o with
| .go _=>(
some true)
| .ret r=>some r)
variable{p0:S_api_Circuit}{r:Bool}
theorem zj1(h:zc2 p0=some r):Lx.Fn mC 10 [(.agg [(fzE false (eI .i64) p0.cards),(fzE false zaa p0.gates)])] (dB r):=by
 refine gnO ?_;unfold zc2 at h;refine zab ?_;try simp only[rnA,Nat.reduceLT]
 obtain⟨o1,j1,h⟩:=bind_some h;obtain⟨T1,hT1⟩:=mkT λa:Bool=>⟨37,[(1,(.ptr 0 0)),(19,(dB a))],[.cells [(fzE false (eI .i64) p0.cards),(fzE false zaa p0.gates)]]⟩
 refine EvL.jn T1 (λa=>a=o1) ?_ ?_
 .refine zab ?_;obtain⟨r1,g2,j1⟩:=bind_some j1;try simp only[rnA,Nat.reduceEqDiff,Nat.reduceLT,reduceCtorEq]
  refine EvL.fn (zj9 g2) rfl rfl (.cons (zah _ _ (λh=>nomatch h)) .nil) ?_;try simp only[rnA,Nat.reduceEqDiff,Nat.reduceLT,reduceCtorEq]
  cases c3:r1
  .rw[c3,qcF]at j1;try simp only[rnA,Nat.reduceEqDiff,Nat.reduceLT,reduceCtorEq]
   replace j1:=qaa j1; subst j1;exact lfj hT1 rfl (wm0 [.k] ⟨MB.cs ⟨qcD,qcD,qcD⟩,qcD⟩)
  rw[c3,qcE]at j1;try simp only[rnA,Nat.reduceEqDiff,Nat.reduceLT,reduceCtorEq,zaf]
  cases c4:(decide ((p0.gates.length:Int)<1))
  .rw[c4,qcF]at j1;try simp only[rnA,Nat.reduceEqDiff,Nat.reduceLT,reduceCtorEq,zaf]
   replace j1:=qaa j1; subst j1;exact lfj hT1 rfl (wm0 [.k] ⟨MB.cs ⟨qcD,qcD,qcD⟩,qcD⟩)
  rw[c4,qcE]at j1;try simp only[rnA,Nat.reduceEqDiff,Nat.reduceLT,reduceCtorEq]
  replace j1:=qaa j1; subst j1;exact lfj hT1 rfl (wm0 [.k] ⟨MB.cs ⟨qcD,qcD,qcD⟩,qcD⟩)
 rintro v19 rfl;rw[congrFun hT1 v19];refine zab ?_;try simp only[rnA,Nat.reduceEqDiff]
 cases c5:v19
 .rw[c5,qcF]at h;try simp only[rnA,Nat.reduceLT]
  obtain⟨o2,j2,h⟩:=bind_some h;obtain⟨T2,hT2⟩:=mkT λa:Unit=>⟨37,[],[]⟩
  refine EvL.jn T2 (λa=>o2=.go a) ?_ ?_
  .refine zab ?_;simp only[rnA];obtain⟨T3,hT3⟩:=mkT λa:Int=>⟨37,[(1,(.ptr 0 0)),(3,(dI a))],[.cells [(fzE false (eI .i64) p0.cards),(fzE false zaa p0.gates)]]⟩
   refine EvL.rounds (α:=Int) T3 (λn a=>zcm p0 n a=some o2) ((p0.gates.length:Int) - 0+2:Int).toNat 0 (by rw[hT3]; exact wm0 [.k] ⟨MB.cs ⟨qcD,qcD,qcD⟩,qcD⟩) j2 (λ_ h=>nomatch (show(none:Option (Out Unit Bool))=some o2 from h)) ?_;rintro n v3 j2;simp only[zcm]at j2;rw[congrFun hT3 v3];refine zab ?_;try simp only[rnA,Nat.reduceEqDiff,Nat.reduceLT,zaf]
   cases c6:(decide (v3<(p0.gates.length:Int)))
   .rw[c6,qcF]at j2;try simp only[rnA]
    replace j2:=qaa j2; subst j2;exact lfj hT2 rfl (wm0 [] (by exact trivial))
   rw[c6,qcE]at j2;obtain⟨x7,g8,j2⟩:=bind_some j2;obtain⟨r9,g10,j2⟩:=bind_some j2;try simp only[rnA,Nat.reduceEqDiff,Nat.reduceLT,Nat.reduceAdd,Nat.reduceLeDiff,zal,zai (n:=5) (e:=zaa) rfl g8]
   refine EvL.fn (zlf g10) rfl rfl (.cons (.zdp (.cons (.lit _) (.cons (.lit _) (.cons (.lit _) (.cons (.lit _) (.cons (zah _ _ (λh=>nomatch h)) .nil)))))) (.cons (.lit _) (.cons (zah _ _ (λh=>nomatch h)) .nil))) ?_;try simp only[rnA,Nat.reduceEqDiff,Nat.reduceLT]
   cases c11:r9
   .rw[c11,qcF]at j2;try simp only[rnA,Nat.reduceLT]
    replace j2:=qaa j2; subst j2;dsimp only at h;replace h:=qaa h; subst h;exact zbT.ret rfl (.lit _)
   rw[c11,qcE]at j2;try simp only[rnA,Nat.reduceEqDiff,Nat.reduceLT]
   exact⟨(w64 (v3+1)),j2,by rw[hT3]; exact wm0 [.k] ⟨MB.cs ⟨qcD,qcD,qcD⟩,qcD⟩⟩
  rintro⟨⟩ rfl;dsimp only at h;rw[congrFun hT2 ()];refine zab ?_;try simp only[rnA,Nat.reduceLT]
  replace h:=qaa h; subst h;exact zbT.ret rfl (.lit _)
 rw[c5,qcE]at h;try simp only[rnA,Nat.reduceLT]
 replace h:=qaa h; subst h;exact zbT.ret rfl (.lit _)
def zaQ(p2:S_api_Gate)(p1:Int):Nat->Int->Int->Option (Out Unit Bool)
 | 0,_,_=>none
 | n+1,v7,v103=>(
bif (decide (v103<(p2.args.length:Int)))then(
(zaH p2.args v103).bind λx10=>
((bif (decide (x10<=v7))then(
some true)
else(
some (decide (p1<=x10))):Option Bool)).bind λv114=>
bif v114 then(
some (.ret false))
else(
zaQ p2 p1 n x10 (w64 (v103+1))))
else(
some (.go ())))
def zba(p0:S_api_Circuit)(p1:Int)(p2:S_api_Gate):Option Bool:=
bif (p2.kind == 1)then(
((bif (decide (0<=p2.n))then(
bif (decide (p2.n<=4611686018427387903))then(
bif (p2.var == 0)then(
bif (p2.val == 0)then(
some ((p2.args.length:Int)== 0))
else(
some false))
else(
some false))
else(
some false))
else(
some false):Option Bool)).bind λv6=>
some v6)
else(
bif (p2.kind == 2)then(
((bif (decide (0<=p2.var))then(
bif (decide (p2.var<(p0.cards.length:Int)))then(
bif (decide (0<=p2.val))then(
(zaH p0.cards p2.var).bind λx17=>
bif (decide (p2.val<x17))then(
bif (p2.n == 0)then(
some ((p2.args.length:Int)== 0))
else(
some false))
else(
some false))
else(
some false))
else(
some false))
else(
some false):Option Bool)).bind λv6=>
some v6)
else(
((bif (p2.kind == 3)then(
some true)
else(
some (p2.kind == 4)):Option Bool)).bind λv78=>
bif v78 then(
((bif (p2.var == 0)then(
bif (p2.val == 0)then(
bif (p2.n == 0)then(
some ((p2.args.length:Int)== 0))
else(
some true))
else(
some true))
else(
some true):Option Bool)).bind λv99=>
bif v99 then(
some false)
else(
((zaQ p2 p1 ((p2.args.length:Int) - 0+2:Int).toNat (-1) 0:Option (Out Unit Bool))).bind λo=>match o with
| .go _=>(
some true)
| .ret r=>some r))
else(
some false)))
def zde:C:=
 .seq (rg [oW 3 0,
 oW 5 2,
 oJ 6 false])
 (.seq (.seq (rg [oF 10 0 5,
 oL 11 10])
 (.block 0 (.seq (rg [oD 13 .eql 11 1,
 oM 12 13])
 (.cond (.s 12) (.seq (.scope (rg [oF 14 3 5,
 oL 15 14,
 oD 16 .geq 15 0,
 oM 17 16,
 oFg 18 3 5 17 true,
 oLg 19 18 17 true,
 oDg 20 .leq 19 4611686018427387903 17 true,
 ⟨some 21,.pick (.s 17) (.s 20) (.c (.bool false)),none⟩,
 oM 22 21,
 oFg 23 1 5 22 true,
 oLg 24 23 22 true,
 oDg 25 .eql 24 0 22 true,
 ⟨some 26,.pick (.s 22) (.s 25) (.c (.bool false)),none⟩,
 oM 27 26,
 oFg 28 2 5 27 true,
 oLg 29 28 27 true,
 oDg 30 .eql 29 0 27 true,
 ⟨some 31,.pick (.s 27) (.s 30) (.c (.bool false)),none⟩,
 oM 32 31,
 oFg 33 4 5 32 true,
 oLg 34 33 32 true,
 ⟨some 35,.len (.s 34),some (32,true)⟩,
 oDg 36 .eql 35 0 32 true,
 ⟨some 37,.pick (.s 32) (.s 36) (.c (.bool false)),none⟩,
 oM 6 37]))
 (.ret))
 (.seq (rg [oD 39 .eql 11 2,
 oM 38 39])
 (.cond (.s 38) (.seq (.scope (.reg true false [oF 40 1 5,
 oL 41 40,
 oD 42 .geq 41 0,
 oM 43 42,
 oFg 44 1 5 43 true,
 oLg 45 44 43 true,
 oFg 46 0 3 43 true,
 oLg 47 46 43 true,
 ⟨some 48,.len (.s 47),some (43,true)⟩,
 ⟨some 49,.bin .lss (.s 45) (.s 48),some (43,true)⟩,
 ⟨some 50,.pick (.s 43) (.s 49) (.c (.bool false)),none⟩,
 oM 51 50,
 oFg 52 2 5 51 true,
 oLg 53 52 51 true,
 oDg 54 .geq 53 0 51 true,
 ⟨some 55,.pick (.s 51) (.s 54) (.c (.bool false)),none⟩,
 oM 56 55,
 oFg 57 2 5 56 true,
 oLg 58 57 56 true,
 oFg 59 0 3 56 true,
 oLg 60 59 56 true,
 oFg 61 1 5 56 true,
 oLg 62 61 56 true,
 ⟨some 63,.idxS 1 (.s 60) (.s 62),some (56,true)⟩,
 oLg 64 63 56 true,
 ⟨some 65,.bin .lss (.s 58) (.s 64),some (56,true)⟩,
 ⟨some 66,.pick (.s 56) (.s 65) (.c (.bool false)),none⟩,
 oM 67 66,
 oFg 68 3 5 67 true,
 oLg 69 68 67 true,
 oDg 70 .eql 69 0 67 true,
 ⟨some 71,.pick (.s 67) (.s 70) (.c (.bool false)),none⟩,
 oM 72 71,
 oFg 73 4 5 72 true,
 oLg 74 73 72 true,
 ⟨some 75,.len (.s 74),some (72,true)⟩,
 oDg 76 .eql 75 0 72 true,
 ⟨some 77,.pick (.s 72) (.s 76) (.c (.bool false)),none⟩,
 oM 6 77]))
 (.ret))
 (.seq (.seq (rg [oD 79 .eql 11 3,
 oM 78 79])
 (.scope (.cond (.s 78) (.skip)
 (rg [oD 80 .eql 11 4,
 oM 78 80]))))
 (.cond (.s 78) (.seq (.seq (.scope (rg [oF 81 1 5,
 oL 82 81,
 oD 83 .neq 82 0,
 oM 84 83,
 oFg 85 2 5 84 false,
 oLg 86 85 84 false,
 oDg 87 .neq 86 0 84 false,
 oP 88 84 87,
 oM 89 88,
 oFg 90 3 5 89 false,
 oLg 91 90 89 false,
 oDg 92 .neq 91 0 89 false,
 oP 93 89 92,
 oM 94 93,
 oFg 95 4 5 94 false,
 oLg 96 95 94 false,
 ⟨some 97,.len (.s 96),some (94,false)⟩,
 oDg 98 .eql 97 0 94 false,
 oP 99 94 98]))
 (.cond (.s 99) (.seq (rg [oJ 6 false])
 (.ret))
 (.skip)))
 (.seq (rg [⟨some 7,.mov (.c (.int .i64 (-1))),none⟩])
 (.seq (.seq (rg [oF 100 4 5,
 oL 101 100,
 oE 102 101,
 oK 103 0])
 (.scope (.block 1 (.loop (.seq (rg [oB 104 .lss 103 102])
 (.seq (.cond (.s 104) (.skip)
 (.exit 1))
 (.seq (.block 2 (.seq (rg [oI 105 1 101 103,
 oL 106 105,
 oM 9 106])
 (.seq (.seq (.scope (rg [oM 107 9,
 oM 108 7,
 oB 109 .leq 107 108,
 oM 110 109,
 oMg 111 9 110 false,
 oMg 112 1 110 false,
 ⟨some 113,.bin .geq (.s 111) (.s 112),some (110,false)⟩,
 oP 114 110 113]))
 (.cond (.s 114) (.seq (rg [oJ 6 false])
 (.ret))
 (.skip)))
 (rg [oM 115 9,
 oM 7 115]))))
 (rg [oD 116 .add 103 1,
 oM 103 116]))))))))
 (.seq (rg [oJ 6 true])
 (.ret)))))
 (.skip)))))))))
 (.seq (rg [oJ 6 false])
 (.ret)))
theorem zer:znz mC 54=some (117,zde,[.tmp 6],false):=zea (by kernel_rfl)
variable{p1:Int}
theorem zeM{p2:S_api_Gate}(h:zba p0 p1 p2=some r):Lx.Fn mC 54 [(.agg [(fzE false (eI .i64) p0.cards),(fzE false zaa p0.gates)]),(dI p1),(.agg [(dI p2.kind),(dI p2.var),(dI p2.val),(dI p2.n),(fzE false (eI .i64) p2.args)])] (dB r):=by
 refine Fn.of zer (zdc rfl) (qai rfl) ?_;unfold zba at h;simp only[zde,zvq];refine zab ?_;try simp only[rnA,Nat.reduceEqDiff,Nat.reduceLT,Nat.reduceAdd,reduceCtorEq]
 cases c1:(p2.kind == 1)
 .rw[c1,qcF]at h;try simp only[rnA,Nat.reduceEqDiff,Nat.reduceLT,reduceCtorEq]
  cases c2:(p2.kind == 2)
  .rw[c2,qcF]at h;try simp only[rnA,Nat.reduceEqDiff,Nat.reduceLT,reduceCtorEq]
   obtain⟨o1,j1,h⟩:=bind_some h;obtain⟨T1,hT1⟩:=mkT λa:Bool=>⟨117,[(1,(dI p1)),(5,(.ptr 1 0)),(78,(dB a))],[.gone,.cells [(dI p2.kind),(dI p2.var),(dI p2.val),(dI p2.n),(fzE false (eI .i64) p2.args)]]⟩
   refine EvL.jn T1 (λa=>a=o1) ?_ ?_
   .refine zab ?_;try simp only[rnA,Nat.reduceEqDiff,reduceCtorEq]
    cases c3:(p2.kind == 3)
    .rw[c3,qcF]at j1;try simp only[rnA,Nat.reduceEqDiff,Nat.reduceLT,reduceCtorEq]
     replace j1:=qaa j1; subst j1;exact lfj hT1 rfl (wm0 [.d,.k] ⟨rfl,⟨MB.cs ⟨qcD,qcD,qcD,qcD,qcD,qcD⟩,qcD⟩⟩)
    rw[c3,qcE]at j1;try simp only[rnA]
    replace j1:=qaa j1; subst j1;exact lfj hT1 rfl (wm0 [.d,.k] ⟨rfl,⟨MB.cs ⟨qcD,qcD,qcD,qcD,qcD,qcD⟩,qcD⟩⟩)
   rintro v78 rfl;rw[congrFun hT1 v78];refine zab ?_;try simp only[rnA,Nat.reduceEqDiff]
   cases c4:v78
   .rw[c4,qcF]at h;try simp only[rnA,Nat.reduceLT]
    replace h:=qaa h; subst h;exact zbT.ret rfl (.lit _)
   rw[c4,qcE]at h;try simp only[rnA]
   obtain⟨o2,j2,h⟩:=bind_some h;obtain⟨T2,hT2⟩:=mkT λa:Bool=>⟨117,[(1,(dI p1)),(5,(.ptr 1 0)),(99,(dB a))],[.gone,.cells [(dI p2.kind),(dI p2.var),(dI p2.val),(dI p2.n),(fzE false (eI .i64) p2.args)]]⟩
   refine EvL.jn T2 (λa=>a=o2) ?_ ?_
   .refine zab ?_;try simp only[rnA,Nat.reduceEqDiff,Nat.reduceLT]
    cases c5:(p2.var == 0)
    .rw[c5,qcF]at j2;try simp only[rnA,Nat.reduceEqDiff,Nat.reduceLT]
     replace j2:=qaa j2; subst j2;exact lfj hT2 rfl (wm0 [.d,.k] ⟨rfl,⟨MB.cs ⟨qcD,qcD,qcD,qcD,qcD,qcD⟩,qcD⟩⟩)
    rw[c5,qcE]at j2;try simp only[rnA,Nat.reduceEqDiff,Nat.reduceLT]
    cases c6:(p2.val == 0)
    .rw[c6,qcF]at j2;try simp only[rnA,Nat.reduceEqDiff,Nat.reduceLT]
     replace j2:=qaa j2; subst j2;exact lfj hT2 rfl (wm0 [.d,.k] ⟨rfl,⟨MB.cs ⟨qcD,qcD,qcD,qcD,qcD,qcD⟩,qcD⟩⟩)
    rw[c6,qcE]at j2;try simp only[rnA,Nat.reduceEqDiff,Nat.reduceLT]
    cases c7:(p2.n == 0)
    .rw[c7,qcF]at j2;try simp only[rnA,Nat.reduceEqDiff,Nat.reduceLT]
     replace j2:=qaa j2; subst j2;exact lfj hT2 rfl (wm0 [.d,.k] ⟨rfl,⟨MB.cs ⟨qcD,qcD,qcD,qcD,qcD,qcD⟩,qcD⟩⟩)
    rw[c7,qcE]at j2;try simp only[rnA,Nat.reduceEqDiff,Nat.reduceLT,zaf]
    replace j2:=qaa j2; subst j2;exact lfj hT2 rfl (wm0 [.d,.k] ⟨rfl,⟨MB.cs ⟨qcD,qcD,qcD,qcD,qcD,qcD⟩,qcD⟩⟩)
   rintro v99 rfl;rw[congrFun hT2 v99];refine zab ?_;try simp only[rnA,Nat.reduceEqDiff]
   cases c8:v99
   .rw[c8,qcF]at h;try simp only[rnA,Nat.reduceEqDiff,Nat.reduceLT,zaf]
    obtain⟨o6,j6,h⟩:=bind_some h;obtain⟨T6,hT6⟩:=mkT λa:Unit=>⟨117,[],[]⟩
    refine EvL.jn T6 (λa=>o6=.go a) ?_ ?_
    .refine zab ?_;simp only[rnA];obtain⟨T9,hT9⟩:=mkT λa:(Int×Int)=>⟨117,[(1,(dI p1)),(7,(dI a.1)),(101,(fzE false (eI .i64) p2.args)),(102,(dI (p2.args.length:Int))),(103,(dI a.2))],[]⟩
     refine EvL.rounds (α:=(Int×Int)) T9 (λn a=>zaQ p2 p1 n a.1 a.2=some o6) ((p2.args.length:Int) - 0+2:Int).toNat ((-1),0) (by rw[hT9]; exact wm0 [] (by exact trivial)) j6 (λ_ h=>nomatch (show(none:Option (Out Unit Bool))=some o6 from h)) ?_;rintro n ⟨v7,v103⟩ j6;simp only[zaQ]at j6;rw[congrFun hT9 (v7,v103)];refine zab ?_;try simp only[rnA,Nat.reduceEqDiff,Nat.reduceLT]
     cases c9:(decide (v103<(p2.args.length:Int)))
     .rw[c9,qcF]at j6;try simp only[rnA,Nat.reduceLT,reduceCtorEq]
      replace j6:=qaa j6; subst j6;exact lfj hT6 rfl (wm0 [] (by exact trivial))
     rw[c9,qcE]at j6;obtain⟨x10,g11,j6⟩:=bind_some j6;try simp only[rnA,Nat.reduceEqDiff,Nat.reduceLT,zai (n:=1) (e:=(eI .i64)) rfl g11]
     obtain⟨o10,j10,j6⟩:=bind_some j6;obtain⟨T10,hT10⟩:=mkT λa:Bool=>⟨117,[(1,(dI p1)),(9,(dI x10)),(101,(fzE false (eI .i64) p2.args)),(102,(dI (p2.args.length:Int))),(103,(dI v103)),(114,(dB a))],[]⟩
     refine EvL.jn T10 (λa=>a=o10) ?_ ?_
     .refine zab ?_;try simp only[rnA,Nat.reduceEqDiff,Nat.reduceLT]
      cases c12:(decide (x10<=v7))
      .rw[c12,qcF]at j10;try simp only[rnA,Nat.reduceEqDiff,Nat.reduceLT]
       replace j10:=qaa j10; subst j10;exact lfj hT10 rfl (wm0 [] (by exact trivial))
      rw[c12,qcE]at j10;try simp only[rnA,Nat.reduceEqDiff,Nat.reduceLT]
      replace j10:=qaa j10; subst j10;exact lfj hT10 rfl (wm0 [] (by exact trivial))
     rintro v114 rfl;rw[congrFun hT10 v114];refine zab ?_;try simp only[rnA,Nat.reduceEqDiff]
     cases c13:v114
     .rw[c13,qcF]at j6;try simp only[rnA,Nat.reduceEqDiff,Nat.reduceLT]
      exact⟨(x10,(w64 (v103+1))),j6,by rw[hT9]; exact wm0 [] (by exact trivial)⟩
     rw[c13,qcE]at j6;try simp only[rnA,Nat.reduceLT]
     replace j6:=qaa j6; subst j6;dsimp only at h;replace h:=qaa h; subst h;exact zbT.ret rfl (.lit _)
    rintro⟨⟩ rfl;dsimp only at h;rw[congrFun hT6 ()];refine zab ?_;try simp only[rnA,Nat.reduceLT]
    replace h:=qaa h; subst h;exact zbT.ret rfl (.lit _)
   rw[c8,qcE]at h;try simp only[rnA,Nat.reduceLT]
   replace h:=qaa h; subst h;exact zbT.ret rfl (.lit _)
  rw[c2,qcE]at h;try simp only[rnA]
  obtain⟨o11,j11,h⟩:=bind_some h;obtain⟨T11,hT11⟩:=mkT λa:Bool=>⟨117,[(6,(dB a))],[]⟩
  refine EvL.jn T11 (λa=>a=o11) ?_ ?_
  .refine zab ?_;try simp only[rnA,Nat.reduceEqDiff,Nat.reduceLT,reduceCtorEq]
   cases c14:(decide (0<=p2.var))
   .rw[c14,qcF]at j11;try simp only[rnA,Nat.reduceEqDiff,Nat.reduceLT,reduceCtorEq]
    replace j11:=qaa j11; subst j11;exact lfj hT11 rfl (wm0 [] (by exact trivial))
   rw[c14,qcE]at j11;try simp only[rnA,Nat.reduceEqDiff,Nat.reduceLT,reduceCtorEq,zaf]
   cases c15:(decide (p2.var<(p0.cards.length:Int)))
   .rw[c15,qcF]at j11;try simp only[rnA,Nat.reduceEqDiff,Nat.reduceLT,reduceCtorEq]
    replace j11:=qaa j11; subst j11;exact lfj hT11 rfl (wm0 [] (by exact trivial))
   rw[c15,qcE]at j11;try simp only[rnA,Nat.reduceEqDiff,Nat.reduceLT,reduceCtorEq]
   cases c16:(decide (0<=p2.val))
   .rw[c16,qcF]at j11;try simp only[rnA,Nat.reduceEqDiff,Nat.reduceLT,reduceCtorEq]
    replace j11:=qaa j11; subst j11;exact lfj hT11 rfl (wm0 [] (by exact trivial))
   rw[c16,qcE]at j11;obtain⟨x17,g18,j11⟩:=bind_some j11;try simp only[rnA,Nat.reduceEqDiff,Nat.reduceLT,reduceCtorEq,zai (n:=1) (e:=(eI .i64)) rfl g18]
   cases c19:(decide (p2.val<x17))
   .rw[c19,qcF]at j11;try simp only[rnA,Nat.reduceEqDiff,Nat.reduceLT,reduceCtorEq]
    replace j11:=qaa j11; subst j11;exact lfj hT11 rfl (wm0 [] (by exact trivial))
   rw[c19,qcE]at j11;try simp only[rnA,Nat.reduceEqDiff,Nat.reduceLT,reduceCtorEq]
   cases c20:(p2.n == 0)
   .rw[c20,qcF]at j11;try simp only[rnA,Nat.reduceEqDiff,Nat.reduceLT,reduceCtorEq]
    replace j11:=qaa j11; subst j11;exact lfj hT11 rfl (wm0 [] (by exact trivial))
   rw[c20,qcE]at j11;try simp only[rnA,Nat.reduceEqDiff,Nat.reduceLT,reduceCtorEq,zaf]
   replace j11:=qaa j11; subst j11;exact lfj hT11 rfl (wm0 [] (by exact trivial))
  rintro v6 rfl;rw[congrFun hT11 v6];refine zab ?_;try simp only[rnA]
  replace h:=qaa h; subst h;exact zbT.ret rfl (.lit _)
 rw[c1,qcE]at h;try simp only[rnA]
 obtain⟨o12,j12,h⟩:=bind_some h;obtain⟨T12,hT12⟩:=mkT λa:Bool=>⟨117,[(6,(dB a))],[]⟩
 refine EvL.jn T12 (λa=>a=o12) ?_ ?_
 .refine zab ?_;try simp only[rnA,Nat.reduceEqDiff,Nat.reduceLT,reduceCtorEq]
  cases c21:(decide (0<=p2.n))
  .rw[c21,qcF]at j12;try simp only[rnA,Nat.reduceEqDiff,Nat.reduceLT,reduceCtorEq]
   replace j12:=qaa j12; subst j12;exact lfj hT12 rfl (wm0 [] (by exact trivial))
  rw[c21,qcE]at j12;try simp only[rnA,Nat.reduceEqDiff,Nat.reduceLT,reduceCtorEq]
  cases c22:(decide (p2.n<=4611686018427387903))
  .rw[c22,qcF]at j12;try simp only[rnA,Nat.reduceEqDiff,Nat.reduceLT,reduceCtorEq]
   replace j12:=qaa j12; subst j12;exact lfj hT12 rfl (wm0 [] (by exact trivial))
  rw[c22,qcE]at j12;try simp only[rnA,Nat.reduceEqDiff,Nat.reduceLT,reduceCtorEq]
  cases c23:(p2.var == 0)
  .rw[c23,qcF]at j12;try simp only[rnA,Nat.reduceEqDiff,Nat.reduceLT,reduceCtorEq]
   replace j12:=qaa j12; subst j12;exact lfj hT12 rfl (wm0 [] (by exact trivial))
  rw[c23,qcE]at j12;try simp only[rnA,Nat.reduceEqDiff,Nat.reduceLT,reduceCtorEq]
  cases c24:(p2.val == 0)
  .rw[c24,qcF]at j12;try simp only[rnA,Nat.reduceEqDiff,Nat.reduceLT,reduceCtorEq]
   replace j12:=qaa j12; subst j12;exact lfj hT12 rfl (wm0 [] (by exact trivial))
  rw[c24,qcE]at j12;try simp only[rnA,Nat.reduceEqDiff,Nat.reduceLT,reduceCtorEq,zaf]
  replace j12:=qaa j12; subst j12;exact lfj hT12 rfl (wm0 [] (by exact trivial))
 rintro v6 rfl;rw[congrFun hT12 v6];refine zab ?_;try simp only[rnA]
 replace h:=qaa h; subst h;exact zbT.ret rfl (.lit _)
def zbl(p0:S_api_Circuit):Nat->Int->Int->Option (Out Int Int)
 | 0,_,_=>none
 | n+1,v3,v33=>(
bif (decide (v33<(p0.cards.length:Int)))then(
(zaH p0.cards v33).bind λx6=>
((bif (decide (x6<1))then(
some true)
else(
some (decide (4<x6))):Option Bool)).bind λv42=>
bif v42 then(
some (.ret 150))
else(
zbl p0 n (w64 (v3 * x6)) (w64 (v33+1))))
else(
some (.go v3)))
def zbj(p0:S_api_Circuit):Nat->Int->Option (Out Unit Int)
 | 0,_=>none
 | n+1,v52=>(
bif (decide (v52<(p0.gates.length:Int)))then(
(zaH p0.gates v52).bind λx12=>
(zba p0 v52 x12).bind λr14=>
bif r14 then(
zbj p0 n (w64 (v52+1)))
else(
some (.ret 150)))
else(
some (.go ())))
def za9(p0:S_api_Circuit):Option Int:=
((bif (decide ((p0.cards.length:Int)<1))then(
some true)
else(
bif (decide (8<(p0.cards.length:Int)))then(
some true)
else(
bif (decide ((p0.gates.length:Int)<1))then(
some true)
else(
some (decide (4000<(p0.gates.length:Int)))))):Option Bool)).bind λv29=>
bif v29 then(
some 150)
else(
((zbl p0 ((p0.cards.length:Int) - 0+2:Int).toNat 1 0:Option (Out Int Int))).bind λo=>match o with
| .go v3=>(
bif (decide (1024<v3))then(
some 150)
else(
((zbj p0 ((p0.gates.length:Int) - 0+2:Int).toNat 0:Option (Out Unit Int))).bind λo=>match o with
| .go _=>(
some 0)
| .ret r=>some r))
| .ret r=>some r)
theorem zcO{r:Int}(h:za9 p0=some r):Lx.Fn mC 11 [(.agg [(fzE false (eI .i64) p0.cards),(fzE false zaa p0.gates)])] (dI r):=by
 refine gnO ?_;unfold za9 at h;refine zab ?_;try simp only[rnA,Nat.reduceLT]
 obtain⟨o1,j1,h⟩:=bind_some h;obtain⟨T1,hT1⟩:=mkT λa:Bool=>⟨63,[(1,(.ptr 0 0)),(29,(dB a))],[.cells [(fzE false (eI .i64) p0.cards),(fzE false zaa p0.gates)]]⟩
 refine EvL.jn T1 (λa=>a=o1) ?_ ?_
 .refine zab ?_;try simp only[rnA,Nat.reduceEqDiff,Nat.reduceLT,reduceCtorEq,zaf]
  cases c1:(decide ((p0.cards.length:Int)<1))
  .rw[c1,qcF]at j1;try simp only[rnA,Nat.reduceEqDiff,Nat.reduceLT,reduceCtorEq,zaf]
   cases c2:(decide (8<(p0.cards.length:Int)))
   .rw[c2,qcF]at j1;try simp only[rnA,Nat.reduceEqDiff,Nat.reduceLT,reduceCtorEq,zaf]
    cases c3:(decide ((p0.gates.length:Int)<1))
    .rw[c3,qcF]at j1;try simp only[rnA,Nat.reduceEqDiff,Nat.reduceLT,reduceCtorEq,zaf]
     replace j1:=qaa j1; subst j1;exact lfj hT1 rfl (wm0 [.k] ⟨MB.cs ⟨qcD,qcD,qcD⟩,qcD⟩)
    rw[c3,qcE]at j1;try simp only[rnA,Nat.reduceEqDiff,Nat.reduceLT,reduceCtorEq]
    replace j1:=qaa j1; subst j1;exact lfj hT1 rfl (wm0 [.k] ⟨MB.cs ⟨qcD,qcD,qcD⟩,qcD⟩)
   rw[c2,qcE]at j1;try simp only[rnA,Nat.reduceEqDiff,Nat.reduceLT,reduceCtorEq]
   replace j1:=qaa j1; subst j1;exact lfj hT1 rfl (wm0 [.k] ⟨MB.cs ⟨qcD,qcD,qcD⟩,qcD⟩)
  rw[c1,qcE]at j1;try simp only[rnA,Nat.reduceEqDiff,Nat.reduceLT,reduceCtorEq]
  replace j1:=qaa j1; subst j1;exact lfj hT1 rfl (wm0 [.k] ⟨MB.cs ⟨qcD,qcD,qcD⟩,qcD⟩)
 rintro v29 rfl;rw[congrFun hT1 v29];refine zab ?_;try simp only[rnA,Nat.reduceEqDiff]
 cases c4:v29
 .rw[c4,qcF]at h;try simp only[rnA,Nat.reduceEqDiff,Nat.reduceLT,zaf]
  obtain⟨o5,j5,h⟩:=bind_some h;obtain⟨T5,hT5⟩:=mkT λa:Int=>⟨63,[(1,(.ptr 0 0)),(3,(dI a))],[.cells [(fzE false (eI .i64) p0.cards),(fzE false zaa p0.gates)]]⟩
  refine EvL.jn T5 (λa=>o5=.go a) ?_ ?_
  .refine zab ?_;simp only[rnA];obtain⟨T8,hT8⟩:=mkT λa:(Int×Int)=>⟨63,[(1,(.ptr 0 0)),(3,(dI a.1)),(31,(fzE false (eI .i64) p0.cards)),(32,(dI (p0.cards.length:Int))),(33,(dI a.2))],[.cells [(fzE false (eI .i64) p0.cards),(fzE false zaa p0.gates)]]⟩
   refine EvL.rounds (α:=(Int×Int)) T8 (λn a=>zbl p0 n a.1 a.2=some o5) ((p0.cards.length:Int) - 0+2:Int).toNat (1,0) (by rw[hT8]; exact wm0 [.k] ⟨MB.cs ⟨qcD,qcD,qcD⟩,qcD⟩) j5 (λ_ h=>nomatch (show(none:Option (Out Int Int))=some o5 from h)) ?_;rintro n ⟨v3,v33⟩ j5;simp only[zbl]at j5;rw[congrFun hT8 (v3,v33)];refine zab ?_;try simp only[rnA,Nat.reduceEqDiff,Nat.reduceLT]
   cases c5:(decide (v33<(p0.cards.length:Int)))
   .rw[c5,qcF]at j5;try simp only[rnA]
    replace j5:=qaa j5; subst j5;exact lfj hT5 rfl (wm0 [.k] ⟨MB.cs ⟨qcD,qcD,qcD⟩,qcD⟩)
   rw[c5,qcE]at j5;obtain⟨x6,g7,j5⟩:=bind_some j5;try simp only[rnA,Nat.reduceEqDiff,Nat.reduceLT,zai (n:=1) (e:=(eI .i64)) rfl g7]
   obtain⟨o9,j9,j5⟩:=bind_some j5;obtain⟨T9,hT9⟩:=mkT λa:Bool=>⟨63,[(1,(.ptr 0 0)),(3,(dI v3)),(5,(dI x6)),(31,(fzE false (eI .i64) p0.cards)),(32,(dI (p0.cards.length:Int))),(33,(dI v33)),(42,(dB a))],[.cells [(fzE false (eI .i64) p0.cards),(fzE false zaa p0.gates)]]⟩
   refine EvL.jn T9 (λa=>a=o9) ?_ ?_
   .refine zab ?_;try simp only[rnA,Nat.reduceEqDiff,Nat.reduceLT]
    cases c8:(decide (x6<1))
    .rw[c8,qcF]at j9;try simp only[rnA,Nat.reduceEqDiff,Nat.reduceLT]
     replace j9:=qaa j9; subst j9;exact lfj hT9 rfl (wm0 [.k] ⟨MB.cs ⟨qcD,qcD,qcD⟩,qcD⟩)
    rw[c8,qcE]at j9;try simp only[rnA,Nat.reduceEqDiff,Nat.reduceLT]
    replace j9:=qaa j9; subst j9;exact lfj hT9 rfl (wm0 [.k] ⟨MB.cs ⟨qcD,qcD,qcD⟩,qcD⟩)
   rintro v42 rfl;rw[congrFun hT9 v42];refine zab ?_;try simp only[rnA,Nat.reduceEqDiff]
   cases c9:v42
   .rw[c9,qcF]at j5;try simp only[rnA,Nat.reduceEqDiff,Nat.reduceLT]
    exact⟨((w64 (v3 * x6)),(w64 (v33+1))),j5,by rw[hT8]; exact wm0 [.k] ⟨MB.cs ⟨qcD,qcD,qcD⟩,qcD⟩⟩
   rw[c9,qcE]at j5;try simp only[rnA,Nat.reduceLT]
   replace j5:=qaa j5; subst j5;dsimp only at h;replace h:=qaa h; subst h;exact zbT.ret rfl (.lit _)
  rintro v3 rfl;dsimp only at h;rw[congrFun hT5 v3];refine zab ?_;try simp only[rnA,Nat.reduceEqDiff,Nat.reduceLT]
  cases c10:(decide (1024<v3))
  .rw[c10,qcF]at h;try simp only[rnA,Nat.reduceEqDiff,Nat.reduceLT,zaf]
   obtain⟨o10,j10,h⟩:=bind_some h;obtain⟨T10,hT10⟩:=mkT λa:Unit=>⟨63,[],[]⟩
   refine EvL.jn T10 (λa=>o10=.go a) ?_ ?_
   .refine zab ?_;simp only[rnA];obtain⟨T11,hT11⟩:=mkT λa:Int=>⟨63,[(1,(.ptr 0 0)),(50,(fzE false zaa p0.gates)),(51,(dI (p0.gates.length:Int))),(52,(dI a))],[.cells [(fzE false (eI .i64) p0.cards),(fzE false zaa p0.gates)]]⟩
    refine EvL.rounds (α:=Int) T11 (λn a=>zbj p0 n a=some o10) ((p0.gates.length:Int) - 0+2:Int).toNat 0 (by rw[hT11]; exact wm0 [.k] ⟨MB.cs ⟨qcD,qcD,qcD⟩,qcD⟩) j10 (λ_ h=>nomatch (show(none:Option (Out Unit Int))=some o10 from h)) ?_;rintro n v52 j10;simp only[zbj]at j10;rw[congrFun hT11 v52];refine zab ?_;try simp only[rnA,Nat.reduceEqDiff,Nat.reduceLT]
    cases c11:(decide (v52<(p0.gates.length:Int)))
    .rw[c11,qcF]at j10;try simp only[rnA]
     replace j10:=qaa j10; subst j10;exact lfj hT10 rfl (wm0 [] (by exact trivial))
    rw[c11,qcE]at j10;obtain⟨x12,g13,j10⟩:=bind_some j10;obtain⟨r14,g15,j10⟩:=bind_some j10;try simp only[rnA,Nat.reduceEqDiff,Nat.reduceLT,Nat.reduceAdd,Nat.reduceLeDiff,zal,zai (n:=5) (e:=zaa) rfl g13]
    refine EvL.fn (zeM g15) rfl rfl (.cons (.zdp (.cons (zah _ _ (λh=>nomatch h)) (.cons (zah _ _ (λh=>nomatch h)) .nil))) (.cons (.lit _) (.cons (.zdp (.cons (.lit _) (.cons (.lit _) (.cons (.lit _) (.cons (.lit _) (.cons (zah _ _ (λh=>nomatch h)) .nil)))))) .nil))) ?_;try simp only[rnA,Nat.reduceEqDiff,Nat.reduceLT]
    cases c16:r14
    .rw[c16,qcF]at j10;try simp only[rnA,Nat.reduceLT]
     replace j10:=qaa j10; subst j10;dsimp only at h;replace h:=qaa h; subst h;exact zbT.ret rfl (.lit _)
    rw[c16,qcE]at j10;try simp only[rnA,Nat.reduceEqDiff,Nat.reduceLT]
    exact⟨(w64 (v52+1)),j10,by rw[hT11]; exact wm0 [.k] ⟨MB.cs ⟨qcD,qcD,qcD⟩,qcD⟩⟩
   rintro⟨⟩ rfl;dsimp only at h;rw[congrFun hT10 ()];refine zab ?_;try simp only[rnA,Nat.reduceLT]
   replace h:=qaa h; subst h;exact zbT.ret rfl (.lit _)
  rw[c10,qcE]at h;try simp only[rnA,Nat.reduceLT]
  replace h:=qaa h; subst h;exact zbT.ret rfl (.lit _)
 rw[c4,qcE]at h;try simp only[rnA,Nat.reduceLT]
 replace h:=qaa h; subst h;exact zbT.ret rfl (.lit _)
def zbk(x2:S_api_Gate)(l1:(List Int)):Nat->Int->Int->Option Int
 | 0,_,_=>none
 | n+1,v6',v7=>(
bif (decide (v7<(x2.args.length:Int)))then(
(zaH x2.args v7).bind λx8=>
(zaH l1 x8).bind λx10=>
zbk x2 l1 n (orI .u64 v6' x10) (w64 (v7+1)))
else(
some v6'))
def zbi(p0:S_api_Circuit):Nat->Int->(List Int)->Option (List Int)
 | 0,_,_=>none
 | n+1,v4,l1=>(
bif (decide (v4<(p0.gates.length:Int)))then(
(zaH p0.gates v4).bind λx2=>
((bif (x2.kind == 2)then(
(zny .u64 1 (IntKind.u64.wrap x2.var)).bind λq5=>
some q5)
else(
some 0):Option Int)).bind λv6=>
((zbk x2 l1 ((x2.args.length:Int) - 0+2:Int).toNat v6 0:Option Int)).bind λv6'=>
(zeo 8 l1 [v6']).bind λy12=>
zbi p0 n (w64 (v4+1)) y12)
else(
some l1))
def zbu(p0:S_api_Circuit):Option (List Int):=
((zbi p0 ((p0.gates.length:Int) - 0+2:Int).toNat 0 []:Option (List Int))).bind λl1=>
some l1
theorem zdU{r:(List Int)}(h:zbu p0=some r):Lx.Fn mC 18 [(.agg [(fzE false (eI .i64) p0.cards),(fzE false zaa p0.gates)])] (fzE true (eI .u64) r):=by
 refine gnO ?_;unfold zbu at h;refine zab ?_;try simp only[rnA,Nat.reduceLT]
 obtain⟨o13,j13,h⟩:=bind_some h;obtain⟨T13,hT13⟩:=mkT λa:(List Int)=>⟨49,[(3,(.sl 1 0 1 a.length none a.length))],[.gone,.grow 1 (a.map ((eI .u64).c true))]⟩
 refine EvL.jn T13 (λa=>a=o13) ?_ ?_
 .refine zab ?_;simp only[rnA];obtain⟨T23,hT23⟩:=mkT λa:(Int×(List Int))=>⟨49,[(1,(.ptr 0 0)),(3,(.sl 1 0 1 a.2.length none a.2.length)),(4,(dI a.1))],[.cells [(fzE false (eI .i64) p0.cards),(fzE false zaa p0.gates)],.grow 1 (a.2.map ((eI .u64).c true))]⟩
  refine EvL.zpL (zbQ.ghost (n:=1) (k:=3) (by decide) rfl) ?_;refine EvL.rounds (α:=(Int×(List Int))) T23 (λn a=>zbi p0 n a.1 a.2=some o13) ((p0.gates.length:Int) - 0+2:Int).toNat (0,[]) (by rw[hT23]; exact wm0 [.k,.k] ⟨MB.cs ⟨qcD,qcD,qcD⟩,⟨MB.gs (eI .u64) true [],qcD⟩⟩) j13 (λ_ h=>nomatch (show(none:Option (List Int))=some o13 from h)) ?_;rintro n ⟨v4,l1⟩ j13;simp only[zbi]at j13;rw[congrFun hT23 (v4,l1)];refine zab ?_;try simp only[rnA,Nat.reduceEqDiff,Nat.reduceLT,zaf]
  cases c1:(decide (v4<(p0.gates.length:Int)))
  .rw[c1,qcF]at j13;try simp only[rnA]
   replace j13:=qaa j13; subst j13;exact lfj hT13 rfl (wm0 [.d,.k] ⟨rfl,⟨MB.gs (eI .u64) true l1,qcD⟩⟩)
  rw[c1,qcE]at j13;obtain⟨x2,g3,j13⟩:=bind_some j13;try simp only[rnA,Nat.reduceEqDiff,Nat.reduceLT,Nat.reduceAdd,Nat.reduceLeDiff,zal,zai (n:=5) (e:=zaa) rfl g3]
  obtain⟨o24,j24,j13⟩:=bind_some j13;obtain⟨T24,hT24⟩:=mkT λa:Int=>⟨49,[(1,(.ptr 0 0)),(3,(.sl 1 0 1 l1.length none l1.length)),(4,(dI v4)),(5,(.ptr 2 0)),(6,(dU a))],[.cells [(fzE false (eI .i64) p0.cards),(fzE false zaa p0.gates)],.grow 1 (l1.map ((eI .u64).c true)),.cells [(dI x2.kind),(dI x2.var),(dI x2.val),(dI x2.n),(fzE false (eI .i64) x2.args)]]⟩
  refine EvL.jn T24 (λa=>a=o24) ?_ ?_
  .refine zab ?_;try simp only[rnA,Nat.reduceEqDiff]
   cases c4:(x2.kind == 2)
   .rw[c4,qcF]at j24;try simp only[rnA]
    replace j24:=qaa j24; subst j24;exact lfj hT24 rfl (wm0 [.k,.k,.k] ⟨MB.cs ⟨qcD,qcD,qcD⟩,⟨MB.gs (eI .u64) true l1,⟨MB.cs ⟨qcD,qcD,qcD,qcD,qcD,qcD⟩,qcD⟩⟩⟩)
   rw[c4,qcE]at j24;obtain⟨q5,g6,j24⟩:=bind_some j24;try simp only[rnA,Nat.reduceEqDiff,Nat.reduceLT,(zeA g6).1,(zeA g6).2]
   replace j24:=qaa j24; subst j24;exact lfj hT24 rfl (wm0 [.k,.k,.k] ⟨MB.cs ⟨qcD,qcD,qcD⟩,⟨MB.gs (eI .u64) true l1,⟨MB.cs ⟨qcD,qcD,qcD,qcD,qcD,qcD⟩,qcD⟩⟩⟩)
  rintro v6 rfl;rw[congrFun hT24 v6];refine zab ?_;try simp only[rnA,Nat.reduceLT]
  obtain⟨o25,j25,j13⟩:=bind_some j13;obtain⟨T25,hT25⟩:=mkT λa:Int=>⟨49,[(1,(.ptr 0 0)),(3,(.sl 1 0 1 l1.length none l1.length)),(4,(dI v4)),(6,(dU a))],[.cells [(fzE false (eI .i64) p0.cards),(fzE false zaa p0.gates)],.grow 1 (l1.map ((eI .u64).c true))]⟩
  refine EvL.jn T25 (λa=>a=o25) ?_ ?_
  .refine zab ?_;simp only[rnA];obtain⟨T26,hT26⟩:=mkT λa:(Int×Int)=>⟨49,[(1,(.ptr 0 0)),(3,(.sl 1 0 1 l1.length none l1.length)),(4,(dI v4)),(5,(.ptr 2 0)),(6,(dU a.1)),(7,(dI a.2))],[.cells [(fzE false (eI .i64) p0.cards),(fzE false zaa p0.gates)],.grow 1 (l1.map ((eI .u64).c true)),.cells [(dI x2.kind),(dI x2.var),(dI x2.val),(dI x2.n),(fzE false (eI .i64) x2.args)]]⟩
   refine EvL.rounds (α:=(Int×Int)) T26 (λn a=>zbk x2 l1 n a.1 a.2=some o25) ((x2.args.length:Int) - 0+2:Int).toNat (v6,0) (by rw[hT26]; exact wm0 [.k,.k,.k] ⟨MB.cs ⟨qcD,qcD,qcD⟩,⟨MB.gs (eI .u64) true l1,⟨MB.cs ⟨qcD,qcD,qcD,qcD,qcD,qcD⟩,qcD⟩⟩⟩) j25 (λ_ h=>nomatch (show(none:Option Int)=some o25 from h)) ?_;rintro n ⟨v6',v7⟩ j25;simp only[zbk]at j25;rw[congrFun hT26 (v6',v7)];refine zab ?_;try simp only[rnA,Nat.reduceEqDiff,Nat.reduceLT,zaf]
   cases c7:(decide (v7<(x2.args.length:Int)))
   .rw[c7,qcF]at j25;try simp only[rnA,Nat.reduceEqDiff,Nat.reduceLT,reduceCtorEq]
    replace j25:=qaa j25; subst j25;exact lfj hT25 rfl (wm0 [.k,.k] ⟨MB.cs ⟨qcD,qcD,qcD⟩,⟨MB.gs (eI .u64) true l1,qcD⟩⟩)
   rw[c7,qcE]at j25;obtain⟨x8,g9,j25⟩:=bind_some j25;obtain⟨x10,g11,j25⟩:=bind_some j25;try simp only[rnA,Nat.reduceEqDiff,Nat.reduceLT,zai (n:=1) (e:=(eI .i64)) rfl g9,zbh g11,(show x8<((l1.length:Nat):Int)from zbg g11),zaC g11 ((eI .u64).c true)]
   exact⟨((orI .u64 v6' x10),(w64 (v7+1))),j25,by rw[hT26]; exact wm0 [.k,.k,.k] ⟨MB.cs ⟨qcD,qcD,qcD⟩,⟨MB.gs (eI .u64) true l1,⟨MB.cs ⟨qcD,qcD,qcD,qcD,qcD,qcD⟩,qcD⟩⟩⟩⟩
  rintro v6' rfl;rw[congrFun hT25 v6'];refine zab ?_;obtain⟨y12,g13,j13⟩:=bind_some j13;try simp only[rnA,Nat.reduceEqDiff,Nat.reduceLT,Nat.reduceAdd,Nat.reduceLeDiff,zcT g13,(show l1.length+1=y12.length from zcd g13),(show l1.map ((eI .u64).c true)++ [[(dU v6')]]=y12.map ((eI .u64).c true)from zc7 g13 ((eI .u64).c true))]
  exact⟨((w64 (v4+1)),y12),j13,by rw[hT23]; exact wm0 [.k,.k] ⟨MB.cs ⟨qcD,qcD,qcD⟩,⟨MB.gs (eI .u64) true y12,qcD⟩⟩⟩
 rintro l1 rfl;rw[congrFun hT13 l1];refine zab ?_;try simp only[rnA,Nat.reduceEqDiff,Nat.reduceLT]
 replace h:=qaa h; subst h;exact zbT.ret rfl (zaz (e:=(eI .u64)) (t:=true) rfl (.inr rfl) rfl rfl (λk h=>nomatch h) (λ_=>rfl))
def zbd(p0:(List Int)):Nat->Int->Int->Option Int
 | 0,_,_=>none
 | n+1,v3,v8=>(
bif (decide (v8<(p0.length:Int)))then(
(zaH p0 v8).bind λx2=>
zbd p0 n (orI .u64 v3 x2) (w64 (v8+1)))
else(
some v3))
def zbM(p0:(List Int)):Option Int:=
((zbd p0 ((p0.length:Int) - 0+2:Int).toNat 0 0:Option Int)).bind λv3=>
some v3
theorem zex{p0:(List Int)}{r:Int}(h:zbM p0=some r):Lx.Fn mC 56 [(fzE false (eI .u64) p0)] (dU r):=by
 refine gnO ?_;unfold zbM at h;refine zab ?_;try simp only[rnA,Nat.reduceEqDiff,reduceIte,Nat.reduceLT,Nat.reduceAdd,Nat.reduceLeDiff,Nat.reduceMul,Nat.reduceSub,Int.reduceLE,Int.reduceLT,Int.reduceBEq,Nat.reduceBEq,reduceCtorEq,zaf]
 obtain⟨o1,j1,h⟩:=bind_some h;obtain⟨T1,hT1⟩:=mkT λa:Int=>⟨17,[(3,(dU a))],[]⟩
 refine EvL.jn T1 (λa=>a=o1) ?_ ?_
 .refine zab ?_;simp only[rnA,Nat.reduceEqDiff,reduceIte,Nat.reduceLT,Nat.reduceAdd,Nat.reduceLeDiff,Nat.reduceMul,Nat.reduceSub,Int.reduceLE,Int.reduceLT,Int.reduceBEq,Nat.reduceBEq,reduceCtorEq];obtain⟨T2,hT2⟩:=mkT λa:(Int×Int)=>⟨17,[(3,(dU a.1)),(6,(fzE false (eI .u64) p0)),(7,(dI (p0.length:Int))),(8,(dI a.2))],[]⟩
  refine EvL.rounds (α:=(Int×Int)) T2 (λn a=>zbd p0 n a.1 a.2=some o1) ((p0.length:Int) - 0+2:Int).toNat (0,0) (by rw[hT2]; exact wm0 [] (by exact trivial)) j1 (λ_ h=>nomatch (show(none:Option Int)=some o1 from h)) ?_;rintro n ⟨v3,v8⟩ j1;simp only[zbd]at j1;rw[congrFun hT2 (v3,v8)];refine zab ?_;try simp only[rnA,Nat.reduceEqDiff,reduceIte,Nat.reduceLT,Nat.reduceAdd,Nat.reduceLeDiff,Nat.reduceMul,Nat.reduceSub,Int.reduceLE,Int.reduceLT,Int.reduceBEq,Nat.reduceBEq,reduceCtorEq]
  cases c1:(decide (v8<(p0.length:Int)))
  .rw[c1,qcF]at j1;try simp only[rnA,Nat.reduceEqDiff,reduceIte,Nat.reduceLT,Nat.reduceAdd,Nat.reduceLeDiff,Nat.reduceMul,Nat.reduceSub,Int.reduceLE,Int.reduceLT,Int.reduceBEq,Nat.reduceBEq,reduceCtorEq,c1]
   replace j1:=qaa j1; subst j1;exact lfj hT1 rfl (wm0 [] (by exact trivial))
  rw[c1,qcE]at j1;obtain⟨x2,g3,j1⟩:=bind_some j1;try simp only[rnA,Nat.reduceEqDiff,reduceIte,Nat.reduceLT,Nat.reduceAdd,Nat.reduceLeDiff,Nat.reduceMul,Nat.reduceSub,Int.reduceLE,Int.reduceLT,Int.reduceBEq,Nat.reduceBEq,reduceCtorEq,zai (n:=1) (e:=(eI .u64)) rfl g3,c1]
  exact⟨((orI .u64 v3 x2),(w64 (v8+1))),j1,by rw[hT2]; exact wm0 [] (by exact trivial)⟩
 rintro v3 rfl;rw[congrFun hT1 v3];refine zab ?_;try simp only[rnA,Nat.reduceEqDiff,reduceIte,Nat.reduceLT,Nat.reduceAdd,Nat.reduceLeDiff,Nat.reduceMul,Nat.reduceSub,Int.reduceLE,Int.reduceLT,Int.reduceBEq,Nat.reduceBEq,reduceCtorEq]
 replace h:=qaa h; subst h;exact zbT.ret rfl (.lit _)
def zaM(x4:S_api_Gate)(v15:Int)(p0:S_api_Circuit):Nat->Int->(List Int)->Option (List Int)
 | 0,_,_=>none
 | n+1,v32,l1''=>(
bif (decide (v32<(x4.args.length:Int)))then(
(zaH x4.args v32).bind λx14=>
(zaH l1'' v15).bind λx16=>
(zaH l1'' x14).bind λx18=>
(zbM [x16,x18]).bind λr20=>
(zfU l1'' v15 r20).bind λy22=>
zaM x4 v15 p0 n (w64 (v32+1)) y22)
else(
some l1''))
def zaR(p0:S_api_Circuit):Nat->Int->(List Int)->Option (List Int)
 | 0,_,_=>none
 | n+1,v15,l1=>(
bif (decide (v15<(p0.gates.length:Int)))then(
(zaH p0.gates v15).bind λx4=>
((bif (x4.kind == 2)then(
(zny .u64 1 x4.var).bind λq7=>
(zaH l1 v15).bind λx9=>
(zfU l1 v15 q7).bind λy11=>
some y11)
else(
some l1):Option (List Int))).bind λl1'=>
((zaM x4 v15 p0 ((x4.args.length:Int) - 0+2:Int).toNat 0 l1':Option (List Int))).bind λl1''=>
zaR p0 n (w64 (v15+1)) l1'')
else(
some l1))
def za8(p0:S_api_Circuit):Option (List Int):=
(zfN 8 (p0.gates.length:Int) 0).bind λy1=>
((zaR p0 ((p0.gates.length:Int) - 0+2:Int).toNat 0 y1:Option (List Int))).bind λl1=>
some l1
theorem zeN{r:(List Int)}(h:za8 p0=some r):Lx.Fn mC 55 [(.agg [(fzE false (eI .i64) p0.cards),(fzE false zaa p0.gates)])] (fzE true (eI .u64) r):=by
 refine gnO ?_;unfold za8 at h;refine zab ?_;obtain⟨y1,g2,h⟩:=bind_some h;try simp only[rnA,Nat.reduceEqDiff,Nat.reduceLT,reduceCtorEq,zaf,(zbv g2).1.1,(zbv g2).1.2,qbN,(show List.replicate (Int.toNat (p0.gates.length:Int)) [(dU 0)]=y1.map ((eI .u64).c true)from zdd g2 ((eI .u64).c true))]
 obtain⟨o10,j10,h⟩:=bind_some h;obtain⟨T10,hT10⟩:=mkT λa:(List Int)=>⟨52,[(3,(.sl 1 0 1 (Int.toNat (p0.gates.length:Int)) (some (Int.toNat (p0.gates.length:Int))) (Int.toNat (p0.gates.length:Int))))],[.gone,.els 1 (a.map ((eI .u64).c true))]⟩
 refine EvL.jn T10 (λa=>a=o10/\a.length=(Int.toNat (p0.gates.length:Int))) ?_ ?_
 .refine zab ?_;simp only[rnA];obtain⟨T17,hT17⟩:=mkT λa:(Int×(List Int))=>⟨52,[(3,(.sl 1 0 1 (Int.toNat (p0.gates.length:Int)) (some (Int.toNat (p0.gates.length:Int))) (Int.toNat (p0.gates.length:Int)))),(13,(fzE false zaa p0.gates)),(14,(dI (p0.gates.length:Int))),(15,(dI a.1))],[.gone,.els 1 (a.2.map ((eI .u64).c true))]⟩
  refine EvL.rounds (α:=(Int×(List Int))) T17 (λn a=>zaR p0 n a.1 a.2=some o10/\a.2.length=(Int.toNat (p0.gates.length:Int))) ((p0.gates.length:Int) - 0+2:Int).toNat (0,y1) (by rw[hT17]; exact wm0 [.d,.k] ⟨rfl,⟨MB.es (eI .u64) true y1,qcD⟩⟩) ⟨j10,zdg g2⟩ (λ_ h=>nomatch (show(none:Option (List Int))=some o10 from h.1)) ?_;rintro n ⟨v15,l1⟩ ⟨j10,el1⟩;simp only[zaR]at j10;rw[congrFun hT17 (v15,l1)];refine zab ?_;try simp only[rnA,Nat.reduceEqDiff,Nat.reduceLT]
  cases c3:(decide (v15<(p0.gates.length:Int)))
  .rw[c3,qcF]at j10;try simp only[rnA]
   replace j10:=qaa j10; subst j10;exact⟨_,⟨rfl,el1⟩,by rw[hT10]; exact wm0 [.d,.k] ⟨rfl,⟨MB.es (eI .u64) true l1,qcD⟩⟩⟩
  rw[c3,qcE]at j10;obtain⟨x4,g5,j10⟩:=bind_some j10;try simp only[rnA,Nat.reduceEqDiff,Nat.reduceLT,Nat.reduceAdd,Nat.reduceLeDiff,zal,zai (n:=5) (e:=zaa) rfl g5]
  obtain⟨o18,j18,j10⟩:=bind_some j10;obtain⟨T18,hT18⟩:=mkT λa:(List Int)=>⟨52,[(3,(.sl 1 0 1 (Int.toNat (p0.gates.length:Int)) (some (Int.toNat (p0.gates.length:Int))) (Int.toNat (p0.gates.length:Int)))),(4,(dI v15)),(5,(.ptr 2 0)),(13,(fzE false zaa p0.gates)),(14,(dI (p0.gates.length:Int))),(15,(dI v15))],[.gone,.els 1 (a.map ((eI .u64).c true)),.cells [(dI x4.kind),(dI x4.var),(dI x4.val),(dI x4.n),(fzE false (eI .i64) x4.args)]]⟩
  refine EvL.jn T18 (λa=>a=o18/\a.length=(Int.toNat (p0.gates.length:Int))) ?_ ?_
  .refine zab ?_;try simp only[rnA,Nat.reduceEqDiff]
   cases c6:(x4.kind == 2)
   .rw[c6,qcF]at j18;try simp only[rnA]
    replace j18:=qaa j18; subst j18;exact⟨_,⟨rfl,el1⟩,by rw[hT18]; exact wm0 [.d,.k,.k] ⟨rfl,⟨MB.es (eI .u64) true l1,⟨MB.cs ⟨qcD,qcD,qcD,qcD,qcD,qcD⟩,qcD⟩⟩⟩⟩
   rw[c6,qcE]at j18;obtain⟨q7,g8,j18⟩:=bind_some j18;obtain⟨x9,g10,j18⟩:=bind_some j18;obtain⟨y11,g12,j18⟩:=bind_some j18;try simp only[rnA,Nat.reduceEqDiff,Nat.reduceLT,Nat.reduceLeDiff,(zeA g8).1,(zeA g8).2,el1,zbh g10,(show v15<(((Int.toNat (p0.gates.length:Int)):Nat):Int)from el1 ▸ zbg g10),zaC g10 ((eI .u64).c true),(show(l1.map ((eI .u64).c true)).set v15.toNat [(dU q7)]=y11.map ((eI .u64).c true)from zbR g12 ((eI .u64).c true))]
   replace j18:=qaa j18; subst j18;exact⟨_,⟨rfl,(zbE g12).trans el1⟩,by rw[hT18]; exact wm0 [.d,.k,.k] ⟨rfl,⟨MB.es (eI .u64) true y11,⟨MB.cs ⟨qcD,qcD,qcD,qcD,qcD,qcD⟩,qcD⟩⟩⟩⟩
  rintro l1' ⟨rfl,el1'⟩;rw[congrFun hT18 l1'];refine zab ?_;try simp only[rnA,Nat.reduceEqDiff,Nat.reduceLT,zaf]
  obtain⟨o19,j19,j10⟩:=bind_some j10;obtain⟨T19,hT19⟩:=mkT λa:(List Int)=>⟨52,[(3,(.sl 1 0 1 (Int.toNat (p0.gates.length:Int)) (some (Int.toNat (p0.gates.length:Int))) (Int.toNat (p0.gates.length:Int)))),(13,(fzE false zaa p0.gates)),(14,(dI (p0.gates.length:Int))),(15,(dI v15))],[.gone,.els 1 (a.map ((eI .u64).c true))]⟩
  refine EvL.jn T19 (λa=>a=o19/\a.length=(Int.toNat (p0.gates.length:Int))) ?_ ?_
  .refine zab ?_;simp only[rnA];obtain⟨T20,hT20⟩:=mkT λa:(Int×(List Int))=>⟨52,[(3,(.sl 1 0 1 (Int.toNat (p0.gates.length:Int)) (some (Int.toNat (p0.gates.length:Int))) (Int.toNat (p0.gates.length:Int)))),(4,(dI v15)),(13,(fzE false zaa p0.gates)),(14,(dI (p0.gates.length:Int))),(15,(dI v15)),(30,(fzE false (eI .i64) x4.args)),(31,(dI (x4.args.length:Int))),(32,(dI a.1))],[.gone,.els 1 (a.2.map ((eI .u64).c true))]⟩
   refine EvL.rounds (α:=(Int×(List Int))) T20 (λn a=>zaM x4 v15 p0 n a.1 a.2=some o19/\a.2.length=(Int.toNat (p0.gates.length:Int))) ((x4.args.length:Int) - 0+2:Int).toNat (0,l1') (by rw[hT20]; exact wm0 [.d,.k] ⟨rfl,⟨MB.es (eI .u64) true l1',qcD⟩⟩) ⟨j19,el1'⟩ (λ_ h=>nomatch (show(none:Option (List Int))=some o19 from h.1)) ?_;rintro n ⟨v32,l1''⟩ ⟨j19,el1''⟩;simp only[zaM]at j19;rw[congrFun hT20 (v32,l1'')];refine zab ?_;try simp only[rnA,Nat.reduceEqDiff,Nat.reduceLT]
   cases c13:(decide (v32<(x4.args.length:Int)))
   .rw[c13,qcF]at j19;try simp only[rnA,Nat.reduceEqDiff,Nat.reduceLT,reduceCtorEq]
    replace j19:=qaa j19; subst j19;exact⟨_,⟨rfl,el1''⟩,by rw[hT19]; exact wm0 [.d,.k] ⟨rfl,⟨MB.es (eI .u64) true l1'',qcD⟩⟩⟩
   rw[c13,qcE]at j19;obtain⟨x14,g15,j19⟩:=bind_some j19;obtain⟨x16,g17,j19⟩:=bind_some j19;obtain⟨x18,g19,j19⟩:=bind_some j19;obtain⟨r20,g21,j19⟩:=bind_some j19;try simp only[rnA,Nat.reduceEqDiff,Nat.reduceLT,Nat.reduceAdd,zai (n:=1) (e:=(eI .i64)) rfl g15,el1'',zbh g17,(show v15<(((Int.toNat (p0.gates.length:Int)):Nat):Int)from el1'' ▸ zbg g17),zaC g17 ((eI .u64).c true),zbh g19,(show x14<(((Int.toNat (p0.gates.length:Int)):Nat):Int)from el1'' ▸ zbg g19),zaC g19 ((eI .u64).c true)]
   refine EvL.fn (zex g21) rfl rfl (.cons (zaz (e:=(eI .u64)) (t:=true) rfl (.inl rfl) rfl rfl (λk h=>by cases h; exact qam _) (λh=>nomatch h)) .nil) ?_;obtain⟨y22,g23,j19⟩:=bind_some j19;try simp only[rnA,Nat.reduceEqDiff,Nat.reduceLT,Nat.reduceLeDiff,el1'',zbh g17,(show v15<(((Int.toNat (p0.gates.length:Int)):Nat):Int)from el1'' ▸ zbg g17),zaC g17 ((eI .u64).c true),(show(l1''.map ((eI .u64).c true)).set v15.toNat [(dU r20)]=y22.map ((eI .u64).c true)from zbR g23 ((eI .u64).c true))]
   exact⟨((w64 (v32+1)),y22),⟨j19,(zbE g23).trans el1''⟩,by rw[hT20]; exact wm0 [.d,.k] ⟨rfl,⟨MB.es (eI .u64) true y22,qcD⟩⟩⟩
  rintro l1'' ⟨rfl,el1''⟩;rw[congrFun hT19 l1''];refine zab ?_;try simp only[rnA,Nat.reduceEqDiff,Nat.reduceLT]
  exact⟨((w64 (v15+1)),l1''),⟨j10,el1''⟩,by rw[hT17]; exact wm0 [.d,.k] ⟨rfl,⟨MB.es (eI .u64) true l1'',qcD⟩⟩⟩
 rintro l1 ⟨rfl,el1⟩;rw[congrFun hT10 l1];refine zab ?_;try simp only[rnA,Nat.reduceEqDiff,Nat.reduceLT]
 replace h:=qaa h; subst h;exact zbT.ret rfl (zaz (e:=(eI .u64)) (t:=true) rfl (.inl rfl) (el1).symm (el1).symm (λk h=>by cases h; exact qam _) (λ_=>rfl))
def zaG(x7:S_api_Gate)(r4:(List Int)):Nat->Bool->Bool->Int->Int->Option (Bool×Bool)
 | 0,_,_,_,_=>none
 | n+1,v2',v3',v9,v29=>(
bif (decide (v29<(x7.args.length:Int)))then(
(zaH x7.args v29).bind λx10=>
((bif (x7.kind == 3)then(
bif v2' then(
(zaH r4 x10).bind λx17=>
(zaH x7.args 0).bind λx19=>
(zaH r4 x19).bind λx21=>
some ((x17 == x21),v3'))
else(
some (false,v3')))
else(
bif v3' then(
(zaH r4 x10).bind λx14=>
some (v2',((zmJ .u64 x14 v9)== 0)))
else(
some (v2',false))):Option ((Bool×Bool)))).bind λo=>match o with
|(v2'',v3'')=>(
(zaH r4 x10).bind λx23=>
(zbM [v9,x23]).bind λr25=>
zaG x7 r4 n v2'' v3'' r25 (w64 (v29+1))))
else(
some (v2',v3')))
def zbm(p0:S_api_Circuit)(r4:(List Int)):Nat->Bool->Bool->Int->Option (Bool×Bool)
 | 0,_,_,_=>none
 | n+1,v2,v3,v22=>(
bif (decide (v22<(p0.gates.length:Int)))then(
(zaH p0.gates v22).bind λx7=>
((zaG x7 r4 ((x7.args.length:Int) - 0+2:Int).toNat v2 v3 0 0:Option ((Bool×Bool)))).bind λo=>match o with
|(v2',v3')=>(
zbm p0 r4 n v2' v3' (w64 (v22+1))))
else(
some (v2,v3)))
def zbe(p0:S_api_Circuit):Option (Bool×Bool×Bool×Int):=
(za9 p0).bind λr1=>
bif (r1 == 0)then(
(za8 p0).bind λr4=>
((zbm p0 r4 ((p0.gates.length:Int) - 0+2:Int).toNat true true 0:Option ((Bool×Bool)))).bind λo=>match o with
|(v2,v3)=>(
(zbz p0).bind λr27=>
some (v2,v3,r27.2,0)))
else(
some (false,false,false,r1))
theorem zgd{r:(Bool×Bool×Bool×Int)}(h:zbe p0=some r):Lx.Fn mC 12 [(.agg [(fzE false (eI .i64) p0.cards),(fzE false zaa p0.gates)])] (.tup [(dB r.1),(dB r.2.1),(dB r.2.2.1),(dI r.2.2.2)]):=by
 refine gnO ?_;unfold zbe at h;refine zab ?_;obtain⟨r1,g2,h⟩:=bind_some h;try simp only[rnA,Nat.reduceEqDiff,Nat.reduceLT,Nat.reduceAdd,Nat.reduceLeDiff,reduceCtorEq]
 refine EvL.fn (zcO g2) rfl rfl (.cons (.zdp (.cons (zah _ _ (λh=>nomatch h)) (.cons (zah _ _ (λh=>nomatch h)) .nil))) .nil) ?_;try simp only[rnA,Nat.reduceEqDiff,Nat.reduceLT,reduceCtorEq]
 cases c3:(r1 == 0)
 .rw[c3,qcF]at h;try simp only[rnA,Nat.reduceEqDiff,Nat.reduceLT,reduceCtorEq]
  replace h:=qaa h; subst h;exact zbT.ret rfl (Snp.zm0 (.cons (.lit _) (.cons (.lit _) (.cons (.lit _) (.cons (.lit _) .nil)))))
 rw[c3,qcE]at h;obtain⟨r4,g5,h⟩:=bind_some h;try simp only[rnA,Nat.reduceEqDiff,Nat.reduceLT,Nat.reduceAdd,Nat.reduceLeDiff,reduceCtorEq]
 refine EvL.fn (zeN g5) rfl rfl (.cons (.zdp (.cons (zah _ _ (λh=>nomatch h)) (.cons (zah _ _ (λh=>nomatch h)) .nil))) .nil) ?_;try simp only[rnA,Nat.reduceEqDiff,Nat.reduceLT,reduceCtorEq,zaf]
 obtain⟨o27,j27,h⟩:=bind_some h;obtain⟨T27,hT27⟩:=mkT λa:(Bool×Bool)=>⟨78,[(1,(.ptr 0 0)),(2,(dB a.1)),(3,(dB a.2))],[.cells [(fzE false (eI .i64) p0.cards),(fzE false zaa p0.gates)]]⟩
 refine EvL.jn T27 (λa=>a=o27) ?_ ?_
 .refine zab ?_;simp only[rnA];obtain⟨T46,hT46⟩:=mkT λa:(Bool×Bool×Int)=>⟨78,[(1,(.ptr 0 0)),(2,(dB a.1)),(3,(dB a.2.1)),(6,(fzE true (eI .u64) r4)),(20,(fzE false zaa p0.gates)),(21,(dI (p0.gates.length:Int))),(22,(dI a.2.2))],[.cells [(fzE false (eI .i64) p0.cards),(fzE false zaa p0.gates)]]⟩
  refine EvL.rounds (α:=(Bool×Bool×Int)) T46 (λn a=>zbm p0 r4 n a.1 a.2.1 a.2.2=some o27) ((p0.gates.length:Int) - 0+2:Int).toNat (true,true,0) (by rw[hT46]; exact wm0 [.k] ⟨MB.cs ⟨qcD,qcD,qcD⟩,qcD⟩) j27 (λ_ h=>nomatch (show(none:Option (Bool×Bool))=some o27 from h)) ?_;rintro n ⟨v2,v3,v22⟩ j27;simp only[zbm]at j27;rw[congrFun hT46 (v2,v3,v22)];refine zab ?_;try simp only[rnA,Nat.reduceEqDiff,Nat.reduceLT]
  cases c6:(decide (v22<(p0.gates.length:Int)))
  .rw[c6,qcF]at j27;try simp only[rnA]
   replace j27:=qaa j27; subst j27;exact lfj hT27 rfl (wm0 [.k] ⟨MB.cs ⟨qcD,qcD,qcD⟩,qcD⟩)
  rw[c6,qcE]at j27;obtain⟨x7,g8,j27⟩:=bind_some j27;try simp only[rnA,Nat.reduceEqDiff,Nat.reduceLT,Nat.reduceAdd,Nat.reduceLeDiff,zal,zai (n:=5) (e:=zaa) rfl g8,zaf]
  obtain⟨o50,j50,j27⟩:=bind_some j27;obtain⟨T50,hT50⟩:=mkT λa:(Bool×Bool)=>⟨78,[(1,(.ptr 0 0)),(2,(dB a.1)),(3,(dB a.2)),(6,(fzE true (eI .u64) r4)),(20,(fzE false zaa p0.gates)),(21,(dI (p0.gates.length:Int))),(22,(dI v22))],[.cells [(fzE false (eI .i64) p0.cards),(fzE false zaa p0.gates)]]⟩
  refine EvL.jn T50 (λa=>a=o50) ?_ ?_
  .refine zab ?_;simp only[rnA];obtain⟨T53,hT53⟩:=mkT λa:(Bool×Bool×Int×Int)=>⟨78,[(1,(.ptr 0 0)),(2,(dB a.1)),(3,(dB a.2.1)),(6,(fzE true (eI .u64) r4)),(8,(.ptr 1 0)),(9,(dU a.2.2.1)),(20,(fzE false zaa p0.gates)),(21,(dI (p0.gates.length:Int))),(22,(dI v22)),(27,(fzE false (eI .i64) x7.args)),(28,(dI (x7.args.length:Int))),(29,(dI a.2.2.2))],[.cells [(fzE false (eI .i64) p0.cards),(fzE false zaa p0.gates)],.cells [(dI x7.kind),(dI x7.var),(dI x7.val),(dI x7.n),(fzE false (eI .i64) x7.args)]]⟩
   refine EvL.rounds (α:=(Bool×Bool×Int×Int)) T53 (λn a=>zaG x7 r4 n a.1 a.2.1 a.2.2.1 a.2.2.2=some o50) ((x7.args.length:Int) - 0+2:Int).toNat (v2,v3,0,0) (by rw[hT53]; exact wm0 [.k,.k] ⟨MB.cs ⟨qcD,qcD,qcD⟩,⟨MB.cs ⟨qcD,qcD,qcD,qcD,qcD,qcD⟩,qcD⟩⟩) j50 (λ_ h=>nomatch (show(none:Option (Bool×Bool))=some o50 from h)) ?_;rintro n ⟨v2',v3',v9,v29⟩ j50;simp only[zaG]at j50;rw[congrFun hT53 (v2',v3',v9,v29)];refine zab ?_;try simp only[rnA,Nat.reduceEqDiff,Nat.reduceLT]
   cases c9:(decide (v29<(x7.args.length:Int)))
   .rw[c9,qcF]at j50;try simp only[rnA,Nat.reduceEqDiff,Nat.reduceLT,reduceCtorEq]
    replace j50:=qaa j50; subst j50;exact lfj hT50 rfl (wm0 [.k] ⟨MB.cs ⟨qcD,qcD,qcD⟩,qcD⟩)
   rw[c9,qcE]at j50;obtain⟨x10,g11,j50⟩:=bind_some j50;try simp only[rnA,Nat.reduceEqDiff,Nat.reduceLT,zai (n:=1) (e:=(eI .i64)) rfl g11]
   obtain⟨o54,j54,j50⟩:=bind_some j50;obtain⟨T54,hT54⟩:=mkT λa:(Bool×Bool)=>⟨78,[(1,(.ptr 0 0)),(2,(dB a.1)),(3,(dB a.2)),(6,(fzE true (eI .u64) r4)),(8,(.ptr 1 0)),(9,(dU v9)),(11,(dI x10)),(20,(fzE false zaa p0.gates)),(21,(dI (p0.gates.length:Int))),(22,(dI v22)),(27,(fzE false (eI .i64) x7.args)),(28,(dI (x7.args.length:Int))),(29,(dI v29))],[.cells [(fzE false (eI .i64) p0.cards),(fzE false zaa p0.gates)],.cells [(dI x7.kind),(dI x7.var),(dI x7.val),(dI x7.n),(fzE false (eI .i64) x7.args)]]⟩
   refine EvL.jn T54 (λa=>a=o54) ?_ ?_
   .refine zab ?_;try simp only[rnA,Nat.reduceEqDiff]
    cases c12:(x7.kind == 3)
    .rw[c12,qcF]at j54;try simp only[rnA,Nat.reduceEqDiff,Nat.reduceLT]
     cases c13:v3'
     .rw[c13,qcF]at j54;try simp only[rnA,Nat.reduceEqDiff,Nat.reduceLT]
      replace j54:=qaa j54; subst j54;exact lfj hT54 rfl (wm0 [.k,.k] ⟨MB.cs ⟨qcD,qcD,qcD⟩,⟨MB.cs ⟨qcD,qcD,qcD,qcD,qcD,qcD⟩,qcD⟩⟩)
     rw[c13,qcE]at j54;obtain⟨x14,g15,j54⟩:=bind_some j54;try simp only[rnA,Nat.reduceEqDiff,Nat.reduceLT,zai (n:=1) (e:=(eI .u64)) rfl g15]
     replace j54:=qaa j54; subst j54;exact lfj hT54 rfl (wm0 [.k,.k] ⟨MB.cs ⟨qcD,qcD,qcD⟩,⟨MB.cs ⟨qcD,qcD,qcD,qcD,qcD,qcD⟩,qcD⟩⟩)
    rw[c12,qcE]at j54;try simp only[rnA,Nat.reduceEqDiff,Nat.reduceLT]
    cases c16:v2'
    .rw[c16,qcF]at j54;try simp only[rnA,Nat.reduceEqDiff,Nat.reduceLT]
     replace j54:=qaa j54; subst j54;exact lfj hT54 rfl (wm0 [.k,.k] ⟨MB.cs ⟨qcD,qcD,qcD⟩,⟨MB.cs ⟨qcD,qcD,qcD,qcD,qcD,qcD⟩,qcD⟩⟩)
    rw[c16,qcE]at j54;obtain⟨x17,g18,j54⟩:=bind_some j54;obtain⟨x19,g20,j54⟩:=bind_some j54;obtain⟨x21,g22,j54⟩:=bind_some j54;try simp only[rnA,Nat.reduceEqDiff,Nat.reduceLT,zai (n:=1) (e:=(eI .u64)) rfl g18,zai (n:=1) (e:=(eI .i64)) rfl g20,zai (n:=1) (e:=(eI .u64)) rfl g22]
    replace j54:=qaa j54; subst j54;exact lfj hT54 rfl (wm0 [.k,.k] ⟨MB.cs ⟨qcD,qcD,qcD⟩,⟨MB.cs ⟨qcD,qcD,qcD,qcD,qcD,qcD⟩,qcD⟩⟩)
   rintro⟨v2'',v3''⟩ rfl;dsimp only at j50;rw[congrFun hT54 (v2'',v3'')];refine zab ?_;obtain⟨x23,g24,j50⟩:=bind_some j50;obtain⟨r25,g26,j50⟩:=bind_some j50;try simp only[rnA,Nat.reduceEqDiff,Nat.reduceLT,Nat.reduceAdd,zai (n:=1) (e:=(eI .u64)) rfl g24]
   refine EvL.fn (zex g26) rfl rfl (.cons (zaz (e:=(eI .u64)) (t:=true) rfl (.inl rfl) rfl rfl (λk h=>by cases h; exact qam _) (λh=>nomatch h)) .nil) ?_;try simp only[rnA,Nat.reduceEqDiff,Nat.reduceLT]
   exact⟨(v2'',v3'',r25,(w64 (v29+1))),j50,by rw[hT53]; exact wm0 [.k,.k] ⟨MB.cs ⟨qcD,qcD,qcD⟩,⟨MB.cs ⟨qcD,qcD,qcD,qcD,qcD,qcD⟩,qcD⟩⟩⟩
  rintro⟨v2',v3'⟩ rfl;dsimp only at j27;rw[congrFun hT50 (v2',v3')];refine zab ?_;try simp only[rnA,Nat.reduceEqDiff,Nat.reduceLT]
  exact⟨(v2',v3',(w64 (v22+1))),j27,by rw[hT46]; exact wm0 [.k] ⟨MB.cs ⟨qcD,qcD,qcD⟩,qcD⟩⟩
 rintro⟨v2,v3⟩ rfl;dsimp only at h;rw[congrFun hT27 (v2,v3)];refine zab ?_;obtain⟨r27,g28,h⟩:=bind_some h;try simp only[rnA,Nat.reduceEqDiff,Nat.reduceLT,Nat.reduceAdd,Nat.reduceLeDiff]
 refine EvL.fn (zfA g28) rfl rfl (.cons (.zdp (.cons (zah _ _ (λh=>nomatch h)) (.cons (zah _ _ (λh=>nomatch h)) .nil))) .nil) ?_;try simp only[rnA,Nat.reduceEqDiff,Nat.reduceLT]
 replace h:=qaa h; subst h;exact zbT.ret rfl (Snp.zm0 (.cons (.lit _) (.cons (.lit _) (.cons (.lit _) (.cons (.lit _) .nil)))))
def za4(p0:S_api_Circuit):Nat->Int->Int->Option Int
 | 0,_,_=>none
 | n+1,v3,v15=>(
bif (decide (v15<(p0.gates.length:Int)))then(
(zaH p0.gates v15).bind λx5=>
za4 p0 n (w64 (v3+(x5.args.length:Int))) (w64 (v15+1)))
else(
some v3))
def zbn(p0:S_api_Circuit):Option (Int×Int×Int):=
(za9 p0).bind λr1=>
bif (r1 == 0)then(
((za4 p0 ((p0.gates.length:Int) - 0+2:Int).toNat 0 0:Option Int)).bind λv3=>
some ((p0.gates.length:Int),v3,0))
else(
some (0,0,r1))
theorem zhj{r:(Int×Int×Int)}(h:zbn p0=some r):Lx.Fn mC 13 [(.agg [(fzE false (eI .i64) p0.cards),(fzE false zaa p0.gates)])] (.tup [(dI r.1),(dI r.2.1),(dI r.2.2)]):=by
 refine gnO ?_;unfold zbn at h;refine zab ?_;obtain⟨r1,g2,h⟩:=bind_some h;try simp only[rnA,Nat.reduceEqDiff,Nat.reduceLT,Nat.reduceAdd,Nat.reduceLeDiff,reduceCtorEq]
 refine EvL.fn (zcO g2) rfl rfl (.cons (.zdp (.cons (zah _ _ (λh=>nomatch h)) (.cons (zah _ _ (λh=>nomatch h)) .nil))) .nil) ?_;try simp only[rnA,Nat.reduceEqDiff,Nat.reduceLT,reduceCtorEq]
 cases c3:(r1 == 0)
 .rw[c3,qcF]at h;try simp only[rnA,Nat.reduceEqDiff,Nat.reduceLT,reduceCtorEq]
  replace h:=qaa h; subst h;exact zbT.ret rfl (Snp.zm0 (.cons (.lit _) (.cons (.lit _) (.cons (.lit _) .nil))))
 rw[c3,qcE]at h;try simp only[rnA,Nat.reduceEqDiff,Nat.reduceLT,reduceCtorEq,zaf]
 obtain⟨o1,j1,h⟩:=bind_some h;obtain⟨T1,hT1⟩:=mkT λa:Int=>⟨29,[(1,(.ptr 0 0)),(3,(dI a))],[.cells [(fzE false (eI .i64) p0.cards),(fzE false zaa p0.gates)]]⟩
 refine EvL.jn T1 (λa=>a=o1) ?_ ?_
 .refine zab ?_;simp only[rnA];obtain⟨T2,hT2⟩:=mkT λa:(Int×Int)=>⟨29,[(1,(.ptr 0 0)),(3,(dI a.1)),(13,(fzE false zaa p0.gates)),(14,(dI (p0.gates.length:Int))),(15,(dI a.2))],[.cells [(fzE false (eI .i64) p0.cards),(fzE false zaa p0.gates)]]⟩
  refine EvL.rounds (α:=(Int×Int)) T2 (λn a=>za4 p0 n a.1 a.2=some o1) ((p0.gates.length:Int) - 0+2:Int).toNat (0,0) (by rw[hT2]; exact wm0 [.k] ⟨MB.cs ⟨qcD,qcD,qcD⟩,qcD⟩) j1 (λ_ h=>nomatch (show(none:Option Int)=some o1 from h)) ?_;rintro n ⟨v3,v15⟩ j1;simp only[za4]at j1;rw[congrFun hT2 (v3,v15)];refine zab ?_;try simp only[rnA,Nat.reduceEqDiff,Nat.reduceLT]
  cases c4:(decide (v15<(p0.gates.length:Int)))
  .rw[c4,qcF]at j1;try simp only[rnA]
   replace j1:=qaa j1; subst j1;exact lfj hT1 rfl (wm0 [.k] ⟨MB.cs ⟨qcD,qcD,qcD⟩,qcD⟩)
  rw[c4,qcE]at j1;obtain⟨x5,g6,j1⟩:=bind_some j1;try simp only[rnA,Nat.reduceEqDiff,Nat.reduceLT,Nat.reduceAdd,Nat.reduceLeDiff,zal,zai (n:=5) (e:=zaa) rfl g6,zaf]
  exact⟨((w64 (v3+(x5.args.length:Int))),(w64 (v15+1))),j1,by rw[hT2]; exact wm0 [.k] ⟨MB.cs ⟨qcD,qcD,qcD⟩,qcD⟩⟩
 rintro v3 rfl;rw[congrFun hT1 v3];refine zab ?_;try simp only[rnA,Nat.reduceEqDiff,Nat.reduceLT,zaf]
 replace h:=qaa h; subst h;exact zbT.ret rfl (Snp.zm0 (.cons (.lit _) (.cons (.lit _) (.cons (.lit _) .nil))))
def zb2(p0:S_api_Circuit)(v4:Int)(r1:(List Int)):Nat->Int->Option (Out Unit Bool)
 | 0,_=>none
 | n+1,v5=>(
(zaH p0.gates v4).bind λx4=>
bif (decide (v5<(x4.args.length:Int)))then(
((bif (x4.kind == 3)then(
(zaH x4.args v5).bind λx8=>
(zaH r1 x8).bind λx10=>
(zaH r1 v4).bind λx12=>
some (!(x10 == x12)))
else(
some false):Option Bool)).bind λv51=>
bif v51 then(
some (.ret false))
else(
zb2 p0 v4 r1 n (w64 (v5+1))))
else(
some (.go ())))
def zb1(p0:S_api_Circuit)(r1:(List Int)):Nat->Int->Option (Out Unit Bool)
 | 0,_=>none
 | n+1,v4=>(
bif (decide (v4<(p0.gates.length:Int)))then(
((zb2 p0 v4 r1 ((((zaH p0.gates v4).getD default).args.length:Int) - 0+2:Int).toNat 0:Option (Out Unit Bool))).bind λo=>match o with
| .go _=>(
zb1 p0 r1 n (w64 (v4+1)))
| .ret r=>some (.ret r))
else(
some (.go ())))
def zcN(p0:S_api_Circuit):Option Bool:=
(zbu p0).bind λr1=>
((zb1 p0 r1 ((p0.gates.length:Int) - 0+2:Int).toNat 0:Option (Out Unit Bool))).bind λo=>match o with
| .go _=>(
some true)
| .ret r=>some r
theorem zie(h:zcN p0=some r):Lx.Fn mC 14 [(.agg [(fzE false (eI .i64) p0.cards),(fzE false zaa p0.gates)])] (dB r):=by
 refine gnO ?_;unfold zcN at h;refine zab ?_;obtain⟨r1,g2,h⟩:=bind_some h;try simp only[rnA,Nat.reduceEqDiff,Nat.reduceLT,Nat.reduceAdd,Nat.reduceLeDiff,reduceCtorEq]
 refine EvL.fn (zdU g2) rfl rfl (.cons (.zdp (.cons (zah _ _ (λh=>nomatch h)) (.cons (zah _ _ (λh=>nomatch h)) .nil))) .nil) ?_;try simp only[rnA,Nat.reduceEqDiff,Nat.reduceLT,reduceCtorEq]
 obtain⟨o25,j25,h⟩:=bind_some h;obtain⟨T25,hT25⟩:=mkT λa:Unit=>⟨52,[],[]⟩
 refine EvL.jn T25 (λa=>o25=.go a) ?_ ?_
 .refine zab ?_;simp only[rnA];obtain⟨T42,hT42⟩:=mkT λa:Int=>⟨52,[(1,(.ptr 0 0)),(3,(fzE true (eI .u64) r1)),(4,(dI a))],[.cells [(fzE false (eI .i64) p0.cards),(fzE false zaa p0.gates)]]⟩
  refine EvL.rounds (α:=Int) T42 (λn a=>zb1 p0 r1 n a=some o25) ((p0.gates.length:Int) - 0+2:Int).toNat 0 (by rw[hT42]; exact wm0 [.k] ⟨MB.cs ⟨qcD,qcD,qcD⟩,qcD⟩) j25 (λ_ h=>nomatch (show(none:Option (Out Unit Bool))=some o25 from h)) ?_;rintro n v4 j25;simp only[zb1]at j25;rw[congrFun hT42 v4];refine zab ?_;try simp only[rnA,Nat.reduceEqDiff,Nat.reduceLT,zaf]
  cases c3:(decide (v4<(p0.gates.length:Int)))
  .rw[c3,qcF]at j25;try simp only[rnA]
   replace j25:=qaa j25; subst j25;exact lfj hT25 rfl (wm0 [] (by exact trivial))
  rw[c3,qcE]at j25;try simp only[rnA,Nat.reduceLT]
  obtain⟨o46,j46,j25⟩:=bind_some j25;obtain⟨T46,hT46⟩:=mkT λa:Unit=>⟨52,[(1,(.ptr 0 0)),(3,(fzE true (eI .u64) r1)),(4,(dI v4))],[.cells [(fzE false (eI .i64) p0.cards),(fzE false zaa p0.gates)]]⟩
  refine EvL.jn T46 (λa=>o46=.go a) ?_ ?_
  .refine zab ?_;simp only[rnA];obtain⟨T49,hT49⟩:=mkT λa:Int=>⟨52,[(1,(.ptr 0 0)),(3,(fzE true (eI .u64) r1)),(4,(dI v4)),(5,(dI a))],[.cells [(fzE false (eI .i64) p0.cards),(fzE false zaa p0.gates)]]⟩
   refine EvL.rounds (α:=Int) T49 (λn a=>zb2 p0 v4 r1 n a=some o46) ((((zaH p0.gates v4).getD default).args.length:Int) - 0+2:Int).toNat 0 (by rw[hT49]; exact wm0 [.k] ⟨MB.cs ⟨qcD,qcD,qcD⟩,qcD⟩) j46 (λ_ h=>nomatch (show(none:Option (Out Unit Bool))=some o46 from h)) ?_;rintro n v5 j46;simp only[zb2]at j46;rw[congrFun hT49 v5];refine zab ?_;obtain⟨x4,g5,j46⟩:=bind_some j46;try simp only[rnA,Nat.reduceEqDiff,Nat.reduceLT,Nat.reduceAdd,Nat.reduceLeDiff,zal,zai (n:=5) (e:=zaa) rfl g5,zaf]
   cases c6:(decide (v5<(x4.args.length:Int)))
   .rw[c6,qcF]at j46;try simp only[rnA,Nat.reduceEqDiff,Nat.reduceLT,reduceCtorEq]
    replace j46:=qaa j46; subst j46;exact lfj hT46 rfl (wm0 [.k] ⟨MB.cs ⟨qcD,qcD,qcD⟩,qcD⟩)
   rw[c6,qcE]at j46;try simp only[rnA]
   obtain⟨o50,j50,j46⟩:=bind_some j46;obtain⟨T50,hT50⟩:=mkT λa:Bool=>⟨52,[(1,(.ptr 0 0)),(3,(fzE true (eI .u64) r1)),(4,(dI v4)),(5,(dI v5)),(51,(dB a))],[.cells [(fzE false (eI .i64) p0.cards),(fzE false zaa p0.gates)]]⟩
   refine EvL.jn T50 (λa=>a=o50) ?_ ?_
   .refine zab ?_;try simp only[rnA,Nat.reduceEqDiff,Nat.reduceLT,Nat.reduceAdd,Nat.reduceLeDiff,zal,zai (n:=5) (e:=zaa) rfl g5]
    cases c7:(x4.kind == 3)
    .rw[c7,qcF]at j50;try simp only[rnA,Nat.reduceEqDiff,Nat.reduceLT]
     replace j50:=qaa j50; subst j50;exact lfj hT50 rfl (wm0 [.k] ⟨MB.cs ⟨qcD,qcD,qcD⟩,qcD⟩)
    rw[c7,qcE]at j50;obtain⟨x8,g9,j50⟩:=bind_some j50;obtain⟨x10,g11,j50⟩:=bind_some j50;obtain⟨x12,g13,j50⟩:=bind_some j50;try simp only[rnA,Nat.reduceEqDiff,Nat.reduceLT,Nat.reduceAdd,Nat.reduceLeDiff,zal,zai (n:=5) (e:=zaa) rfl g5,zai (n:=1) (e:=(eI .i64)) rfl g9,zai (n:=1) (e:=(eI .u64)) rfl g11,zai (n:=1) (e:=(eI .u64)) rfl g13]
    replace j50:=qaa j50; subst j50;exact lfj hT50 rfl (wm0 [.k] ⟨MB.cs ⟨qcD,qcD,qcD⟩,qcD⟩)
   rintro v51 rfl;rw[congrFun hT50 v51];refine zab ?_;try simp only[rnA,Nat.reduceEqDiff]
   cases c14:v51
   .rw[c14,qcF]at j46;try simp only[rnA,Nat.reduceEqDiff,Nat.reduceLT]
    exact⟨(w64 (v5+1)),j46,by rw[hT49]; exact wm0 [.k] ⟨MB.cs ⟨qcD,qcD,qcD⟩,qcD⟩⟩
   rw[c14,qcE]at j46;try simp only[rnA,Nat.reduceLT]
   replace j46:=qaa j46; subst j46;dsimp only at j25;replace j25:=qaa j25; subst j25;dsimp only at h;replace h:=qaa h; subst h;exact zbT.ret rfl (.lit _)
  rintro⟨⟩ rfl;dsimp only at j25;rw[congrFun hT46 ()];refine zab ?_;try simp only[rnA,Nat.reduceEqDiff,Nat.reduceLT]
  exact⟨(w64 (v4+1)),j25,by rw[hT42]; exact wm0 [.k] ⟨MB.cs ⟨qcD,qcD,qcD⟩,qcD⟩⟩
 rintro⟨⟩ rfl;dsimp only at h;rw[congrFun hT25 ()];refine zab ?_;try simp only[rnA,Nat.reduceLT]
 replace h:=qaa h; subst h;exact zbT.ret rfl (.lit _)
def zaY(v6:Int)(x4:S_api_Gate)(r1:(List Int)):Nat->Int->Option (Out Unit Bool)
 | 0,_=>none
 | n+1,v7=>(
bif (decide (v7<v6))then(
((bif (x4.kind == 4)then(
(zaH x4.args v6).bind λx9=>
(zaH r1 x9).bind λx11=>
(zaH x4.args v7).bind λx13=>
(zaH r1 x13).bind λx15=>
some (!((zmJ .u64 x11 x15)== 0)))
else(
some false):Option Bool)).bind λv58=>
bif v58 then(
some (.ret false))
else(
zaY v6 x4 r1 n (w64 (v7+1))))
else(
some (.go ())))
def zaZ(x4:S_api_Gate)(r1:(List Int)):Nat->Int->Option (Out Unit Bool)
 | 0,_=>none
 | n+1,v6=>(
bif (decide (v6<(x4.args.length:Int)))then(
((zaY v6 x4 r1 (v6 - 0+2:Int).toNat 0:Option (Out Unit Bool))).bind λo=>match o with
| .go _=>(
zaZ x4 r1 n (w64 (v6+1)))
| .ret r=>some (.ret r))
else(
some (.go ())))
def zaX(p0:S_api_Circuit)(r1:(List Int)):Nat->Int->Option (Out Unit Bool)
 | 0,_=>none
 | n+1,v4=>(
bif (decide (v4<(p0.gates.length:Int)))then(
(zaH p0.gates v4).bind λx4=>
((zaZ x4 r1 ((x4.args.length:Int) - 0+2:Int).toNat 0:Option (Out Unit Bool))).bind λo=>match o with
| .go _=>(
zaX p0 r1 n (w64 (v4+1)))
| .ret r=>some (.ret r))
else(
some (.go ())))
def za5(p0:S_api_Circuit):Option Bool:=
(zbu p0).bind λr1=>
((zaX p0 r1 ((p0.gates.length:Int) - 0+2:Int).toNat 0:Option (Out Unit Bool))).bind λo=>match o with
| .go _=>(
some true)
| .ret r=>some r
theorem zc9(h:za5 p0=some r):Lx.Fn mC 15 [(.agg [(fzE false (eI .i64) p0.cards),(fzE false zaa p0.gates)])] (dB r):=by
 refine gnO ?_;unfold za5 at h;refine zab ?_;obtain⟨r1,g2,h⟩:=bind_some h;try simp only[rnA,Nat.reduceEqDiff,Nat.reduceLT,Nat.reduceAdd,Nat.reduceLeDiff,reduceCtorEq]
 refine EvL.fn (zdU g2) rfl rfl (.cons (.zdp (.cons (zah _ _ (λh=>nomatch h)) (.cons (zah _ _ (λh=>nomatch h)) .nil))) .nil) ?_;try simp only[rnA,Nat.reduceEqDiff,Nat.reduceLT,reduceCtorEq]
 obtain⟨o115,j115,h⟩:=bind_some h;obtain⟨T115,hT115⟩:=mkT λa:Unit=>⟨59,[],[]⟩
 refine EvL.jn T115 (λa=>o115=.go a) ?_ ?_
 .refine zab ?_;simp only[rnA];obtain⟨T192,hT192⟩:=mkT λa:Int=>⟨59,[(1,(.ptr 0 0)),(3,(fzE true (eI .u64) r1)),(4,(dI a))],[.cells [(fzE false (eI .i64) p0.cards),(fzE false zaa p0.gates)]]⟩
  refine EvL.rounds (α:=Int) T192 (λn a=>zaX p0 r1 n a=some o115) ((p0.gates.length:Int) - 0+2:Int).toNat 0 (by rw[hT192]; exact wm0 [.k] ⟨MB.cs ⟨qcD,qcD,qcD⟩,qcD⟩) j115 (λ_ h=>nomatch (show(none:Option (Out Unit Bool))=some o115 from h)) ?_;rintro n v4 j115;simp only[zaX]at j115;rw[congrFun hT192 v4];refine zab ?_;try simp only[rnA,Nat.reduceEqDiff,Nat.reduceLT,zaf]
  cases c3:(decide (v4<(p0.gates.length:Int)))
  .rw[c3,qcF]at j115;try simp only[rnA]
   replace j115:=qaa j115; subst j115;exact lfj hT115 rfl (wm0 [] (by exact trivial))
  rw[c3,qcE]at j115;obtain⟨x4,g5,j115⟩:=bind_some j115;try simp only[rnA,Nat.reduceEqDiff,Nat.reduceLT,Nat.reduceAdd,Nat.reduceLeDiff,zal,zai (n:=5) (e:=zaa) rfl g5]
  obtain⟨o211,j211,j115⟩:=bind_some j115;obtain⟨T211,hT211⟩:=mkT λa:Unit=>⟨59,[(1,(.ptr 0 0)),(3,(fzE true (eI .u64) r1)),(4,(dI v4))],[.cells [(fzE false (eI .i64) p0.cards),(fzE false zaa p0.gates)]]⟩
  refine EvL.jn T211 (λa=>o211=.go a) ?_ ?_
  .refine zab ?_;simp only[rnA];obtain⟨T222,hT222⟩:=mkT λa:Int=>⟨59,[(1,(.ptr 0 0)),(3,(fzE true (eI .u64) r1)),(4,(dI v4)),(5,(fzE false (eI .i64) x4.args)),(6,(dI a))],[.cells [(fzE false (eI .i64) p0.cards),(fzE false zaa p0.gates)]]⟩
   refine EvL.rounds (α:=Int) T222 (λn a=>zaZ x4 r1 n a=some o211) ((x4.args.length:Int) - 0+2:Int).toNat 0 (by rw[hT222]; exact wm0 [.k] ⟨MB.cs ⟨qcD,qcD,qcD⟩,qcD⟩) j211 (λ_ h=>nomatch (show(none:Option (Out Unit Bool))=some o211 from h)) ?_;rintro n v6 j211;simp only[zaZ]at j211;rw[congrFun hT222 v6];refine zab ?_;try simp only[rnA,Nat.reduceEqDiff,Nat.reduceLT,zaf]
   cases c6:(decide (v6<(x4.args.length:Int)))
   .rw[c6,qcF]at j211;try simp only[rnA,Nat.reduceEqDiff,Nat.reduceLT,reduceCtorEq]
    replace j211:=qaa j211; subst j211;exact lfj hT211 rfl (wm0 [.k] ⟨MB.cs ⟨qcD,qcD,qcD⟩,qcD⟩)
   rw[c6,qcE]at j211;try simp only[rnA,Nat.reduceLT]
   obtain⟨o226,j226,j211⟩:=bind_some j211;obtain⟨T226,hT226⟩:=mkT λa:Unit=>⟨59,[(1,(.ptr 0 0)),(3,(fzE true (eI .u64) r1)),(4,(dI v4)),(5,(fzE false (eI .i64) x4.args)),(6,(dI v6))],[.cells [(fzE false (eI .i64) p0.cards),(fzE false zaa p0.gates)]]⟩
   refine EvL.jn T226 (λa=>o226=.go a) ?_ ?_
   .refine zab ?_;simp only[rnA];obtain⟨T229,hT229⟩:=mkT λa:Int=>⟨59,[(1,(.ptr 0 0)),(3,(fzE true (eI .u64) r1)),(4,(dI v4)),(5,(fzE false (eI .i64) x4.args)),(6,(dI v6)),(7,(dI a))],[.cells [(fzE false (eI .i64) p0.cards),(fzE false zaa p0.gates)]]⟩
    refine EvL.rounds (α:=Int) T229 (λn a=>zaY v6 x4 r1 n a=some o226) (v6 - 0+2:Int).toNat 0 (by rw[hT229]; exact wm0 [.k] ⟨MB.cs ⟨qcD,qcD,qcD⟩,qcD⟩) j226 (λ_ h=>nomatch (show(none:Option (Out Unit Bool))=some o226 from h)) ?_;rintro n v7 j226;simp only[zaY]at j226;rw[congrFun hT229 v7];refine zab ?_;try simp only[rnA,Nat.reduceEqDiff,Nat.reduceLT]
    cases c7:(decide (v7<v6))
    .rw[c7,qcF]at j226;try simp only[rnA,Nat.reduceEqDiff,Nat.reduceLT,reduceCtorEq]
     replace j226:=qaa j226; subst j226;exact lfj hT226 rfl (wm0 [.k] ⟨MB.cs ⟨qcD,qcD,qcD⟩,qcD⟩)
    rw[c7,qcE]at j226;try simp only[rnA]
    obtain⟨o230,j230,j226⟩:=bind_some j226;obtain⟨T230,hT230⟩:=mkT λa:Bool=>⟨59,[(1,(.ptr 0 0)),(3,(fzE true (eI .u64) r1)),(4,(dI v4)),(5,(fzE false (eI .i64) x4.args)),(6,(dI v6)),(7,(dI v7)),(58,(dB a))],[.cells [(fzE false (eI .i64) p0.cards),(fzE false zaa p0.gates)]]⟩
    refine EvL.jn T230 (λa=>a=o230) ?_ ?_
    .refine zab ?_;try simp only[rnA,Nat.reduceEqDiff,Nat.reduceLT,Nat.reduceAdd,Nat.reduceLeDiff,zal,zai (n:=5) (e:=zaa) rfl g5]
     cases c8:(x4.kind == 4)
     .rw[c8,qcF]at j230;try simp only[rnA,Nat.reduceEqDiff,Nat.reduceLT]
      replace j230:=qaa j230; subst j230;exact lfj hT230 rfl (wm0 [.k] ⟨MB.cs ⟨qcD,qcD,qcD⟩,qcD⟩)
     rw[c8,qcE]at j230;obtain⟨x9,g10,j230⟩:=bind_some j230;obtain⟨x11,g12,j230⟩:=bind_some j230;obtain⟨x13,g14,j230⟩:=bind_some j230;obtain⟨x15,g16,j230⟩:=bind_some j230;try simp only[rnA,Nat.reduceEqDiff,Nat.reduceLT,zai (n:=1) (e:=(eI .i64)) rfl g10,zai (n:=1) (e:=(eI .u64)) rfl g12,zai (n:=1) (e:=(eI .i64)) rfl g14,zai (n:=1) (e:=(eI .u64)) rfl g16]
     replace j230:=qaa j230; subst j230;exact lfj hT230 rfl (wm0 [.k] ⟨MB.cs ⟨qcD,qcD,qcD⟩,qcD⟩)
    rintro v58 rfl;rw[congrFun hT230 v58];refine zab ?_;try simp only[rnA,Nat.reduceEqDiff]
    cases c17:v58
    .rw[c17,qcF]at j226;try simp only[rnA,Nat.reduceEqDiff,Nat.reduceLT]
     exact⟨(w64 (v7+1)),j226,by rw[hT229]; exact wm0 [.k] ⟨MB.cs ⟨qcD,qcD,qcD⟩,qcD⟩⟩
    rw[c17,qcE]at j226;try simp only[rnA,Nat.reduceLT]
    replace j226:=qaa j226; subst j226;dsimp only at j211;replace j211:=qaa j211; subst j211;dsimp only at j115;replace j115:=qaa j115; subst j115;dsimp only at h;replace h:=qaa h; subst h;exact zbT.ret rfl (.lit _)
   rintro⟨⟩ rfl;dsimp only at j211;rw[congrFun hT226 ()];refine zab ?_;try simp only[rnA,Nat.reduceEqDiff,Nat.reduceLT]
   exact⟨(w64 (v6+1)),j211,by rw[hT222]; exact wm0 [.k] ⟨MB.cs ⟨qcD,qcD,qcD⟩,qcD⟩⟩
  rintro⟨⟩ rfl;dsimp only at j115;rw[congrFun hT211 ()];refine zab ?_;try simp only[rnA,Nat.reduceEqDiff,Nat.reduceLT]
  exact⟨(w64 (v4+1)),j115,by rw[hT192]; exact wm0 [.k] ⟨MB.cs ⟨qcD,qcD,qcD⟩,qcD⟩⟩
 rintro⟨⟩ rfl;dsimp only at h;rw[congrFun hT115 ()];refine zab ?_;try simp only[rnA,Nat.reduceLT]
 replace h:=qaa h; subst h;exact zbT.ret rfl (.lit _)
def zcC(p0:(List Int)):Nat->Int->(List Int)->Option (Out (List Int) ((List Int)×Bool))
 | 0,_,_=>none
 | n+1,v7,l0=>(
bif (decide (0<=v7))then(
(zaH l0 v7).bind λx4=>
(zfU l0 v7 (w64 (x4+1))).bind λy6=>
(zaH p0 v7).bind λx8=>
bif (decide ((w64 (x4+1))<x8))then(
some (.ret (y6,true)))
else(
(zfU y6 v7 0).bind λy11=>
zcC p0 n (w64 (v7 - 1)) y11))
else(
some (.go l0)))
def zdC(p0:(List Int))(p1:(List Int)):Option ((List Int)×Bool):=
(zjD 8 p1).bind λy1=>
((zcC p0 ((w64 (((p1.length:Nat):Int) - 1)) - 0+2:Int).toNat (w64 (((p1.length:Nat):Int) - 1)) p1:Option (Out (List Int) ((List Int)×Bool)))).bind λo=>match o with
| .go l0=>(
some (l0,false))
| .ret r=>some r
theorem zkU{p0:(List Int)}{p1:(List Int)}{r:((List Int)×Bool)}(h:zdC p0 p1=some r):Lx.Fn mC 103 [(fzE false (eI .i64) p0),(fzE false (eI .i64) p1)] (.tup [(fzE true (eI .i64) r.1),(dB r.2)]):=by
 refine gnO ?_;unfold zdC at h;refine zab ?_;obtain⟨y1,g2,h⟩:=bind_some h;try simp only[rnA,Nat.reduceEqDiff,Nat.reduceLT,Nat.reduceAdd,reduceCtorEq,(show ∀ L,zjm L 1 (fzE false (eI .i64) p1)=some (p1.map ((eI .i64).c true))from λL=>zje (e:=(eI .i64)) rfl _ L false),zoq g2]
 obtain⟨o1,j1,h⟩:=bind_some h;obtain⟨T1,hT1⟩:=mkT λa:(List Int)=>⟨40,[(6,(.sl 0 0 1 a.length none a.length))],[.grow 1 (a.map ((eI .i64).c true))]⟩
 refine EvL.jn T1 (λa=>o1=.go a) ?_ ?_
 .refine zab ?_;simp only[rnA];obtain⟨T2,hT2⟩:=mkT λa:(Int×(List Int))=>⟨40,[(0,(fzE false (eI .i64) p0)),(6,(.sl 0 0 1 a.2.length none a.2.length)),(7,(dI a.1))],[.grow 1 (a.2.map ((eI .i64).c true))]⟩
  refine EvL.rounds (α:=(Int×(List Int))) T2 (λn a=>zcC p0 n a.1 a.2=some o1) ((w64 (((p1.length:Nat):Int) - 1)) - 0+2:Int).toNat ((w64 (((p1.length:Nat):Int) - 1)),p1) (by rw[hT2]; exact wm0 [.k] ⟨MB.gs (eI .i64) true p1,qcD⟩) j1 (λ_ h=>nomatch (show(none:Option (Out (List Int) ((List Int)×Bool)))=some o1 from h)) ?_;rintro n ⟨v7,l0⟩ j1;simp only[zcC]at j1;rw[congrFun hT2 (v7,l0)];refine zab ?_;try simp only[rnA,Nat.reduceEqDiff,Nat.reduceLT,reduceCtorEq]
  cases c3:(decide (0<=v7))
  .rw[c3,qcF]at j1;try simp only[rnA]
   replace j1:=qaa j1; subst j1;exact lfj hT1 rfl (wm0 [.k] ⟨MB.gs (eI .i64) true l0,qcD⟩)
  rw[c3,qcE]at j1;obtain⟨x4,g5,j1⟩:=bind_some j1;obtain⟨y6,g7,j1⟩:=bind_some j1;obtain⟨x8,g9,j1⟩:=bind_some j1;try simp only[rnA,Nat.reduceEqDiff,Nat.reduceLT,Nat.reduceLeDiff,reduceCtorEq,zbh g5,(show v7<((l0.length:Nat):Int)from zbg g5),zaC g5 ((eI .i64).c true),(show(l0.map ((eI .i64).c true)).set v7.toNat [(dI (w64 (x4+1)))]=y6.map ((eI .i64).c true)from zbR g7 ((eI .i64).c true)),zbE g7,zaC (zfJ g7) ((eI .i64).c true),zai (n:=1) (e:=(eI .i64)) rfl g9]
  cases c10:(decide ((w64 (x4+1))<x8))
  .rw[c10,qcF]at j1;obtain⟨y11,g12,j1⟩:=bind_some j1;try simp only[rnA,Nat.reduceEqDiff,Nat.reduceLT,Nat.reduceLeDiff,reduceCtorEq,zbE g7,zbh (zfJ g7),(show v7<((l0.length:Nat):Int)from(zbE g7)▸ zbg (zfJ g7)),zaC (zfJ g7) ((eI .i64).c true),(show(y6.map ((eI .i64).c true)).set v7.toNat [(dI 0)]=y11.map ((eI .i64).c true)from zbR g12 ((eI .i64).c true))]
   exact⟨((w64 (v7 - 1)),y11),j1,by rw[hT2]; exact zbQ.m0 [.k] rfl (msq (ms (by simp only[(zbE g12).trans (zbE g7)]; rfl) rfl (msq trivial))) ⟨MB.gs (eI .i64) true y11,qcD⟩⟩
  rw[c10,qcE]at j1;try simp only[rnA,Nat.reduceEqDiff,Nat.reduceLT,reduceCtorEq]
  replace j1:=qaa j1; subst j1;dsimp only at h;replace h:=qaa h; subst h;exact zbT.ret rfl (Snp.zm0 (.cons (zaz (e:=(eI .i64)) (t:=true) rfl (.inr rfl) (zbE g7).symm (zbE g7).symm (λk h=>nomatch h) (λ_=>rfl)) (.cons (.lit _) .nil)))
 rintro l0 rfl;dsimp only at h;rw[congrFun hT1 l0];refine zab ?_;try simp only[rnA,Nat.reduceEqDiff,Nat.reduceLT]
 replace h:=qaa h; subst h;exact zbT.ret rfl (Snp.zm0 (.cons (zaz (e:=(eI .i64)) (t:=true) rfl (.inr rfl) rfl rfl (λk h=>nomatch h) (λ_=>rfl)) (.cons (.lit _) .nil)))
def zcy(p0:(List Int)):Nat->(List Int)->Bool->(List (List Int))->Option (List (List Int))
 | 0,_,_,_=>none
 | n+1,v4,v5,l1=>(
bif v5 then(
(zeo 24 l1 [v4]).bind λy4=>
(zdC p0 v4).bind λr6=>
zcy p0 n r6.1 r6.2 y4)
else(
some l1))
def zef(N:Nat)(p0:(List Int)):Option (List (List Int)):=
(zfN 8 (p0.length:Int) 0).bind λy1=>
((zcy p0 N y1 true []:Option (List (List Int)))).bind λl1=>
some l1
theorem zmS{N:Nat}{p0:(List Int)}{r:(List (List Int))}(h:zef N p0=some r):Lx.Fn mC 58 [(fzE false (eI .i64) p0)] (fzE true (eL (eI .i64)) r):=by
 refine gnO ?_;unfold zef at h;refine zab ?_;obtain⟨y1,g2,h⟩:=bind_some h;try simp only[rnA,Nat.reduceEqDiff,Nat.reduceLT,reduceCtorEq,zaf,(zbv g2).1.1,(zbv g2).1.2,qbN,(show List.replicate (Int.toNat (p0.length:Int)) [(dI 0)]=y1.map ((eI .i64).c true)from zdd g2 ((eI .i64).c true))]
 obtain⟨o1,j1,h⟩:=bind_some h;obtain⟨T1,hT1⟩:=mkT λa:(List (List Int))=>⟨21,[(3,(.sl 1 0 1 a.length none a.length))],[.gone,.grow 1 (a.map ((eL (eI .i64)).c true))]⟩
 refine EvL.jn T1 (λa=>a=o1) ?_ ?_
 .refine zab ?_;simp only[rnA];obtain⟨T2,hT2⟩:=mkT λa:((List Int)×Bool×(List (List Int)))=>⟨21,[(0,(fzE false (eI .i64) p0)),(3,(.sl 1 0 1 a.2.2.length none a.2.2.length)),(4,(fzE true (eI .i64) a.1)),(5,(dB a.2.1))],[.gone,.grow 1 (a.2.2.map ((eL (eI .i64)).c true))]⟩
  refine EvL.zpL (zbQ.ghost (n:=1) (k:=3) (by decide) rfl) ?_;refine EvL.rounds (α:=((List Int)×Bool×(List (List Int)))) T2 (λn a=>zcy p0 n a.1 a.2.1 a.2.2=some o1) N (y1,true,[]) (by rw[hT2]; exact zbQ.m0 [.f,.k] rfl (msq (msq (mf rfl (zgV (e:=(eI .i64)) (t:=true) rfl rfl (.inl rfl) (zdg g2).symm (zdg g2).symm (λk h=>by cases h; exact qam _) (λh=>by cases h<;>rfl)) (msq trivial)))) ⟨rfl,⟨MB.gs (eL (eI .i64)) true [],qcD⟩⟩) j1 (λ_ h=>nomatch (show(none:Option (List (List Int)))=some o1 from h)) ?_;rintro n ⟨v4,v5,l1⟩ j1;simp only[zcy]at j1;rw[congrFun hT2 (v4,v5,l1)];refine zab ?_;try simp only[rnA,Nat.reduceEqDiff,Nat.reduceLT,reduceCtorEq]
  cases c3:v5
  .rw[c3,qcF]at j1;try simp only[rnA]
   replace j1:=qaa j1; subst j1;exact lfj hT1 rfl (wm0 [.d,.k] ⟨rfl,⟨MB.gs (eL (eI .i64)) true l1,qcD⟩⟩)
  rw[c3,qcE]at j1;obtain⟨y4,g5,j1⟩:=bind_some j1;obtain⟨r6,g7,j1⟩:=bind_some j1;try simp only[rnA,Nat.reduceEqDiff,Nat.reduceLT,Nat.reduceAdd,Nat.reduceLeDiff,reduceCtorEq,zcT g5,(show l1.length+1=y4.length from zcd g5),(show l1.map ((eL (eI .i64)).c true)++ [[(fzE true (eI .i64) v4)]]=y4.map ((eL (eI .i64)).c true)from zc7 g5 ((eL (eI .i64)).c true))]
  refine EvL.fn (zkU g7) rfl rfl (.cons (zah _ _ (λh=>nomatch h)) (.cons (zah _ _ (λh=>nomatch h)) .nil)) ?_;try simp only[rnA,Nat.reduceEqDiff,Nat.reduceLT,reduceCtorEq]
  exact⟨(r6.1,r6.2,y4),j1,by rw[hT2]; exact wm0 [.d,.k] ⟨rfl,⟨MB.gs (eL (eI .i64)) true y4,qcD⟩⟩⟩
 rintro l1 rfl;rw[congrFun hT1 l1];refine zab ?_;try simp only[rnA,Nat.reduceEqDiff,Nat.reduceLT]
 replace h:=qaa h; subst h;exact zbT.ret rfl (zaz (e:=(eL (eI .i64))) (t:=true) rfl (.inr rfl) rfl rfl (λk h=>nomatch h) (λ_=>rfl))
def zei(p0:Int)(p1:Int):Option (Int×Int):=
(zsQ .u64 p0 32).bind λq1=>
(zsQ .u64 p1 32).bind λq3=>
(zsQ .u64 (IntKind.u64.wrap ((zmJ .u64 p0 4294967295)* (zmJ .u64 p1 4294967295))) 32).bind λq5=>
(zsQ .u64 (IntKind.u64.wrap ((IntKind.u64.wrap (q1 * (zmJ .u64 p1 4294967295)))+q5)) 32).bind λq7=>
(zsQ .u64 (IntKind.u64.wrap ((zmJ .u64 (IntKind.u64.wrap ((IntKind.u64.wrap (q1 * (zmJ .u64 p1 4294967295)))+q5)) 4294967295)+(IntKind.u64.wrap ((zmJ .u64 p0 4294967295)* q3)))) 32).bind λq9=>
some ((IntKind.u64.wrap ((IntKind.u64.wrap ((IntKind.u64.wrap (q1 * q3))+q7))+q9)),(IntKind.u64.wrap (p0 * p1)))
theorem ziu{p0:Int}{r:(Int×Int)}(h:zei p0 p1=some r):Lx.Fn mC 86 [(dU p0),(dU p1)] (.tup [(dU r.1),(dU r.2)]):=by
 refine gnO ?_;unfold zei at h;refine zab ?_;obtain⟨q1,g2,h⟩:=bind_some h;obtain⟨q3,g4,h⟩:=bind_some h;obtain⟨q5,g6,h⟩:=bind_some h;obtain⟨q7,g8,h⟩:=bind_some h;obtain⟨q9,g10,h⟩:=bind_some h;try simp only[rnA,Nat.reduceEqDiff,reduceIte,Nat.reduceLT,Nat.reduceAdd,Nat.reduceLeDiff,Nat.reduceMul,Nat.reduceSub,Int.reduceLE,Int.reduceLT,Int.reduceBEq,Nat.reduceBEq,reduceCtorEq,(zcH g2).1,(zcH g2).2,(zcH g4).1,(zcH g4).2,(zcH g6).1,(zcH g6).2,(zcH g8).1,(zcH g8).2,(zcH g10).1,(zcH g10).2]
 replace h:=qaa h; subst h;exact zbT.ret rfl (Snp.zm0 (.cons (.lit _) (.cons (.lit _) .nil)))
def zcs(p0:Int)(p1:Int):Option (Int×Bool):=
(zei (IntKind.u64.wrap p0) (IntKind.u64.wrap p1)).bind λr1=>
((bif (decide (0<r1.1))then(
some true)
else(
some (decide (4611686018427387903<r1.2))):Option Bool)).bind λv21=>
bif v21 then(
some (0,false))
else(
some ((w64 r1.2),true))
theorem zhr{p0:Int}{r:(Int×Bool)}(h:zcs p0 p1=some r):Lx.Fn mC 104 [(dI p0),(dI p1)] (.tup [(dI r.1),(dB r.2)]):=by
 refine gnO ?_;unfold zcs at h;refine zab ?_;obtain⟨r1,g2,h⟩:=bind_some h;try simp only[rnA,Nat.reduceEqDiff,reduceIte,Nat.reduceLT,Nat.reduceAdd,Nat.reduceLeDiff,Nat.reduceMul,Nat.reduceSub,Int.reduceLE,Int.reduceLT,Int.reduceBEq,Nat.reduceBEq,reduceCtorEq]
 refine EvL.fn (ziu g2) rfl rfl (.cons (.lit _) (.cons (.lit _) .nil)) ?_;try simp only[rnA,Nat.reduceEqDiff,reduceIte,Nat.reduceLT,Nat.reduceAdd,Nat.reduceLeDiff,Nat.reduceMul,Nat.reduceSub,Int.reduceLE,Int.reduceLT,Int.reduceBEq,Nat.reduceBEq,reduceCtorEq]
 obtain⟨o1,j1,h⟩:=bind_some h;obtain⟨T1,hT1⟩:=mkT λa:Bool=>⟨24,[(7,(dU r1.2)),(21,(dB a))],[]⟩
 refine EvL.jn T1 (λa=>a=o1) ?_ ?_
 .refine zab ?_;try simp only[rnA,Nat.reduceEqDiff,reduceIte,Nat.reduceLT,Nat.reduceAdd,Nat.reduceLeDiff,Nat.reduceMul,Nat.reduceSub,Int.reduceLE,Int.reduceLT,Int.reduceBEq,Nat.reduceBEq,reduceCtorEq]
  cases c3:(decide (0<r1.1))
  .rw[c3,qcF]at j1;try simp only[rnA,Nat.reduceEqDiff,reduceIte,Nat.reduceLT,Nat.reduceAdd,Nat.reduceLeDiff,Nat.reduceMul,Nat.reduceSub,Int.reduceLE,Int.reduceLT,Int.reduceBEq,Nat.reduceBEq,reduceCtorEq,c3]
   replace j1:=qaa j1; subst j1;exact lfj hT1 rfl (wm0 [] (by exact trivial))
  rw[c3,qcE]at j1;try simp only[rnA,Nat.reduceEqDiff,reduceIte,Nat.reduceLT,Nat.reduceAdd,Nat.reduceLeDiff,Nat.reduceMul,Nat.reduceSub,Int.reduceLE,Int.reduceLT,Int.reduceBEq,Nat.reduceBEq,reduceCtorEq,c3]
  replace j1:=qaa j1; subst j1;exact lfj hT1 rfl (wm0 [] (by exact trivial))
 rintro v21 rfl;rw[congrFun hT1 v21];refine zab ?_;try simp only[rnA,Nat.reduceEqDiff,reduceIte,Nat.reduceLT,Nat.reduceAdd,Nat.reduceLeDiff,Nat.reduceMul,Nat.reduceSub,Int.reduceLE,Int.reduceLT,Int.reduceBEq,Nat.reduceBEq,reduceCtorEq]
 cases c4:v21
 .rw[c4,qcF]at h;try simp only[rnA,Nat.reduceEqDiff,reduceIte,Nat.reduceLT,Nat.reduceAdd,Nat.reduceLeDiff,Nat.reduceMul,Nat.reduceSub,Int.reduceLE,Int.reduceLT,Int.reduceBEq,Nat.reduceBEq,reduceCtorEq,c4]
  replace h:=qaa h; subst h;exact zbT.ret rfl (Snp.zm0 (.cons (.lit _) (.cons (.lit _) .nil)))
 rw[c4,qcE]at h;try simp only[rnA,Nat.reduceEqDiff,reduceIte,Nat.reduceLT,Nat.reduceAdd,Nat.reduceLeDiff,Nat.reduceMul,Nat.reduceSub,Int.reduceLE,Int.reduceLT,Int.reduceBEq,Nat.reduceBEq,reduceCtorEq,c4]
 replace h:=qaa h; subst h;exact zbT.ret rfl (Snp.zm0 (.cons (.lit _) (.cons (.lit _) .nil)))
def zbo(p0:(List Int)):Nat->Int->Option (Out Unit (Int×Bool))
 | 0,_=>none
 | n+1,v4=>(
bif (decide (v4<(p0.length:Int)))then(
(zaH p0 v4).bind λx2=>
bif (x2 == 0)then(
some (.ret (0,true)))
else(
zbo p0 n (w64 (v4+1))))
else(
some (.go ())))
def zbO(p0:(List Int)):Nat->Int->Bool->Int->Option (Int×Bool)
 | 0,_,_,_=>none
 | n+1,v5,v6,v7=>(
((bif (decide (v7<(p0.length:Int)))then(
some v6)
else(
some false):Option Bool)).bind λv25=>
bif v25 then(
(zaH p0 v7).bind λx7=>
(zcs v5 x7).bind λr9=>
zbO p0 n r9.1 r9.2 (w64 (v7+1)))
else(
some (v5,v6)))
def zbF(N:Nat)(p0:(List Int)):Option (Int×Bool):=
((zbo p0 ((p0.length:Int) - 0+2:Int).toNat 0:Option (Out Unit (Int×Bool)))).bind λo=>match o with
| .go _=>(
((zbO p0 N 1 true 0:Option ((Int×Bool)))).bind λo=>match o with
|(v5,v6)=>(
some (v5,v6)))
| .ret r=>some r
theorem zhu{N:Nat}{p0:(List Int)}{r:(Int×Bool)}(h:zbF N p0=some r):Lx.Fn mC 59 [(fzE false (eI .i64) p0)] (.tup [(dI r.1),(dB r.2)]):=by
 refine gnO ?_;unfold zbF at h;refine zab ?_;try simp only[rnA,Nat.reduceLT]
 obtain⟨o1,j1,h⟩:=bind_some h;obtain⟨T1,hT1⟩:=mkT λa:Unit=>⟨39,[(0,(fzE false (eI .i64) p0))],[]⟩
 refine EvL.jn T1 (λa=>o1=.go a) ?_ ?_
 .refine zab ?_;simp only[rnA];obtain⟨T2,hT2⟩:=mkT λa:Int=>⟨39,[(0,(fzE false (eI .i64) p0)),(4,(dI a))],[]⟩
  refine EvL.rounds (α:=Int) T2 (λn a=>zbo p0 n a=some o1) ((p0.length:Int) - 0+2:Int).toNat 0 (by rw[hT2]; exact wm0 [] (by exact trivial)) j1 (λ_ h=>nomatch (show(none:Option (Out Unit (Int×Bool)))=some o1 from h)) ?_;rintro n v4 j1;simp only[zbo]at j1;rw[congrFun hT2 v4];refine zab ?_;try simp only[rnA,Nat.reduceEqDiff,Nat.reduceLT,reduceCtorEq,zaf]
  cases c1:(decide (v4<(p0.length:Int)))
  .rw[c1,qcF]at j1;try simp only[rnA]
   replace j1:=qaa j1; subst j1;exact lfj hT1 rfl (wm0 [] (by exact trivial))
  rw[c1,qcE]at j1;obtain⟨x2,g3,j1⟩:=bind_some j1;try simp only[rnA,Nat.reduceEqDiff,Nat.reduceLT,reduceCtorEq,zai (n:=1) (e:=(eI .i64)) rfl g3]
  cases c4:(x2 == 0)
  .rw[c4,qcF]at j1;try simp only[rnA,Nat.reduceEqDiff,Nat.reduceLT,reduceCtorEq]
   exact⟨(w64 (v4+1)),j1,by rw[hT2]; exact wm0 [] (by exact trivial)⟩
  rw[c4,qcE]at j1;try simp only[rnA,Nat.reduceLT]
  replace j1:=qaa j1; subst j1;dsimp only at h;replace h:=qaa h; subst h;exact zbT.ret rfl (Snp.zm0 (.cons (.lit _) (.cons (.lit _) .nil)))
 rintro⟨⟩ rfl;dsimp only at h;rw[congrFun hT1 ()];refine zab ?_;try simp only[rnA,Nat.reduceLT]
 obtain⟨o6,j6,h⟩:=bind_some h;obtain⟨T6,hT6⟩:=mkT λa:(Int×Bool)=>⟨39,[(5,(dI a.1)),(6,(dB a.2))],[]⟩
 refine EvL.jn T6 (λa=>a=o6) ?_ ?_
 .refine zab ?_;simp only[rnA];obtain⟨T9,hT9⟩:=mkT λa:(Int×Bool×Int)=>⟨39,[(0,(fzE false (eI .i64) p0)),(5,(dI a.1)),(6,(dB a.2.1)),(7,(dI a.2.2))],[]⟩
  refine EvL.rounds (α:=(Int×Bool×Int)) T9 (λn a=>zbO p0 n a.1 a.2.1 a.2.2=some o6) N (1,true,0) (by rw[hT9]; exact wm0 [] (by exact trivial)) j6 (λ_ h=>nomatch (show(none:Option (Int×Bool))=some o6 from h)) ?_;rintro n ⟨v5,v6,v7⟩ j6;simp only[zbO]at j6;rw[congrFun hT9 (v5,v6,v7)];refine zab ?_;try simp only[rnA]
  obtain⟨o10,j10,j6⟩:=bind_some j6;obtain⟨T10,hT10⟩:=mkT λa:Bool=>⟨39,[(0,(fzE false (eI .i64) p0)),(5,(dI v5)),(6,(dB v6)),(7,(dI v7)),(25,(dB a))],[]⟩
  refine EvL.jn T10 (λa=>a=o10) ?_ ?_
  .refine zab ?_;try simp only[rnA,Nat.reduceEqDiff,Nat.reduceLT,reduceCtorEq,zaf]
   cases c5:(decide (v7<(p0.length:Int)))
   .rw[c5,qcF]at j10;try simp only[rnA,Nat.reduceEqDiff,Nat.reduceLT,reduceCtorEq]
    replace j10:=qaa j10; subst j10;exact lfj hT10 rfl (wm0 [] (by exact trivial))
   rw[c5,qcE]at j10;try simp only[rnA,Nat.reduceEqDiff,Nat.reduceLT,reduceCtorEq]
   replace j10:=qaa j10; subst j10;exact lfj hT10 rfl (wm0 [] (by exact trivial))
  rintro v25 rfl;rw[congrFun hT10 v25];refine zab ?_;try simp only[rnA,Nat.reduceEqDiff,reduceCtorEq]
  cases c6:v25
  .rw[c6,qcF]at j6;try simp only[rnA]
   replace j6:=qaa j6; subst j6;exact lfj hT6 rfl (wm0 [] (by exact trivial))
  rw[c6,qcE]at j6;obtain⟨x7,g8,j6⟩:=bind_some j6;obtain⟨r9,g10,j6⟩:=bind_some j6;try simp only[rnA,Nat.reduceEqDiff,Nat.reduceLT,reduceCtorEq,zai (n:=1) (e:=(eI .i64)) rfl g8]
  refine EvL.fn (zhr g10) rfl rfl (.cons (.lit _) (.cons (.lit _) .nil)) ?_;try simp only[rnA,Nat.reduceEqDiff,Nat.reduceLT,reduceCtorEq]
  exact⟨(r9.1,r9.2,(w64 (v7+1))),j6,by rw[hT9]; exact wm0 [] (by exact trivial)⟩
 rintro⟨v5,v6⟩ rfl;dsimp only at h;rw[congrFun hT6 (v5,v6)];refine zab ?_;try simp only[rnA,Nat.reduceEqDiff,Nat.reduceLT]
 replace h:=qaa h; subst h;exact zbT.ret rfl (Snp.zm0 (.cons (.lit _) (.cons (.lit _) .nil)))
end Go.Dc
