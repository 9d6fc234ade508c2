/-
 What r15_Cards computes. Conditions: none.
-/
import Derived.Test.YtbjogdohfhdaiaaCaQt
set_option linter.unusedSimpArgs false
set_option linter.unusedVariables false
set_option maxRecDepth 100000
set_option maxHeartbeats 4000000
namespace Go.Dc
open Go Go.Mx Go.Lx Go.Proofs
def zaJ(p2:S_api_Gate)(p1:Int):Nat->Int->Int->Option (Out Unit Bool)
 | 0,_,_=>none
 | n+1,v7,v103=>(
bif (decide (v103<(p2.args.length:Int)))then(
(zaS p2.args v103).bind λx10=>
((bif (decide (x10<=v7))then(
some true)
else(
some (decide (p1<=x10))):Option Bool)).bind λv114=>
bif v114 then(
some (.ret false))
else(
zaJ p2 p1 n x10 (w64 (v103+1))))
else(
some (.go ())))
def zaY(p0:S_api_Circuit)(p1:Int)(p2:S_api_Gate):Option Bool:=
bif (p2.kind == 1)then(
((bif (decide (0<=p2.n))then(
bif (decide (p2.n<=4611686018427387903))then(
bif (p2.var == 0)then(
bif (p2.val == 0)then(
some ((p2.args.length:Int)== 0))
else(
some false))
else(
some false))
else(
some false))
else(
some false):Option Bool)).bind λv6=>
some v6)
else(
bif (p2.kind == 2)then(
((bif (decide (0<=p2.var))then(
bif (decide (p2.var<(p0.cards.length:Int)))then(
bif (decide (0<=p2.val))then(
(zaS p0.cards p2.var).bind λx17=>
bif (decide (p2.val<x17))then(
bif (p2.n == 0)then(
some ((p2.args.length:Int)== 0))
else(
some false))
else(
some false))
else(
some false))
else(
some false))
else(
some false):Option Bool)).bind λv6=>
some v6)
else(
((bif (p2.kind == 3)then(
some true)
else(
some (p2.kind == 4)):Option Bool)).bind λv78=>
bif v78 then(
((bif (p2.var == 0)then(
bif (p2.val == 0)then(
bif (p2.n == 0)then(
some ((p2.args.length:Int)== 0))
else(
some true))
else(
some true))
else(
some true):Option Bool)).bind λv99=>
bif v99 then(
some false)
else(
((zaJ p2 p1 ((p2.args.length:Int) - 0+2:Int).toNat (-1) 0:Option (Out Unit Bool))).bind λo=>match o with
| .go _=>(
some true)
| .ret r=>some r))
else(
some false)))
def zcI:C:=
 .seq (rg [oW 3 0,
 oW 5 2,
 oJ 6 false])
 (.seq (.seq (rg [oF 10 0 5,
 oL 11 10])
 (.block 0 (.seq (rg [oD 13 .eql 11 1,
 oM 12 13])
 (.cond (.s 12) (.seq (.scope (rg [oF 14 3 5,
 oL 15 14,
 oD 16 .geq 15 0,
 oM 17 16,
 oFg 18 3 5 17 true,
 oLg 19 18 17 true,
 oDg 20 .leq 19 4611686018427387903 17 true,
 ⟨some 21,.pick (.s 17) (.s 20) (.c (.bool false)),none⟩,
 oM 22 21,
 oFg 23 1 5 22 true,
 oLg 24 23 22 true,
 oDg 25 .eql 24 0 22 true,
 ⟨some 26,.pick (.s 22) (.s 25) (.c (.bool false)),none⟩,
 oM 27 26,
 oFg 28 2 5 27 true,
 oLg 29 28 27 true,
 oDg 30 .eql 29 0 27 true,
 ⟨some 31,.pick (.s 27) (.s 30) (.c (.bool false)),none⟩,
 oM 32 31,
 oFg 33 4 5 32 true,
 oLg 34 33 32 true,
 ⟨some 35,.len (.s 34),some (32,true)⟩,
 oDg 36 .eql 35 0 32 true,
 ⟨some 37,.pick (.s 32) (.s 36) (.c (.bool false)),none⟩,
 oM 6 37]))
 (.ret))
 (.seq (rg [oD 39 .eql 11 2,
 oM 38 39])
 (.cond (.s 38) (.seq (.scope (.reg true false [oF 40 1 5,
 oL 41 40,
 oD 42 .geq 41 0,
 oM 43 42,
 oFg 44 1 5 43 true,
 oLg 45 44 43 true,
 oFg 46 0 3 43 true,
 oLg 47 46 43 true,
 ⟨some 48,.len (.s 47),some (43,true)⟩,
 ⟨some 49,.bin .lss (.s 45) (.s 48),some (43,true)⟩,
 ⟨some 50,.pick (.s 43) (.s 49) (.c (.bool false)),none⟩,
 oM 51 50,
 oFg 52 2 5 51 true,
 oLg 53 52 51 true,
 oDg 54 .geq 53 0 51 true,
 ⟨some 55,.pick (.s 51) (.s 54) (.c (.bool false)),none⟩,
 oM 56 55,
 oFg 57 2 5 56 true,
 oLg 58 57 56 true,
 oFg 59 0 3 56 true,
 oLg 60 59 56 true,
 oFg 61 1 5 56 true,
 oLg 62 61 56 true,
 ⟨some 63,.idxS 1 (.s 60) (.s 62),some (56,true)⟩,
 oLg 64 63 56 true,
 ⟨some 65,.bin .lss (.s 58) (.s 64),some (56,true)⟩,
 ⟨some 66,.pick (.s 56) (.s 65) (.c (.bool false)),none⟩,
 oM 67 66,
 oFg 68 3 5 67 true,
 oLg 69 68 67 true,
 oDg 70 .eql 69 0 67 true,
 ⟨some 71,.pick (.s 67) (.s 70) (.c (.bool false)),none⟩,
 oM 72 71,
 oFg 73 4 5 72 true,
 oLg 74 73 72 true,
 ⟨some 75,.len (.s 74),some (72,true)⟩,
 oDg 76 .eql 75 0 72 true,
 ⟨some 77,.pick (.s 72) (.s 76) (.c (.bool false)),none⟩,
 oM 6 77]))
 (.ret))
 (.seq (.seq (rg [oD 79 .eql 11 3,
 oM 78 79])
 (.scope (.cond (.s 78) (.skip)
 (rg [oD 80 .eql 11 4,
 oM 78 80]))))
 (.cond (.s 78) (.seq (.seq (.scope (rg [oF 81 1 5,
 oL 82 81,
 oD 83 .neq 82 0,
 oM 84 83,
 oFg 85 2 5 84 false,
 oLg 86 85 84 false,
 oDg 87 .neq 86 0 84 false,
 oP 88 84 87,
 oM 89 88,
 oFg 90 3 5 89 false,
 oLg 91 90 89 false,
 oDg 92 .neq 91 0 89 false,
 oP 93 89 92,
 oM 94 93,
 oFg 95 4 5 94 false,
 oLg 96 95 94 false,
 ⟨some 97,.len (.s 96),some (94,false)⟩,
 oDg 98 .eql 97 0 94 false,
 oP 99 94 98]))
 (.cond (.s 99) (.seq (rg [oJ 6 false])
 (.ret))
 (.skip)))
 (.seq (rg [⟨some 7,.mov (.c (.int .i64 (-1))),none⟩])
 (.seq (.seq (rg [oF 100 4 5,
 oL 101 100,
 oE 102 101,
 oK 103 0])
 (.scope (.block 1 (.loop (.seq (rg [oB 104 .lss 103 102])
 (.seq (.cond (.s 104) (.skip)
 (.exit 1))
 (.seq (.block 2 (.seq (rg [oI 105 1 101 103,
 oL 106 105,
 oM 9 106])
 (.seq (.seq (.scope (rg [oM 107 9,
 oM 108 7,
 oB 109 .leq 107 108,
 oM 110 109,
 oMg 111 9 110 false,
 oMg 112 1 110 false,
 ⟨some 113,.bin .geq (.s 111) (.s 112),some (110,false)⟩,
 oP 114 110 113]))
 (.cond (.s 114) (.seq (rg [oJ 6 false])
 (.ret))
 (.skip)))
 (rg [oM 115 9,
 oM 7 115]))))
 (rg [oD 116 .add 103 1,
 oM 103 116]))))))))
 (.seq (rg [oJ 6 true])
 (.ret)))))
 (.skip)))))))))
 (.seq (rg [oJ 6 false])
 (.ret)))
theorem zdX:zn1 mC 54=some (117,zcI,[.tmp 6],false):=zgp (by kernel_rfl)
variable{p0:S_api_Circuit}
theorem zer{p1:Int}{p2:S_api_Gate}{r:Bool}(h:zaY p0 p1 p2=some r):Lx.Fn mC 54 [(.agg [(fzE false (eI .i64) p0.cards),(fzE false zab p0.gates)]),(dI p1),(.agg [(dI p2.kind),(dI p2.var),(dI p2.val),(dI p2.n),(fzE false (eI .i64) p2.args)])] (dB r):=by
 refine Fn.of zdX (zcV rfl) (qak rfl) ?_;unfold zaY at h;simp only[zcI,zxN];refine zaa ?_;try simp only[rnA,Nat.reduceEqDiff,Nat.reduceLT,Nat.reduceAdd,reduceCtorEq]
 cases c1:(p2.kind == 1)
 .rw[c1,qcS]at h;try simp only[rnA,Nat.reduceEqDiff,Nat.reduceLT,reduceCtorEq]
  cases c2:(p2.kind == 2)
  .rw[c2,qcS]at h;try simp only[rnA,Nat.reduceEqDiff,Nat.reduceLT,reduceCtorEq]
   obtain⟨o1,j1,h⟩:=bind_some h;obtain⟨T1,hT1⟩:=mkT λa:Bool=>⟨117,[(1,(dI p1)),(5,(.ptr 1 0)),(78,(dB a))],[.gone,.cells [(dI p2.kind),(dI p2.var),(dI p2.val),(dI p2.n),(fzE false (eI .i64) p2.args)]]⟩
   refine EvL.jn T1 (λa=>a=o1) ?_ ?_
   .refine zaa ?_;try simp only[rnA,Nat.reduceEqDiff,reduceCtorEq]
    cases c3:(p2.kind == 3)
    .rw[c3,qcS]at j1;try simp only[rnA,Nat.reduceEqDiff,Nat.reduceLT,reduceCtorEq]
     replace j1:=qae j1; subst j1;exact lfj hT1 rfl (wm0 [.d,.k] ⟨rfl,⟨MB.cs ⟨qcQ,qcQ,qcQ,qcQ,qcQ,qcQ⟩,qcQ⟩⟩)
    rw[c3,qcR]at j1;try simp only[rnA]
    replace j1:=qae j1; subst j1;exact lfj hT1 rfl (wm0 [.d,.k] ⟨rfl,⟨MB.cs ⟨qcQ,qcQ,qcQ,qcQ,qcQ,qcQ⟩,qcQ⟩⟩)
   rintro v78 rfl;rw[congrFun hT1 v78];refine zaa ?_;try simp only[rnA,Nat.reduceEqDiff]
   cases c4:v78
   .rw[c4,qcS]at h;try simp only[rnA,Nat.reduceLT]
    replace h:=qae h; subst h;exact zc7.ret rfl (.lit _)
   rw[c4,qcR]at h;try simp only[rnA]
   obtain⟨o2,j2,h⟩:=bind_some h;obtain⟨T2,hT2⟩:=mkT λa:Bool=>⟨117,[(1,(dI p1)),(5,(.ptr 1 0)),(99,(dB a))],[.gone,.cells [(dI p2.kind),(dI p2.var),(dI p2.val),(dI p2.n),(fzE false (eI .i64) p2.args)]]⟩
   refine EvL.jn T2 (λa=>a=o2) ?_ ?_
   .refine zaa ?_;try simp only[rnA,Nat.reduceEqDiff,Nat.reduceLT]
    cases c5:(p2.var == 0)
    .rw[c5,qcS]at j2;try simp only[rnA,Nat.reduceEqDiff,Nat.reduceLT]
     replace j2:=qae j2; subst j2;exact lfj hT2 rfl (wm0 [.d,.k] ⟨rfl,⟨MB.cs ⟨qcQ,qcQ,qcQ,qcQ,qcQ,qcQ⟩,qcQ⟩⟩)
    rw[c5,qcR]at j2;try simp only[rnA,Nat.reduceEqDiff,Nat.reduceLT]
    cases c6:(p2.val == 0)
    .rw[c6,qcS]at j2;try simp only[rnA,Nat.reduceEqDiff,Nat.reduceLT]
     replace j2:=qae j2; subst j2;exact lfj hT2 rfl (wm0 [.d,.k] ⟨rfl,⟨MB.cs ⟨qcQ,qcQ,qcQ,qcQ,qcQ,qcQ⟩,qcQ⟩⟩)
    rw[c6,qcR]at j2;try simp only[rnA,Nat.reduceEqDiff,Nat.reduceLT]
    cases c7:(p2.n == 0)
    .rw[c7,qcS]at j2;try simp only[rnA,Nat.reduceEqDiff,Nat.reduceLT]
     replace j2:=qae j2; subst j2;exact lfj hT2 rfl (wm0 [.d,.k] ⟨rfl,⟨MB.cs ⟨qcQ,qcQ,qcQ,qcQ,qcQ,qcQ⟩,qcQ⟩⟩)
    rw[c7,qcR]at j2;try simp only[rnA,Nat.reduceEqDiff,Nat.reduceLT,zal]
    replace j2:=qae j2; subst j2;exact lfj hT2 rfl (wm0 [.d,.k] ⟨rfl,⟨MB.cs ⟨qcQ,qcQ,qcQ,qcQ,qcQ,qcQ⟩,qcQ⟩⟩)
   rintro v99 rfl;rw[congrFun hT2 v99];refine zaa ?_;try simp only[rnA,Nat.reduceEqDiff]
   cases c8:v99
   .rw[c8,qcS]at h;try simp only[rnA,Nat.reduceEqDiff,Nat.reduceLT,zal]
    obtain⟨o6,j6,h⟩:=bind_some h;obtain⟨T6,hT6⟩:=mkT λa:Unit=>⟨117,[],[]⟩
    refine EvL.jn T6 (λa=>o6=.go a) ?_ ?_
    .refine zaa ?_;simp only[rnA];obtain⟨T9,hT9⟩:=mkT λa:(Int×Int)=>⟨117,[(1,(dI p1)),(7,(dI a.1)),(101,(fzE false (eI .i64) p2.args)),(102,(dI (p2.args.length:Int))),(103,(dI a.2))],[]⟩
     refine EvL.rounds (α:=(Int×Int)) T9 (λn a=>zaJ p2 p1 n a.1 a.2=some o6) ((p2.args.length:Int) - 0+2:Int).toNat ((-1),0) (by rw[hT9]; exact wm0 [] (by exact trivial)) j6 (λ_ h=>nomatch (show(none:Option (Out Unit Bool))=some o6 from h)) ?_;rintro n ⟨v7,v103⟩ j6;simp only[zaJ]at j6;rw[congrFun hT9 (v7,v103)];refine zaa ?_;try simp only[rnA,Nat.reduceEqDiff,Nat.reduceLT]
     cases c9:(decide (v103<(p2.args.length:Int)))
     .rw[c9,qcS]at j6;try simp only[rnA,Nat.reduceLT,reduceCtorEq]
      replace j6:=qae j6; subst j6;exact lfj hT6 rfl (wm0 [] (by exact trivial))
     rw[c9,qcR]at j6;obtain⟨x10,g11,j6⟩:=bind_some j6;try simp only[rnA,Nat.reduceEqDiff,Nat.reduceLT,zai (n:=1) (e:=(eI .i64)) rfl g11]
     obtain⟨o10,j10,j6⟩:=bind_some j6;obtain⟨T10,hT10⟩:=mkT λa:Bool=>⟨117,[(1,(dI p1)),(9,(dI x10)),(101,(fzE false (eI .i64) p2.args)),(102,(dI (p2.args.length:Int))),(103,(dI v103)),(114,(dB a))],[]⟩
     refine EvL.jn T10 (λa=>a=o10) ?_ ?_
     .refine zaa ?_;try simp only[rnA,Nat.reduceEqDiff,Nat.reduceLT]
      cases c12:(decide (x10<=v7))
      .rw[c12,qcS]at j10;try simp only[rnA,Nat.reduceEqDiff,Nat.reduceLT]
       replace j10:=qae j10; subst j10;exact lfj hT10 rfl (wm0 [] (by exact trivial))
      rw[c12,qcR]at j10;try simp only[rnA,Nat.reduceEqDiff,Nat.reduceLT]
      replace j10:=qae j10; subst j10;exact lfj hT10 rfl (wm0 [] (by exact trivial))
     rintro v114 rfl;rw[congrFun hT10 v114];refine zaa ?_;try simp only[rnA,Nat.reduceEqDiff]
     cases c13:v114
     .rw[c13,qcS]at j6;try simp only[rnA,Nat.reduceEqDiff,Nat.reduceLT]
      exact⟨(x10,(w64 (v103+1))),j6,by rw[hT9]; exact wm0 [] (by exact trivial)⟩
     rw[c13,qcR]at j6;try simp only[rnA,Nat.reduceLT]
     replace j6:=qae j6; subst j6;dsimp only at h;replace h:=qae h; subst h;exact zc7.ret rfl (.lit _)
    rintro⟨⟩ rfl;dsimp only at h;rw[congrFun hT6 ()];refine zaa ?_;try simp only[rnA,Nat.reduceLT]
    replace h:=qae h; subst h;exact zc7.ret rfl (.lit _)
   rw[c8,qcR]at h;try simp only[rnA,Nat.reduceLT]
   replace h:=qae h; subst h;exact zc7.ret rfl (.lit _)
  rw[c2,qcR]at h;try simp only[rnA]
  obtain⟨o11,j11,h⟩:=bind_some h;obtain⟨T11,hT11⟩:=mkT λa:Bool=>⟨117,[(6,(dB a))],[]⟩
  refine EvL.jn T11 (λa=>a=o11) ?_ ?_
  .refine zaa ?_;try simp only[rnA,Nat.reduceEqDiff,Nat.reduceLT,reduceCtorEq]
   cases c14:(decide (0<=p2.var))
   .rw[c14,qcS]at j11;try simp only[rnA,Nat.reduceEqDiff,Nat.reduceLT,reduceCtorEq]
    replace j11:=qae j11; subst j11;exact lfj hT11 rfl (wm0 [] (by exact trivial))
   rw[c14,qcR]at j11;try simp only[rnA,Nat.reduceEqDiff,Nat.reduceLT,reduceCtorEq,zal]
   cases c15:(decide (p2.var<(p0.cards.length:Int)))
   .rw[c15,qcS]at j11;try simp only[rnA,Nat.reduceEqDiff,Nat.reduceLT,reduceCtorEq]
    replace j11:=qae j11; subst j11;exact lfj hT11 rfl (wm0 [] (by exact trivial))
   rw[c15,qcR]at j11;try simp only[rnA,Nat.reduceEqDiff,Nat.reduceLT,reduceCtorEq]
   cases c16:(decide (0<=p2.val))
   .rw[c16,qcS]at j11;try simp only[rnA,Nat.reduceEqDiff,Nat.reduceLT,reduceCtorEq]
    replace j11:=qae j11; subst j11;exact lfj hT11 rfl (wm0 [] (by exact trivial))
   rw[c16,qcR]at j11;obtain⟨x17,g18,j11⟩:=bind_some j11;try simp only[rnA,Nat.reduceEqDiff,Nat.reduceLT,reduceCtorEq,zai (n:=1) (e:=(eI .i64)) rfl g18]
   cases c19:(decide (p2.val<x17))
   .rw[c19,qcS]at j11;try simp only[rnA,Nat.reduceEqDiff,Nat.reduceLT,reduceCtorEq]
    replace j11:=qae j11; subst j11;exact lfj hT11 rfl (wm0 [] (by exact trivial))
   rw[c19,qcR]at j11;try simp only[rnA,Nat.reduceEqDiff,Nat.reduceLT,reduceCtorEq]
   cases c20:(p2.n == 0)
   .rw[c20,qcS]at j11;try simp only[rnA,Nat.reduceEqDiff,Nat.reduceLT,reduceCtorEq]
    replace j11:=qae j11; subst j11;exact lfj hT11 rfl (wm0 [] (by exact trivial))
   rw[c20,qcR]at j11;try simp only[rnA,Nat.reduceEqDiff,Nat.reduceLT,reduceCtorEq,zal]
   replace j11:=qae j11; subst j11;exact lfj hT11 rfl (wm0 [] (by exact trivial))
  rintro v6 rfl;rw[congrFun hT11 v6];refine zaa ?_;try simp only[rnA]
  replace h:=qae h; subst h;exact zc7.ret rfl (.lit _)
 rw[c1,qcR]at h;try simp only[rnA]
 obtain⟨o12,j12,h⟩:=bind_some h;obtain⟨T12,hT12⟩:=mkT λa:Bool=>⟨117,[(6,(dB a))],[]⟩
 refine EvL.jn T12 (λa=>a=o12) ?_ ?_
 .refine zaa ?_;try simp only[rnA,Nat.reduceEqDiff,Nat.reduceLT,reduceCtorEq]
  cases c21:(decide (0<=p2.n))
  .rw[c21,qcS]at j12;try simp only[rnA,Nat.reduceEqDiff,Nat.reduceLT,reduceCtorEq]
   replace j12:=qae j12; subst j12;exact lfj hT12 rfl (wm0 [] (by exact trivial))
  rw[c21,qcR]at j12;try simp only[rnA,Nat.reduceEqDiff,Nat.reduceLT,reduceCtorEq]
  cases c22:(decide (p2.n<=4611686018427387903))
  .rw[c22,qcS]at j12;try simp only[rnA,Nat.reduceEqDiff,Nat.reduceLT,reduceCtorEq]
   replace j12:=qae j12; subst j12;exact lfj hT12 rfl (wm0 [] (by exact trivial))
  rw[c22,qcR]at j12;try simp only[rnA,Nat.reduceEqDiff,Nat.reduceLT,reduceCtorEq]
  cases c23:(p2.var == 0)
  .rw[c23,qcS]at j12;try simp only[rnA,Nat.reduceEqDiff,Nat.reduceLT,reduceCtorEq]
   replace j12:=qae j12; subst j12;exact lfj hT12 rfl (wm0 [] (by exact trivial))
  rw[c23,qcR]at j12;try simp only[rnA,Nat.reduceEqDiff,Nat.reduceLT,reduceCtorEq]
  cases c24:(p2.val == 0)
  .rw[c24,qcS]at j12;try simp only[rnA,Nat.reduceEqDiff,Nat.reduceLT,reduceCtorEq]
   replace j12:=qae j12; subst j12;exact lfj hT12 rfl (wm0 [] (by exact trivial))
  rw[c24,qcR]at j12;try simp only[rnA,Nat.reduceEqDiff,Nat.reduceLT,reduceCtorEq,zal]
  replace j12:=qae j12; subst j12;exact lfj hT12 rfl (wm0 [] (by exact trivial))
 rintro v6 rfl;rw[congrFun hT12 v6];refine zaa ?_;try simp only[rnA]
 replace h:=qae h; subst h;exact zc7.ret rfl (.lit _)
def za6(p0:S_api_Circuit):Nat->Int->Int->Option (Out Int Int)
 | 0,_,_=>none
 | n+1,v3,v33=>(
bif (decide (v33<(p0.cards.length:Int)))then(
(zaS p0.cards v33).bind λx6=>
((bif (decide (x6<1))then(
some true)
else(
some (decide (4<x6))):Option Bool)).bind λv42=>
bif v42 then(
some (.ret 150))
else(
za6 p0 n (w64 (v3 * x6)) (w64 (v33+1))))
else(
some (.go v3)))
def za7(p0:S_api_Circuit):Nat->Int->Option (Out Unit Int)
 | 0,_=>none
 | n+1,v52=>(
bif (decide (v52<(p0.gates.length:Int)))then(
(zaS p0.gates v52).bind λx12=>
(zaY p0 v52 x12).bind λr14=>
bif r14 then(
za7 p0 n (w64 (v52+1)))
else(
some (.ret 150)))
else(
some (.go ())))
def zbI(p0:S_api_Circuit):Option Int:=
((bif (decide ((p0.cards.length:Int)<1))then(
some true)
else(
bif (decide (8<(p0.cards.length:Int)))then(
some true)
else(
bif (decide ((p0.gates.length:Int)<1))then(
some true)
else(
some (decide (4000<(p0.gates.length:Int)))))):Option Bool)).bind λv29=>
bif v29 then(
some 150)
else(
((za6 p0 ((p0.cards.length:Int) - 0+2:Int).toNat 1 0:Option (Out Int Int))).bind λo=>match o with
| .go v3=>(
bif (decide (1024<v3))then(
some 150)
else(
((za7 p0 ((p0.gates.length:Int) - 0+2:Int).toNat 0:Option (Out Unit Int))).bind λo=>match o with
| .go _=>(
some 0)
| .ret r=>some r))
| .ret r=>some r)
theorem zdC{r:Int}(h:zbI p0=some r):Lx.Fn mC 11 [(.agg [(fzE false (eI .i64) p0.cards),(fzE false zab p0.gates)])] (dI r):=by
 refine gnO ?_;unfold zbI at h;refine zaa ?_;try simp only[rnA,Nat.reduceLT]
 obtain⟨o1,j1,h⟩:=bind_some h;obtain⟨T1,hT1⟩:=mkT λa:Bool=>⟨63,[(1,(.ptr 0 0)),(29,(dB a))],[.cells [(fzE false (eI .i64) p0.cards),(fzE false zab p0.gates)]]⟩
 refine EvL.jn T1 (λa=>a=o1) ?_ ?_
 .refine zaa ?_;try simp only[rnA,Nat.reduceEqDiff,Nat.reduceLT,reduceCtorEq,zal]
  cases c1:(decide ((p0.cards.length:Int)<1))
  .rw[c1,qcS]at j1;try simp only[rnA,Nat.reduceEqDiff,Nat.reduceLT,reduceCtorEq,zal]
   cases c2:(decide (8<(p0.cards.length:Int)))
   .rw[c2,qcS]at j1;try simp only[rnA,Nat.reduceEqDiff,Nat.reduceLT,reduceCtorEq,zal]
    cases c3:(decide ((p0.gates.length:Int)<1))
    .rw[c3,qcS]at j1;try simp only[rnA,Nat.reduceEqDiff,Nat.reduceLT,reduceCtorEq,zal]
     replace j1:=qae j1; subst j1;exact lfj hT1 rfl (wm0 [.k] ⟨MB.cs ⟨qcQ,qcQ,qcQ⟩,qcQ⟩)
    rw[c3,qcR]at j1;try simp only[rnA,Nat.reduceEqDiff,Nat.reduceLT,reduceCtorEq]
    replace j1:=qae j1; subst j1;exact lfj hT1 rfl (wm0 [.k] ⟨MB.cs ⟨qcQ,qcQ,qcQ⟩,qcQ⟩)
   rw[c2,qcR]at j1;try simp only[rnA,Nat.reduceEqDiff,Nat.reduceLT,reduceCtorEq]
   replace j1:=qae j1; subst j1;exact lfj hT1 rfl (wm0 [.k] ⟨MB.cs ⟨qcQ,qcQ,qcQ⟩,qcQ⟩)
  rw[c1,qcR]at j1;try simp only[rnA,Nat.reduceEqDiff,Nat.reduceLT,reduceCtorEq]
  replace j1:=qae j1; subst j1;exact lfj hT1 rfl (wm0 [.k] ⟨MB.cs ⟨qcQ,qcQ,qcQ⟩,qcQ⟩)
 rintro v29 rfl;rw[congrFun hT1 v29];refine zaa ?_;try simp only[rnA,Nat.reduceEqDiff]
 cases c4:v29
 .rw[c4,qcS]at h;try simp only[rnA,Nat.reduceEqDiff,Nat.reduceLT,zal]
  obtain⟨o5,j5,h⟩:=bind_some h;obtain⟨T5,hT5⟩:=mkT λa:Int=>⟨63,[(1,(.ptr 0 0)),(3,(dI a))],[.cells [(fzE false (eI .i64) p0.cards),(fzE false zab p0.gates)]]⟩
  refine EvL.jn T5 (λa=>o5=.go a) ?_ ?_
  .refine zaa ?_;simp only[rnA];obtain⟨T8,hT8⟩:=mkT λa:(Int×Int)=>⟨63,[(1,(.ptr 0 0)),(3,(dI a.1)),(31,(fzE false (eI .i64) p0.cards)),(32,(dI (p0.cards.length:Int))),(33,(dI a.2))],[.cells [(fzE false (eI .i64) p0.cards),(fzE false zab p0.gates)]]⟩
   refine EvL.rounds (α:=(Int×Int)) T8 (λn a=>za6 p0 n a.1 a.2=some o5) ((p0.cards.length:Int) - 0+2:Int).toNat (1,0) (by rw[hT8]; exact wm0 [.k] ⟨MB.cs ⟨qcQ,qcQ,qcQ⟩,qcQ⟩) j5 (λ_ h=>nomatch (show(none:Option (Out Int Int))=some o5 from h)) ?_;rintro n ⟨v3,v33⟩ j5;simp only[za6]at j5;rw[congrFun hT8 (v3,v33)];refine zaa ?_;try simp only[rnA,Nat.reduceEqDiff,Nat.reduceLT]
   cases c5:(decide (v33<(p0.cards.length:Int)))
   .rw[c5,qcS]at j5;try simp only[rnA]
    replace j5:=qae j5; subst j5;exact lfj hT5 rfl (wm0 [.k] ⟨MB.cs ⟨qcQ,qcQ,qcQ⟩,qcQ⟩)
   rw[c5,qcR]at j5;obtain⟨x6,g7,j5⟩:=bind_some j5;try simp only[rnA,Nat.reduceEqDiff,Nat.reduceLT,zai (n:=1) (e:=(eI .i64)) rfl g7]
   obtain⟨o9,j9,j5⟩:=bind_some j5;obtain⟨T9,hT9⟩:=mkT λa:Bool=>⟨63,[(1,(.ptr 0 0)),(3,(dI v3)),(5,(dI x6)),(31,(fzE false (eI .i64) p0.cards)),(32,(dI (p0.cards.length:Int))),(33,(dI v33)),(42,(dB a))],[.cells [(fzE false (eI .i64) p0.cards),(fzE false zab p0.gates)]]⟩
   refine EvL.jn T9 (λa=>a=o9) ?_ ?_
   .refine zaa ?_;try simp only[rnA,Nat.reduceEqDiff,Nat.reduceLT]
    cases c8:(decide (x6<1))
    .rw[c8,qcS]at j9;try simp only[rnA,Nat.reduceEqDiff,Nat.reduceLT]
     replace j9:=qae j9; subst j9;exact lfj hT9 rfl (wm0 [.k] ⟨MB.cs ⟨qcQ,qcQ,qcQ⟩,qcQ⟩)
    rw[c8,qcR]at j9;try simp only[rnA,Nat.reduceEqDiff,Nat.reduceLT]
    replace j9:=qae j9; subst j9;exact lfj hT9 rfl (wm0 [.k] ⟨MB.cs ⟨qcQ,qcQ,qcQ⟩,qcQ⟩)
   rintro v42 rfl;rw[congrFun hT9 v42];refine zaa ?_;try simp only[rnA,Nat.reduceEqDiff]
   cases c9:v42
   .rw[c9,qcS]at j5;try simp only[rnA,Nat.reduceEqDiff,Nat.reduceLT]
    exact⟨((w64 (v3 * x6)),(w64 (v33+1))),j5,by rw[hT8]; exact wm0 [.k] ⟨MB.cs ⟨qcQ,qcQ,qcQ⟩,qcQ⟩⟩
   rw[c9,qcR]at j5;try simp only[rnA,Nat.reduceLT]
   replace j5:=qae j5; subst j5;dsimp only at h;replace h:=qae h; subst h;exact zc7.ret rfl (.lit _)
  rintro v3 rfl;dsimp only at h;rw[congrFun hT5 v3];refine zaa ?_;try simp only[rnA,Nat.reduceEqDiff,Nat.reduceLT]
  cases c10:(decide (1024<v3))
  .rw[c10,qcS]at h;try simp only[rnA,Nat.reduceEqDiff,Nat.reduceLT,zal]
   obtain⟨o10,j10,h⟩:=bind_some h;obtain⟨T10,hT10⟩:=mkT λa:Unit=>⟨63,[],[]⟩
   refine EvL.jn T10 (λa=>o10=.go a) ?_ ?_
   .refine zaa ?_;simp only[rnA];obtain⟨T11,hT11⟩:=mkT λa:Int=>⟨63,[(1,(.ptr 0 0)),(50,(fzE false zab p0.gates)),(51,(dI (p0.gates.length:Int))),(52,(dI a))],[.cells [(fzE false (eI .i64) p0.cards),(fzE false zab p0.gates)]]⟩
    refine EvL.rounds (α:=Int) T11 (λn a=>za7 p0 n a=some o10) ((p0.gates.length:Int) - 0+2:Int).toNat 0 (by rw[hT11]; exact wm0 [.k] ⟨MB.cs ⟨qcQ,qcQ,qcQ⟩,qcQ⟩) j10 (λ_ h=>nomatch (show(none:Option (Out Unit Int))=some o10 from h)) ?_;rintro n v52 j10;simp only[za7]at j10;rw[congrFun hT11 v52];refine zaa ?_;try simp only[rnA,Nat.reduceEqDiff,Nat.reduceLT]
    cases c11:(decide (v52<(p0.gates.length:Int)))
    .rw[c11,qcS]at j10;try simp only[rnA]
     replace j10:=qae j10; subst j10;exact lfj hT10 rfl (wm0 [] (by exact trivial))
    rw[c11,qcR]at j10;obtain⟨x12,g13,j10⟩:=bind_some j10;obtain⟨r14,g15,j10⟩:=bind_some j10;try simp only[rnA,Nat.reduceEqDiff,Nat.reduceLT,Nat.reduceAdd,Nat.reduceLeDiff,zaE,zai (n:=5) (e:=zab) rfl g13]
    refine EvL.fn (zer g15) rfl rfl (.cons (.zl2 (.cons (zaM _ _ (λh=>nomatch h)) (.cons (zaM _ _ (λh=>nomatch h)) .nil))) (.cons (.lit _) (.cons (.zl2 (.cons (.lit _) (.cons (.lit _) (.cons (.lit _) (.cons (.lit _) (.cons (zaM _ _ (λh=>nomatch h)) .nil)))))) .nil))) ?_;try simp only[rnA,Nat.reduceEqDiff,Nat.reduceLT]
    cases c16:r14
    .rw[c16,qcS]at j10;try simp only[rnA,Nat.reduceLT]
     replace j10:=qae j10; subst j10;dsimp only at h;replace h:=qae h; subst h;exact zc7.ret rfl (.lit _)
    rw[c16,qcR]at j10;try simp only[rnA,Nat.reduceEqDiff,Nat.reduceLT]
    exact⟨(w64 (v52+1)),j10,by rw[hT11]; exact wm0 [.k] ⟨MB.cs ⟨qcQ,qcQ,qcQ⟩,qcQ⟩⟩
   rintro⟨⟩ rfl;dsimp only at h;rw[congrFun hT10 ()];refine zaa ?_;try simp only[rnA,Nat.reduceLT]
   replace h:=qae h; subst h;exact zc7.ret rfl (.lit _)
  rw[c10,qcR]at h;try simp only[rnA,Nat.reduceLT]
  replace h:=qae h; subst h;exact zc7.ret rfl (.lit _)
 rw[c4,qcR]at h;try simp only[rnA,Nat.reduceLT]
 replace h:=qae h; subst h;exact zc7.ret rfl (.lit _)
end Go.Dc
