/-
 What r03_Right computes. Conditions: none.
-/
import Derived.Test.YtnfgibomhkbcpaaFpJ4
set_option linter.unusedSimpArgs false
set_option linter.unusedVariables false
set_option maxRecDepth 100000
set_option maxHeartbeats 4000000
namespace Go.Dc
open Go Go.Mx Go.Lx Go.Proofs
def zcm(p0:S_api_Factor):Nat→Int→Option (Out Unit Bool)
 | 0,_=>none
 | n+1,v3=>(
bif (decide (v3<(p0.vars.length:Int)))then(
(((za0 p0.vars v3).bind fun x9=>
bif (decide (x9<0))then(
some true)
else(
bif (decide (63<x9))then(
some true)
else(
bif (decide (0<v3))then(
(za0 p0.vars (w64 (v3 - 1))).bind fun x14=>
some (decide (x9≤x14)))
else(
some false))):Option Bool)).bind fun v65=>
bif v65 then(
some (.ret false))
else(
zcm p0 n (w64 (v3+1))))
else(
some (.go ())))
def zcP(p0:S_api_Factor):Nat→Int→Option (Out Unit Bool)
 | 0,_=>none
 | n+1,v4=>(
bif (decide (v4<(p0.w.length:Int)))then(
(((za0 p0.w v4).bind fun x18=>
bif (decide (x18<0))then(
some true)
else(
some (decide (4611686018427387903<x18))):Option Bool)).bind fun v86=>
bif v86 then(
some (.ret false))
else(
zcP p0 n (w64 (v4+1))))
else(
some (.go ())))
def zdg(p0:S_api_Factor):Option Bool:=
(((zcB p0.cards).bind fun r1=>
bif r1 then(
bif ((p0.vars.length:Int)==(p0.cards.length:Int))then(
(zdK p0.cards).bind fun r5=>
some (!((p0.w.length:Int)== r5)))
else(
some true))
else(
some true):Option Bool)).bind fun v26=>
bif v26 then(
some false)
else(
((zcm p0 ((p0.vars.length:Int) - 0+2:Int).toNat 0:Option (Out Unit Bool))).bind fun o=>match o with
| .go _=>(
((zcP p0 ((p0.w.length:Int) - 0+2:Int).toNat 0:Option (Out Unit Bool))).bind fun o=>match o with
| .go _=>(
some true)
| .ret r=>some r)
| .ret r=>some r)
def zhB:C:=
 .seq (rg [oW 1 0,
 oJ 2 false])
 (.seq (.seq (.scope (.reg true true [oF 5 1 1,
 oL 6 5,
 oU 7 88 6,
 ⟨some 8,.un .not (.s 7),none⟩,
 oM 9 8,
 oFg 10 0 1 9 false,
 oLg 11 10 9 false,
 ⟨some 12,.len (.s 11),some (9,false)⟩,
 oFg 13 1 1 9 false,
 oLg 14 13 9 false,
 ⟨some 15,.len (.s 14),some (9,false)⟩,
 ⟨some 16,.bin .neq (.s 12) (.s 15),some (9,false)⟩,
 oP 17 9 16,
 oM 18 17,
 oFg 19 2 1 18 false,
 oLg 20 19 18 false,
 ⟨some 21,.len (.s 20),some (18,false)⟩,
 oFg 22 1 1 18 false,
 oLg 23 22 18 false,
 ⟨some 24,.call 82 [(.s 23)],some (18,false)⟩,
 ⟨some 25,.bin .neq (.s 21) (.s 24),some (18,false)⟩,
 oP 26 18 25]))
 (.cond (.s 26) (.seq (rg [oJ 2 false])
 (.ret))
 (.skip)))
 (.seq (.seq (rg [oK 3 0])
 (.scope (.block 0 (.loop (.seq (.seq (rg [oM 27 3,
 oF 28 0 1,
 oL 29 28,
 oE 30 29,
 oB 31 .lss 27 30])
 (.cond (.s 31) (.skip)
 (.exit 0)))
 (.seq (.block 1 (.seq (.scope (.reg true false [oF 34 0 1,
 oL 35 34,
 oM 36 3,
 oI 37 1 35 36,
 oL 38 37,
 oD 39 .lss 38 0,
 oM 40 39,
 oFg 41 0 1 40 false,
 oLg 42 41 40 false,
 oMg 43 3 40 false,
 ⟨some 44,.idxS 1 (.s 42) (.s 43),some (40,false)⟩,
 oLg 45 44 40 false,
 oDg 46 .gtr 45 63 40 false,
 oP 47 40 46,
 oM 48 47,
 oMg 49 3 48 false,
 oDg 50 .gtr 49 0 48 false,
 oMg 51 50 48 false,
 oFg 52 0 1 51 true,
 oLg 53 52 51 true,
 oMg 54 3 51 true,
 ⟨some 55,.idxS 1 (.s 53) (.s 54),some (51,true)⟩,
 oLg 56 55 51 true,
 oFg 57 0 1 51 true,
 oLg 58 57 51 true,
 oMg 59 3 51 true,
 oDg 60 .sub 59 1 51 true,
 ⟨some 61,.idxS 1 (.s 58) (.s 60),some (51,true)⟩,
 oLg 62 61 51 true,
 ⟨some 63,.bin .leq (.s 56) (.s 62),some (51,true)⟩,
 ⟨some 64,.pick (.s 51) (.s 63) (.c (.bool false)),some (48,false)⟩,
 oP 65 48 64]))
 (.cond (.s 65) (.seq (rg [oJ 2 false])
 (.ret))
 (.skip))))
 (rg [oM 32 3,
 oD 33 .add 32 1,
 oM 3 33])))))))
 (.seq (.seq (rg [oK 4 0])
 (.scope (.block 2 (.loop (.seq (.seq (rg [oM 66 4,
 oF 67 2 1,
 oL 68 67,
 oE 69 68,
 oB 70 .lss 66 69])
 (.cond (.s 70) (.skip)
 (.exit 2)))
 (.seq (.block 3 (.seq (.scope (rg [oF 73 2 1,
 oL 74 73,
 oM 75 4,
 oI 76 1 74 75,
 oL 77 76,
 oD 78 .lss 77 0,
 oM 79 78,
 oFg 80 2 1 79 false,
 oLg 81 80 79 false,
 oMg 82 4 79 false,
 ⟨some 83,.idxS 1 (.s 81) (.s 82),some (79,false)⟩,
 oLg 84 83 79 false,
 oDg 85 .gtr 84 4611686018427387903 79 false,
 oP 86 79 85]))
 (.cond (.s 86) (.seq (rg [oJ 2 false])
 (.ret))
 (.skip))))
 (rg [oM 71 4,
 oD 72 .add 71 1,
 oM 4 72])))))))
 (.seq (rg [oJ 2 true])
 (.ret)))))
theorem zkj:zgn mC 23=some (87,zhB,[.tmp 2],false):=zaP (by kernel_rfl)
theorem zg1{p0:S_api_Factor}{r:Bool}(h:zdg p0=some r):Lx.Fn mC 23 [(.agg [(fzE false (eI .i64) p0.vars),(fzE false (eI .i64) p0.cards),(fzE false (eI .i64) p0.w)])] (dB r):=by
 refine Fn.of zkj (zaJ rfl) (qad rfl) ?_;unfold zdg at h;simp only[zhB,zir];refine zab ?_;try simp only[rnA,Nat.reduceLT]
 obtain⟨o1,j1,h⟩:=bind_some h;obtain⟨T1,hT1⟩:=mkT fun a:Bool=>⟨87,[(1,(.ptr 0 0)),(26,(dB a))],[.cells [(fzE false (eI .i64) p0.vars),(fzE false (eI .i64) p0.cards),(fzE false (eI .i64) p0.w)]]⟩
 refine EvL.jn T1 (fun a=>a=o1) ?_ ?_
 ·refine zab ?_;obtain⟨r1,g2,j1⟩:=bind_some j1;try simp only[rnA,Nat.reduceEqDiff,Nat.reduceLT,reduceCtorEq]
  refine EvL.fn (zg3 g2) rfl rfl (.cons (zaa _ _ (fun h=>nomatch h)) .nil) ?_;try simp only[rnA,Nat.reduceEqDiff,Nat.reduceLT,reduceCtorEq]
  cases c3:r1
  ·rw[c3,cond_false]at j1;try simp only[rnA,Nat.reduceEqDiff,Nat.reduceLT,reduceCtorEq]
   refine EvL.skip rfl ?_;try simp only[rnA,Nat.reduceEqDiff,Nat.reduceLT,reduceCtorEq]
   replace j1:=qab j1; subst j1;exact lfj hT1 rfl (wm0 [.k] ⟨MB.cs ⟨qcj,qcj,qcj,qcj⟩,qcj⟩)
  rw[c3,cond_true]at j1;try simp only[rnA,Nat.reduceEqDiff,Nat.reduceLT,reduceCtorEq,zaw]
  cases c4:((p0.vars.length:Int)==(p0.cards.length:Int))
  ·rw[c4,cond_false]at j1;try simp only[rnA,Nat.reduceEqDiff,Nat.reduceLT,reduceCtorEq]
   refine EvL.skip rfl ?_;try simp only[rnA,Nat.reduceEqDiff,Nat.reduceLT,reduceCtorEq]
   replace j1:=qab j1; subst j1;exact lfj hT1 rfl (wm0 [.k] ⟨MB.cs ⟨qcj,qcj,qcj,qcj⟩,qcj⟩)
  rw[c4,cond_true]at j1;obtain⟨r5,g6,j1⟩:=bind_some j1;try simp only[rnA,Nat.reduceEqDiff,Nat.reduceLT,reduceCtorEq,zaw]
  refine EvL.fn (zhF g6) rfl rfl (.cons (zaa _ _ (fun h=>nomatch h)) .nil) ?_;try simp only[rnA,Nat.reduceEqDiff,Nat.reduceLT,reduceCtorEq]
  replace j1:=qab j1; subst j1;exact lfj hT1 rfl (wm0 [.k] ⟨MB.cs ⟨qcj,qcj,qcj,qcj⟩,qcj⟩)
 rintro v26 rfl;rw[congrFun hT1 v26];refine zab ?_;try simp only[rnA,Nat.reduceEqDiff]
 cases c7:v26
 ·rw[c7,cond_false]at h;try simp only[rnA,Nat.reduceLT]
  obtain⟨o5,j5,h⟩:=bind_some h;obtain⟨T5,hT5⟩:=mkT fun a:Unit=>⟨87,[(1,(.ptr 0 0))],[.cells [(fzE false (eI .i64) p0.vars),(fzE false (eI .i64) p0.cards),(fzE false (eI .i64) p0.w)]]⟩
  refine EvL.jn T5 (fun a=>o5=.go a) ?_ ?_
  ·refine zab ?_;simp only[rnA];obtain⟨T8,hT8⟩:=mkT fun a:Int=>⟨87,[(1,(.ptr 0 0)),(3,(dI a))],[.cells [(fzE false (eI .i64) p0.vars),(fzE false (eI .i64) p0.cards),(fzE false (eI .i64) p0.w)]]⟩
   refine EvL.rounds (α:=Int) T8 (fun n a=>zcm p0 n a=some o5) ((p0.vars.length:Int) - 0+2:Int).toNat 0 (by rw[hT8]; exact wm0 [.k] ⟨MB.cs ⟨qcj,qcj,qcj,qcj⟩,qcj⟩) j5 (fun _ h=>nomatch (show(none:Option (Out Unit Bool))=some o5 from h)) ?_;rintro n v3 j5;simp only[zcm]at j5;rw[congrFun hT8 v3];refine zab ?_;try simp only[rnA,Nat.reduceEqDiff,Nat.reduceLT,zaw]
   cases c8:(decide (v3<(p0.vars.length:Int)))
   ·rw[c8,cond_false]at j5;try simp only[rnA]
    replace j5:=qab j5; subst j5;exact lfj hT5 rfl (wm0 [.k] ⟨MB.cs ⟨qcj,qcj,qcj,qcj⟩,qcj⟩)
   rw[c8,cond_true]at j5;try simp only[rnA]
   obtain⟨o9,j9,j5⟩:=bind_some j5;obtain⟨T9,hT9⟩:=mkT fun a:Bool=>⟨87,[(1,(.ptr 0 0)),(3,(dI v3)),(65,(dB a))],[.cells [(fzE false (eI .i64) p0.vars),(fzE false (eI .i64) p0.cards),(fzE false (eI .i64) p0.w)]]⟩
   refine EvL.jn T9 (fun a=>a=o9) ?_ ?_
   ·refine zab ?_;obtain⟨x9,g10,j9⟩:=bind_some j9;try simp only[rnA,Nat.reduceEqDiff,Nat.reduceLT,zak (n:=1) (e:=(eI .i64)) rfl g10]
    cases c11:(decide (x9<0))
    ·rw[c11,cond_false]at j9;try simp only[rnA,Nat.reduceEqDiff,Nat.reduceLT,zak (n:=1) (e:=(eI .i64)) rfl g10]
     cases c12:(decide (63<x9))
     ·rw[c12,cond_false]at j9;try simp only[rnA,Nat.reduceEqDiff,Nat.reduceLT]
      cases c13:(decide (0<v3))
      ·rw[c13,cond_false]at j9;try simp only[rnA,Nat.reduceEqDiff,Nat.reduceLT]
       replace j9:=qab j9; subst j9;exact lfj hT9 rfl (wm0 [.k] ⟨MB.cs ⟨qcj,qcj,qcj,qcj⟩,qcj⟩)
      rw[c13,cond_true]at j9;obtain⟨x14,g15,j9⟩:=bind_some j9;try simp only[rnA,Nat.reduceEqDiff,Nat.reduceLT,zak (n:=1) (e:=(eI .i64)) rfl g10,zak (n:=1) (e:=(eI .i64)) rfl g15]
      replace j9:=qab j9; subst j9;exact lfj hT9 rfl (wm0 [.k] ⟨MB.cs ⟨qcj,qcj,qcj,qcj⟩,qcj⟩)
     rw[c12,cond_true]at j9;try simp only[rnA,Nat.reduceEqDiff,Nat.reduceLT]
     replace j9:=qab j9; subst j9;exact lfj hT9 rfl (wm0 [.k] ⟨MB.cs ⟨qcj,qcj,qcj,qcj⟩,qcj⟩)
    rw[c11,cond_true]at j9;try simp only[rnA,Nat.reduceEqDiff,Nat.reduceLT]
    replace j9:=qab j9; subst j9;exact lfj hT9 rfl (wm0 [.k] ⟨MB.cs ⟨qcj,qcj,qcj,qcj⟩,qcj⟩)
   rintro v65 rfl;rw[congrFun hT9 v65];refine zab ?_;try simp only[rnA,Nat.reduceEqDiff]
   cases c16:v65
   ·rw[c16,cond_false]at j5;try simp only[rnA,Nat.reduceEqDiff,Nat.reduceLT]
    exact⟨(w64 (v3+1)),j5,by rw[hT8]; exact wm0 [.k] ⟨MB.cs ⟨qcj,qcj,qcj,qcj⟩,qcj⟩⟩
   rw[c16,cond_true]at j5;try simp only[rnA,Nat.reduceLT]
   replace j5:=qab j5; subst j5;dsimp only at h;replace h:=qab h; subst h;exact zbB.ret rfl (.lit _)
  rintro⟨⟩ rfl;dsimp only at h;rw[congrFun hT5 ()];refine zab ?_;try simp only[rnA,Nat.reduceLT]
  obtain⟨o13,j13,h⟩:=bind_some h;obtain⟨T13,hT13⟩:=mkT fun a:Unit=>⟨87,[],[]⟩
  refine EvL.jn T13 (fun a=>o13=.go a) ?_ ?_
  ·refine zab ?_;simp only[rnA];obtain⟨T16,hT16⟩:=mkT fun a:Int=>⟨87,[(1,(.ptr 0 0)),(4,(dI a))],[.cells [(fzE false (eI .i64) p0.vars),(fzE false (eI .i64) p0.cards),(fzE false (eI .i64) p0.w)]]⟩
   refine EvL.rounds (α:=Int) T16 (fun n a=>zcP p0 n a=some o13) ((p0.w.length:Int) - 0+2:Int).toNat 0 (by rw[hT16]; exact wm0 [.k] ⟨MB.cs ⟨qcj,qcj,qcj,qcj⟩,qcj⟩) j13 (fun _ h=>nomatch (show(none:Option (Out Unit Bool))=some o13 from h)) ?_;rintro n v4 j13;simp only[zcP]at j13;rw[congrFun hT16 v4];refine zab ?_;try simp only[rnA,Nat.reduceEqDiff,Nat.reduceLT,zaw]
   cases c17:(decide (v4<(p0.w.length:Int)))
   ·rw[c17,cond_false]at j13;try simp only[rnA]
    replace j13:=qab j13; subst j13;exact lfj hT13 rfl (wm0 [] (by exact trivial))
   rw[c17,cond_true]at j13;try simp only[rnA]
   obtain⟨o17,j17,j13⟩:=bind_some j13;obtain⟨T17,hT17⟩:=mkT fun a:Bool=>⟨87,[(1,(.ptr 0 0)),(4,(dI v4)),(86,(dB a))],[.cells [(fzE false (eI .i64) p0.vars),(fzE false (eI .i64) p0.cards),(fzE false (eI .i64) p0.w)]]⟩
   refine EvL.jn T17 (fun a=>a=o17) ?_ ?_
   ·refine zab ?_;obtain⟨x18,g19,j17⟩:=bind_some j17;try simp only[rnA,Nat.reduceEqDiff,Nat.reduceLT,zak (n:=1) (e:=(eI .i64)) rfl g19]
    cases c20:(decide (x18<0))
    ·rw[c20,cond_false]at j17;try simp only[rnA,Nat.reduceEqDiff,Nat.reduceLT,zak (n:=1) (e:=(eI .i64)) rfl g19]
     replace j17:=qab j17; subst j17;exact lfj hT17 rfl (wm0 [.k] ⟨MB.cs ⟨qcj,qcj,qcj,qcj⟩,qcj⟩)
    rw[c20,cond_true]at j17;try simp only[rnA,Nat.reduceEqDiff,Nat.reduceLT]
    replace j17:=qab j17; subst j17;exact lfj hT17 rfl (wm0 [.k] ⟨MB.cs ⟨qcj,qcj,qcj,qcj⟩,qcj⟩)
   rintro v86 rfl;rw[congrFun hT17 v86];refine zab ?_;try simp only[rnA,Nat.reduceEqDiff]
   cases c21:v86
   ·rw[c21,cond_false]at j13;try simp only[rnA,Nat.reduceEqDiff,Nat.reduceLT]
    exact⟨(w64 (v4+1)),j13,by rw[hT16]; exact wm0 [.k] ⟨MB.cs ⟨qcj,qcj,qcj,qcj⟩,qcj⟩⟩
   rw[c21,cond_true]at j13;try simp only[rnA,Nat.reduceLT]
   replace j13:=qab j13; subst j13;dsimp only at h;replace h:=qab h; subst h;exact zbB.ret rfl (.lit _)
  rintro⟨⟩ rfl;dsimp only at h;rw[congrFun hT13 ()];refine zab ?_;try simp only[rnA,Nat.reduceLT]
  replace h:=qab h; subst h;exact zbB.ret rfl (.lit _)
 rw[c7,cond_true]at h;try simp only[rnA,Nat.reduceLT]
 replace h:=qab h; subst h;exact zbB.ret rfl (.lit _)
def zcL(p0:S_api_Factor)(p1:Int):Nat→Int→Option (Out Unit Int)
 | 0,_=>none
 | n+1,v5=>(
bif (decide (v5<(p0.vars.length:Int)))then(
(za0 p0.vars v5).bind fun x2=>
bif (x2 == p1)then(
some (.ret v5))
else(
zcL p0 p1 n (w64 (v5+1))))
else(
some (.go ())))
def zbS(p0:S_api_Factor)(p1:Int):Option Int:=
((zcL p0 p1 ((p0.vars.length:Int) - 0+2:Int).toNat 0:Option (Out Unit Int))).bind fun o=>match o with
| .go _=>(
some (-1))
| .ret r=>some r
theorem zec{p0:S_api_Factor}{p1:Int}{r:Int}(h:zbS p0 p1=some r):Lx.Fn mC 35 [(.agg [(fzE false (eI .i64) p0.vars),(fzE false (eI .i64) p0.cards),(fzE false (eI .i64) p0.w)]),(dI p1)] (dI r):=by
 refine fnO (by conv=>lhs; cbv) ?_;unfold zbS at h;refine zab ?_;try simp only[rnA,Nat.reduceLT,Nat.reduceAdd,reduceCtorEq]
 obtain⟨o1,j1,h⟩:=bind_some h;obtain⟨T1,hT1⟩:=mkT fun a:Unit=>⟨21,[],[]⟩
 refine EvL.jn T1 (fun a=>o1=.go a) ?_ ?_
 ·refine zab ?_;simp only[rnA];obtain⟨T2,hT2⟩:=mkT fun a:Int=>⟨21,[(1,(dI p1)),(2,(.ptr 0 0)),(5,(dI a))],[.cells [(fzE false (eI .i64) p0.vars),(fzE false (eI .i64) p0.cards),(fzE false (eI .i64) p0.w)]]⟩
  refine EvL.rounds (α:=Int) T2 (fun n a=>zcL p0 p1 n a=some o1) ((p0.vars.length:Int) - 0+2:Int).toNat 0 (by rw[hT2]; exact wm0 [.k] ⟨MB.cs ⟨qcj,qcj,qcj,qcj⟩,qcj⟩) j1 (fun _ h=>nomatch (show(none:Option (Out Unit Int))=some o1 from h)) ?_;rintro n v5 j1;simp only[zcL]at j1;rw[congrFun hT2 v5];refine zab ?_;try simp only[rnA,Nat.reduceEqDiff,Nat.reduceLT,zaw]
  cases c1:(decide (v5<(p0.vars.length:Int)))
  ·rw[c1,cond_false]at j1;try simp only[rnA]
   replace j1:=qab j1; subst j1;exact lfj hT1 rfl (wm0 [] (by exact trivial))
  rw[c1,cond_true]at j1;obtain⟨x2,g3,j1⟩:=bind_some j1;try simp only[rnA,Nat.reduceEqDiff,Nat.reduceLT,zak (n:=1) (e:=(eI .i64)) rfl g3]
  cases c4:(x2 == p1)
  ·rw[c4,cond_false]at j1;try simp only[rnA,Nat.reduceEqDiff,Nat.reduceLT]
   exact⟨(w64 (v5+1)),j1,by rw[hT2]; exact wm0 [.k] ⟨MB.cs ⟨qcj,qcj,qcj,qcj⟩,qcj⟩⟩
  rw[c4,cond_true]at j1;try simp only[rnA,Nat.reduceEqDiff,Nat.reduceLT]
  replace j1:=qab j1; subst j1;dsimp only at h;replace h:=qab h; subst h;exact zbB.ret rfl (.lit _)
 rintro⟨⟩ rfl;dsimp only at h;rw[congrFun hT1 ()];refine zab ?_;try simp only[rnA,Nat.reduceLT]
 replace h:=qab h; subst h;exact zbB.ret rfl (.lit _)
def zcQ(p0:S_api_Factor)(p1:S_api_Factor):Nat→Int→Option (Out Unit Bool)
 | 0,_=>none
 | n+1,v5=>(
bif (decide (v5<(p0.vars.length:Int)))then(
(za0 p0.vars v5).bind fun x2=>
(zbS p1 x2).bind fun r4=>
((bif (decide (0≤r4))then(
(za0 p1.cards r4).bind fun x7=>
(za0 p0.cards v5).bind fun x9=>
some (!(x7 == x9)))
else(
some false):Option Bool)).bind fun v35=>
bif v35 then(
some (.ret false))
else(
zcQ p0 p1 n (w64 (v5+1))))
else(
some (.go ())))
def zdW(p0:S_api_Factor)(p1:S_api_Factor):Option Bool:=
((zcQ p0 p1 ((p0.vars.length:Int) - 0+2:Int).toNat 0:Option (Out Unit Bool))).bind fun o=>match o with
| .go _=>(
some true)
| .ret r=>some r
def zh8:C:=
 .seq (rg [oW 2 0,
 oW 3 1,
 oJ 4 false])
 (.seq (.seq (rg [oK 5 0])
 (.scope (.block 0 (.loop (.seq (.seq (rg [oM 7 5,
 oF 8 0 2,
 oL 9 8,
 oE 10 9,
 oB 11 .lss 7 10])
 (.cond (.s 11) (.skip)
 (.exit 0)))
 (.seq (.block 1 (.seq (.reg true false [oN 14 3 3,
 oF 15 0 2,
 oL 16 15,
 oM 17 5,
 oI 18 1 16 17,
 oL 19 18,
 oV 20 35 14 19,
 oM 6 20])
 (.seq (.scope (.reg true false [oM 21 6,
 oD 22 .geq 21 0,
 oM 23 22,
 oFg 24 1 3 23 true,
 oLg 25 24 23 true,
 oMg 26 6 23 true,
 ⟨some 27,.idxS 1 (.s 25) (.s 26),some (23,true)⟩,
 oLg 28 27 23 true,
 oFg 29 1 2 23 true,
 oLg 30 29 23 true,
 oMg 31 5 23 true,
 ⟨some 32,.idxS 1 (.s 30) (.s 31),some (23,true)⟩,
 oLg 33 32 23 true,
 ⟨some 34,.bin .neq (.s 28) (.s 33),some (23,true)⟩,
 ⟨some 35,.pick (.s 23) (.s 34) (.c (.bool false)),none⟩]))
 (.cond (.s 35) (.seq (rg [oJ 4 false])
 (.ret))
 (.skip)))))
 (rg [oM 12 5,
 oD 13 .add 12 1,
 oM 5 13])))))))
 (.seq (rg [oJ 4 true])
 (.ret)))
theorem zj5:zgn mC 28=some (36,zh8,[.tmp 4],false):=zaP (by kernel_rfl)
theorem zlc{p0:S_api_Factor}{p1:S_api_Factor}{r:Bool}(h:zdW p0 p1=some r):Lx.Fn mC 28 [(.agg [(fzE false (eI .i64) p0.vars),(fzE false (eI .i64) p0.cards),(fzE false (eI .i64) p0.w)]),(.agg [(fzE false (eI .i64) p1.vars),(fzE false (eI .i64) p1.cards),(fzE false (eI .i64) p1.w)])] (dB r):=by
 refine Fn.of zj5 (zaJ rfl) (qad rfl) ?_;unfold zdW at h;simp only[zh8,zir];refine zab ?_;try simp only[rnA,Nat.reduceEqDiff,Nat.reduceLT,Nat.reduceAdd,reduceCtorEq]
 obtain⟨o4,j4,h⟩:=bind_some h;obtain⟨T4,hT4⟩:=mkT fun a:Unit=>⟨36,[],[]⟩
 refine EvL.jn T4 (fun a=>o4=.go a) ?_ ?_
 ·refine zab ?_;simp only[rnA];obtain⟨T7,hT7⟩:=mkT fun a:Int=>⟨36,[(2,(.ptr 0 0)),(3,(.ptr 1 0)),(5,(dI a))],[.cells [(fzE false (eI .i64) p0.vars),(fzE false (eI .i64) p0.cards),(fzE false (eI .i64) p0.w)],.cells [(fzE false (eI .i64) p1.vars),(fzE false (eI .i64) p1.cards),(fzE false (eI .i64) p1.w)]]⟩
  refine EvL.rounds (α:=Int) T7 (fun n a=>zcQ p0 p1 n a=some o4) ((p0.vars.length:Int) - 0+2:Int).toNat 0 (by rw[hT7]; exact wm0 [.k,.k] ⟨MB.cs ⟨qcj,qcj,qcj,qcj⟩,⟨MB.cs ⟨qcj,qcj,qcj,qcj⟩,qcj⟩⟩) j4 (fun _ h=>nomatch (show(none:Option (Out Unit Bool))=some o4 from h)) ?_;rintro n v5 j4;simp only[zcQ]at j4;rw[congrFun hT7 v5];refine zab ?_;try simp only[rnA,Nat.reduceEqDiff,Nat.reduceLT,zaw]
  cases c1:(decide (v5<(p0.vars.length:Int)))
  ·rw[c1,cond_false]at j4;try simp only[rnA]
   replace j4:=qab j4; subst j4;exact lfj hT4 rfl (wm0 [] (by exact trivial))
  rw[c1,cond_true]at j4;obtain⟨x2,g3,j4⟩:=bind_some j4;obtain⟨r4,g5,j4⟩:=bind_some j4;try simp only[rnA,Nat.reduceEqDiff,Nat.reduceLT,Nat.reduceAdd,Nat.reduceLeDiff,zak (n:=1) (e:=(eI .i64)) rfl g3]
  refine EvL.fn (zec g5) rfl rfl (.cons (.zaF (.cons (zaa _ _ (fun h=>nomatch h)) (.cons (zaa _ _ (fun h=>nomatch h)) (.cons (zaa _ _ (fun h=>nomatch h)) .nil)))) (.cons (.lit _) .nil)) ?_;try simp only[rnA,Nat.reduceEqDiff,Nat.reduceLT]
  obtain⟨o8,j8,j4⟩:=bind_some j4;obtain⟨T8,hT8⟩:=mkT fun a:Bool=>⟨36,[(2,(.ptr 0 0)),(3,(.ptr 1 0)),(5,(dI v5)),(35,(dB a))],[.cells [(fzE false (eI .i64) p0.vars),(fzE false (eI .i64) p0.cards),(fzE false (eI .i64) p0.w)],.cells [(fzE false (eI .i64) p1.vars),(fzE false (eI .i64) p1.cards),(fzE false (eI .i64) p1.w)]]⟩
  refine EvL.jn T8 (fun a=>a=o8) ?_ ?_
  ·refine zab ?_;try simp only[rnA,Nat.reduceEqDiff,Nat.reduceLT]
   cases c6:(decide (0≤r4))
   ·rw[c6,cond_false]at j8;try simp only[rnA,Nat.reduceEqDiff,Nat.reduceLT]
    replace j8:=qab j8; subst j8;exact lfj hT8 rfl (wm0 [.k,.k] ⟨MB.cs ⟨qcj,qcj,qcj,qcj⟩,⟨MB.cs ⟨qcj,qcj,qcj,qcj⟩,qcj⟩⟩)
   rw[c6,cond_true]at j8;obtain⟨x7,g8,j8⟩:=bind_some j8;obtain⟨x9,g10,j8⟩:=bind_some j8;try simp only[rnA,Nat.reduceEqDiff,Nat.reduceLT,zak (n:=1) (e:=(eI .i64)) rfl g8,zak (n:=1) (e:=(eI .i64)) rfl g10]
   replace j8:=qab j8; subst j8;exact lfj hT8 rfl (wm0 [.k,.k] ⟨MB.cs ⟨qcj,qcj,qcj,qcj⟩,⟨MB.cs ⟨qcj,qcj,qcj,qcj⟩,qcj⟩⟩)
  rintro v35 rfl;rw[congrFun hT8 v35];refine zab ?_;try simp only[rnA,Nat.reduceEqDiff]
  cases c11:v35
  ·rw[c11,cond_false]at j4;try simp only[rnA,Nat.reduceEqDiff,Nat.reduceLT]
   exact⟨(w64 (v5+1)),j4,by rw[hT7]; exact wm0 [.k,.k] ⟨MB.cs ⟨qcj,qcj,qcj,qcj⟩,⟨MB.cs ⟨qcj,qcj,qcj,qcj⟩,qcj⟩⟩⟩
  rw[c11,cond_true]at j4;try simp only[rnA,Nat.reduceLT]
  replace j4:=qab j4; subst j4;dsimp only at h;replace h:=qab h; subst h;exact zbB.ret rfl (.lit _)
 rintro⟨⟩ rfl;dsimp only at h;rw[congrFun hT4 ()];refine zab ?_;try simp only[rnA,Nat.reduceLT]
 replace h:=qab h; subst h;exact zbB.ret rfl (.lit _)
def zdJ(p1:S_api_Factor)(p0:S_api_Factor):Nat→Int→Option (Out Unit Bool)
 | 0,_=>none
 | n+1,v5=>(
bif (decide (v5<(p1.vars.length:Int)))then(
(za0 p1.vars v5).bind fun x2=>
(zbS p0 x2).bind fun r4=>
bif (decide (r4<0))then(
some (.ret false))
else(
zdJ p1 p0 n (w64 (v5+1))))
else(
some (.go ())))
def ze0(p0:S_api_Factor)(p1:S_api_Factor):Option Bool:=
((zdJ p1 p0 ((p1.vars.length:Int) - 0+2:Int).toNat 0:Option (Out Unit Bool))).bind fun o=>match o with
| .go _=>(
some true)
| .ret r=>some r
theorem znA{p0:S_api_Factor}{p1:S_api_Factor}{r:Bool}(h:ze0 p0 p1=some r):Lx.Fn mC 30 [(.agg [(fzE false (eI .i64) p0.vars),(fzE false (eI .i64) p0.cards),(fzE false (eI .i64) p0.w)]),(.agg [(fzE false (eI .i64) p1.vars),(fzE false (eI .i64) p1.cards),(fzE false (eI .i64) p1.w)])] (dB r):=by
 refine fnO (by conv=>lhs; cbv) ?_;unfold ze0 at h;refine zab ?_;try simp only[rnA,Nat.reduceEqDiff,Nat.reduceLT,Nat.reduceAdd,reduceCtorEq]
 obtain⟨o1,j1,h⟩:=bind_some h;obtain⟨T1,hT1⟩:=mkT fun a:Unit=>⟨21,[],[]⟩
 refine EvL.jn T1 (fun a=>o1=.go a) ?_ ?_
 ·refine zab ?_;simp only[rnA];obtain⟨T2,hT2⟩:=mkT fun a:Int=>⟨21,[(2,(.ptr 0 0)),(3,(.ptr 1 0)),(5,(dI a))],[.cells [(fzE false (eI .i64) p0.vars),(fzE false (eI .i64) p0.cards),(fzE false (eI .i64) p0.w)],.cells [(fzE false (eI .i64) p1.vars),(fzE false (eI .i64) p1.cards),(fzE false (eI .i64) p1.w)]]⟩
  refine EvL.rounds (α:=Int) T2 (fun n a=>zdJ p1 p0 n a=some o1) ((p1.vars.length:Int) - 0+2:Int).toNat 0 (by rw[hT2]; exact wm0 [.k,.k] ⟨MB.cs ⟨qcj,qcj,qcj,qcj⟩,⟨MB.cs ⟨qcj,qcj,qcj,qcj⟩,qcj⟩⟩) j1 (fun _ h=>nomatch (show(none:Option (Out Unit Bool))=some o1 from h)) ?_;rintro n v5 j1;simp only[zdJ]at j1;rw[congrFun hT2 v5];refine zab ?_;try simp only[rnA,Nat.reduceEqDiff,Nat.reduceLT,zaw]
  cases c1:(decide (v5<(p1.vars.length:Int)))
  ·rw[c1,cond_false]at j1;try simp only[rnA]
   replace j1:=qab j1; subst j1;exact lfj hT1 rfl (wm0 [] (by exact trivial))
  rw[c1,cond_true]at j1;obtain⟨x2,g3,j1⟩:=bind_some j1;obtain⟨r4,g5,j1⟩:=bind_some j1;try simp only[rnA,Nat.reduceEqDiff,Nat.reduceLT,Nat.reduceAdd,Nat.reduceLeDiff,zak (n:=1) (e:=(eI .i64)) rfl g3]
  refine EvL.fn (zec g5) rfl rfl (.cons (.zaF (.cons (zaa _ _ (fun h=>nomatch h)) (.cons (zaa _ _ (fun h=>nomatch h)) (.cons (zaa _ _ (fun h=>nomatch h)) .nil)))) (.cons (.lit _) .nil)) ?_;try simp only[rnA,Nat.reduceEqDiff,Nat.reduceLT]
  cases c6:(decide (r4<0))
  ·rw[c6,cond_false]at j1;try simp only[rnA,Nat.reduceEqDiff,Nat.reduceLT]
   exact⟨(w64 (v5+1)),j1,by rw[hT2]; exact wm0 [.k,.k] ⟨MB.cs ⟨qcj,qcj,qcj,qcj⟩,⟨MB.cs ⟨qcj,qcj,qcj,qcj⟩,qcj⟩⟩⟩
  rw[c6,cond_true]at j1;try simp only[rnA,Nat.reduceLT]
  replace j1:=qab j1; subst j1;dsimp only at h;replace h:=qab h; subst h;exact zbB.ret rfl (.lit _)
 rintro⟨⟩ rfl;dsimp only at h;rw[congrFun hT1 ()];refine zab ?_;try simp only[rnA,Nat.reduceLT]
 replace h:=qab h; subst h;exact zbB.ret rfl (.lit _)
def zc9(p0:(List Int)):Nat→(List Int)→Bool→(List (List Int))→Option (List (List Int))
 | 0,_,_,_=>none
 | n+1,v4,v5,l1=>(
bif v5 then(
(zd6 24 l1 [v4]).bind fun y4=>
(zet p0 v4).bind fun r6=>
zc9 p0 n r6.1 r6.2 y4)
else(
some l1))
def zd1(N:Nat)(p0:(List Int)):Option (List (List Int)):=
(zeu 8 (p0.length:Int) 0).bind fun y1=>
((zc9 p0 N y1 true []:Option (List (List Int)))).bind fun l1=>
some l1
theorem zi6{N:Nat}{p0:(List Int)}{r:(List (List Int))}(h:zd1 N p0=some r):Lx.Fn mC 85 [(fzE false (eI .i64) p0)] (fzE true (eL (eI .i64)) r):=by
 refine fnO (by conv=>lhs; cbv) ?_;unfold zd1 at h;refine zab ?_;obtain⟨y1,g2,h⟩:=bind_some h;try simp only[rnA,Nat.reduceEqDiff,Nat.reduceLT,reduceCtorEq,zaw,(zas g2).1.1,(zas g2).1.2,qbp,(show List.replicate (Int.toNat (p0.length:Int)) [(dI 0)]=y1.map ((eI .i64).c true)from zbz g2 ((eI .i64).c true))]
 obtain⟨o1,j1,h⟩:=bind_some h;obtain⟨T1,hT1⟩:=mkT fun a:(List (List Int))=>⟨21,[(3,(.sl 1 0 1 a.length none a.length))],[.gone,.grow 1 (a.map ((eL (eI .i64)).c true))]⟩
 refine EvL.jn T1 (fun a=>a=o1) ?_ ?_
 ·refine zab ?_;simp only[rnA];obtain⟨T2,hT2⟩:=mkT fun a:((List Int)×Bool×(List (List Int)))=>⟨21,[(0,(fzE false (eI .i64) p0)),(3,(.sl 1 0 1 a.2.2.length none a.2.2.length)),(4,(fzE true (eI .i64) a.1)),(5,(dB a.2.1))],[.gone,.grow 1 (a.2.2.map ((eL (eI .i64)).c true))]⟩
  refine EvL.zeJ (zbw.ghost (n:=1) (k:=3) (by decide) rfl) ?_;refine EvL.rounds (α:=((List Int)×Bool×(List (List Int)))) T2 (fun n a=>zc9 p0 n a.1 a.2.1 a.2.2=some o1) N (y1,true,[]) (by rw[hT2]; exact zbw.m0 [.f,.k] rfl (msq (msq (mf rfl (zaV (e:=(eI .i64)) (t:=true) rfl rfl (.inl rfl) (zbk g2).symm (zbk g2).symm (fun k h=>by cases h; exact qaj _) (fun h=>by cases h<;>rfl)) (msq trivial)))) ⟨rfl,⟨MB.gs (eL (eI .i64)) true [],qcj⟩⟩) j1 (fun _ h=>nomatch (show(none:Option (List (List Int)))=some o1 from h)) ?_;rintro n ⟨v4,v5,l1⟩ j1;simp only[zc9]at j1;rw[congrFun hT2 (v4,v5,l1)];refine zab ?_;try simp only[rnA,Nat.reduceEqDiff,Nat.reduceLT,reduceCtorEq]
  cases c3:v5
  ·rw[c3,cond_false]at j1;try simp only[rnA]
   replace j1:=qab j1; subst j1;exact lfj hT1 rfl (wm0 [.d,.k] ⟨rfl,⟨MB.gs (eL (eI .i64)) true l1,qcj⟩⟩)
  rw[c3,cond_true]at j1;obtain⟨y4,g5,j1⟩:=bind_some j1;obtain⟨r6,g7,j1⟩:=bind_some j1;try simp only[rnA,Nat.reduceEqDiff,Nat.reduceLT,Nat.reduceAdd,Nat.reduceLeDiff,reduceCtorEq,zcn g5,(show l1.length+1=y4.length from zbx g5),(show l1.map ((eL (eI .i64)).c true)++ [[(fzE true (eI .i64) v4)]]=y4.map ((eL (eI .i64)).c true)from zbJ g5 ((eL (eI .i64)).c true))]
  refine EvL.fn (zlN g7) rfl rfl (.cons (zaa _ _ (fun h=>nomatch h)) (.cons (zaa _ _ (fun h=>nomatch h)) .nil)) ?_;try simp only[rnA,Nat.reduceEqDiff,Nat.reduceLT,reduceCtorEq]
  exact⟨(r6.1,r6.2,y4),j1,by rw[hT2]; exact wm0 [.d,.k] ⟨rfl,⟨MB.gs (eL (eI .i64)) true y4,qcj⟩⟩⟩
 rintro l1 rfl;rw[congrFun hT1 l1];refine zab ?_;try simp only[rnA,Nat.reduceEqDiff,Nat.reduceLT]
 replace h:=qab h; subst h;exact zbB.ret rfl (zbi (e:=(eL (eI .i64))) (t:=true) rfl (.inr rfl) rfl rfl (fun k h=>nomatch h) (fun _=>rfl))
def zdo(p1:(List Int))(p0:S_api_Factor)(v8:Int)(p2:(List Int)):Nat→Int→(List Int)→Option (List Int)
 | 0,_,_=>none
 | n+1,v9,l1'=>(
bif (decide (v9<(p1.length:Int)))then(
(za0 p1 v9).bind fun x3=>
(za0 p0.vars v8).bind fun x5=>
((bif (x3 == x5)then(
(za0 p2 v9).bind fun x8=>
(zd6 8 l1' [x8]).bind fun y10=>
some y10)
else(
some l1'):Option (List Int))).bind fun l1''=>
zdo p1 p0 v8 p2 n (w64 (v9+1)) l1'')
else(
some l1'))
def zc8(p0:S_api_Factor)(p1:(List Int))(p2:(List Int)):Nat→Int→(List Int)→Option (List Int)
 | 0,_,_=>none
 | n+1,v8,l1=>(
bif (decide (v8<(p0.vars.length:Int)))then(
((zdo p1 p0 v8 p2 ((p1.length:Int) - 0+2:Int).toNat 0 l1:Option (List Int))).bind fun l1'=>
zc8 p0 p1 p2 n (w64 (v8+1)) l1')
else(
some l1))
def zdd(p0:S_api_Factor)(p1:(List Int))(p2:(List Int)):Option Int:=
((zc8 p0 p1 p2 ((p0.vars.length:Int) - 0+2:Int).toNat 0 []:Option (List Int))).bind fun l1=>
(zdQ p0.cards l1).bind fun r12=>
(za0 p0.w r12).bind fun x14=>
some x14
theorem zfM{p0:S_api_Factor}{p1:(List Int)}{p2:(List Int)}{r:Int}(h:zdd p0 p1 p2=some r):Lx.Fn mC 99 [(.agg [(fzE false (eI .i64) p0.vars),(fzE false (eI .i64) p0.cards),(fzE false (eI .i64) p0.w)]),(fzE false (eI .i64) p1),(fzE false (eI .i64) p2)] (dI r):=by
 refine fnO (by conv=>lhs; cbv) ?_;unfold zdd at h;refine zab ?_;try simp only[rnA,Nat.reduceLT,Nat.reduceAdd,reduceCtorEq]
 obtain⟨o35,j35,h⟩:=bind_some h;obtain⟨T35,hT35⟩:=mkT fun a:(List Int)=>⟨48,[(3,(.ptr 0 0)),(7,(.sl 1 0 1 a.length none a.length))],[.cells [(fzE false (eI .i64) p0.vars),(fzE false (eI .i64) p0.cards),(fzE false (eI .i64) p0.w)],.grow 1 (a.map ((eI .i64).c true))]⟩
 refine EvL.jn T35 (fun a=>a=o35) ?_ ?_
 ·refine zab ?_;simp only[rnA];obtain⟨T62,hT62⟩:=mkT fun a:(Int×(List Int))=>⟨48,[(1,(fzE false (eI .i64) p1)),(2,(fzE false (eI .i64) p2)),(3,(.ptr 0 0)),(7,(.sl 1 0 1 a.2.length none a.2.length)),(8,(dI a.1))],[.cells [(fzE false (eI .i64) p0.vars),(fzE false (eI .i64) p0.cards),(fzE false (eI .i64) p0.w)],.grow 1 (a.2.map ((eI .i64).c true))]⟩
  refine EvL.zeJ (zbw.ghost (n:=1) (k:=7) (by decide) rfl) ?_;refine EvL.rounds (α:=(Int×(List Int))) T62 (fun n a=>zc8 p0 p1 p2 n a.1 a.2=some o35) ((p0.vars.length:Int) - 0+2:Int).toNat (0,[]) (by rw[hT62]; exact wm0 [.k,.k] ⟨MB.cs ⟨qcj,qcj,qcj,qcj⟩,⟨MB.gs (eI .i64) true [],qcj⟩⟩) j35 (fun _ h=>nomatch (show(none:Option (List Int))=some o35 from h)) ?_;rintro n ⟨v8,l1⟩ j35;simp only[zc8]at j35;rw[congrFun hT62 (v8,l1)];refine zab ?_;try simp only[rnA,Nat.reduceEqDiff,Nat.reduceLT,zaw]
  cases c1:(decide (v8<(p0.vars.length:Int)))
  ·rw[c1,cond_false]at j35;try simp only[rnA]
   replace j35:=qab j35; subst j35;exact lfj hT35 rfl (wm0 [.k,.k] ⟨MB.cs ⟨qcj,qcj,qcj,qcj⟩,⟨MB.gs (eI .i64) true l1,qcj⟩⟩)
  rw[c1,cond_true]at j35;try simp only[rnA,Nat.reduceLT]
  obtain⟨o66,j66,j35⟩:=bind_some j35;obtain⟨T66,hT66⟩:=mkT fun a:(List Int)=>⟨48,[(1,(fzE false (eI .i64) p1)),(2,(fzE false (eI .i64) p2)),(3,(.ptr 0 0)),(7,(.sl 1 0 1 a.length none a.length)),(8,(dI v8))],[.cells [(fzE false (eI .i64) p0.vars),(fzE false (eI .i64) p0.cards),(fzE false (eI .i64) p0.w)],.grow 1 (a.map ((eI .i64).c true))]⟩
  refine EvL.jn T66 (fun a=>a=o66) ?_ ?_
  ·refine zab ?_;simp only[rnA];obtain⟨T69,hT69⟩:=mkT fun a:(Int×(List Int))=>⟨48,[(1,(fzE false (eI .i64) p1)),(2,(fzE false (eI .i64) p2)),(3,(.ptr 0 0)),(7,(.sl 1 0 1 a.2.length none a.2.length)),(8,(dI v8)),(9,(dI a.1))],[.cells [(fzE false (eI .i64) p0.vars),(fzE false (eI .i64) p0.cards),(fzE false (eI .i64) p0.w)],.grow 1 (a.2.map ((eI .i64).c true))]⟩
   refine EvL.rounds (α:=(Int×(List Int))) T69 (fun n a=>zdo p1 p0 v8 p2 n a.1 a.2=some o66) ((p1.length:Int) - 0+2:Int).toNat (0,l1) (by rw[hT69]; exact wm0 [.k,.k] ⟨MB.cs ⟨qcj,qcj,qcj,qcj⟩,⟨MB.gs (eI .i64) true l1,qcj⟩⟩) j66 (fun _ h=>nomatch (show(none:Option (List Int))=some o66 from h)) ?_;rintro n ⟨v9,l1'⟩ j66;simp only[zdo]at j66;rw[congrFun hT69 (v9,l1')];refine zab ?_;try simp only[rnA,Nat.reduceEqDiff,Nat.reduceLT,zaw]
   cases c2:(decide (v9<(p1.length:Int)))
   ·rw[c2,cond_false]at j66;try simp only[rnA,Nat.reduceEqDiff,Nat.reduceLT,reduceCtorEq]
    replace j66:=qab j66; subst j66;exact lfj hT66 rfl (wm0 [.k,.k] ⟨MB.cs ⟨qcj,qcj,qcj,qcj⟩,⟨MB.gs (eI .i64) true l1',qcj⟩⟩)
   rw[c2,cond_true]at j66;obtain⟨x3,g4,j66⟩:=bind_some j66;obtain⟨x5,g6,j66⟩:=bind_some j66;try simp only[rnA,Nat.reduceEqDiff,Nat.reduceLT,zak (n:=1) (e:=(eI .i64)) rfl g4,zak (n:=1) (e:=(eI .i64)) rfl g6]
   obtain⟨o70,j70,j66⟩:=bind_some j66;obtain⟨T70,hT70⟩:=mkT fun a:(List Int)=>⟨48,[(1,(fzE false (eI .i64) p1)),(2,(fzE false (eI .i64) p2)),(3,(.ptr 0 0)),(7,(.sl 1 0 1 a.length none a.length)),(8,(dI v8)),(9,(dI v9))],[.cells [(fzE false (eI .i64) p0.vars),(fzE false (eI .i64) p0.cards),(fzE false (eI .i64) p0.w)],.grow 1 (a.map ((eI .i64).c true))]⟩
   refine EvL.jn T70 (fun a=>a=o70) ?_ ?_
   ·refine zab ?_;try simp only[rnA,Nat.reduceEqDiff]
    cases c7:(x3 == x5)
    ·rw[c7,cond_false]at j70;try simp only[rnA]
     replace j70:=qab j70; subst j70;exact lfj hT70 rfl (wm0 [.k,.k] ⟨MB.cs ⟨qcj,qcj,qcj,qcj⟩,⟨MB.gs (eI .i64) true l1',qcj⟩⟩)
    rw[c7,cond_true]at j70;obtain⟨x8,g9,j70⟩:=bind_some j70;obtain⟨y10,g11,j70⟩:=bind_some j70;try simp only[rnA,Nat.reduceEqDiff,Nat.reduceLT,Nat.reduceAdd,Nat.reduceLeDiff,zak (n:=1) (e:=(eI .i64)) rfl g9,zcn g11,(show l1'.length+1=y10.length from zbx g11),(show l1'.map ((eI .i64).c true)++ [[(dI x8)]]=y10.map ((eI .i64).c true)from zbJ g11 ((eI .i64).c true))]
    replace j70:=qab j70; subst j70;exact lfj hT70 rfl (wm0 [.k,.k] ⟨MB.cs ⟨qcj,qcj,qcj,qcj⟩,⟨MB.gs (eI .i64) true y10,qcj⟩⟩)
   rintro l1'' rfl;rw[congrFun hT70 l1''];refine zab ?_;try simp only[rnA,Nat.reduceEqDiff,Nat.reduceLT]
   exact⟨((w64 (v9+1)),l1''),j66,by rw[hT69]; exact wm0 [.k,.k] ⟨MB.cs ⟨qcj,qcj,qcj,qcj⟩,⟨MB.gs (eI .i64) true l1'',qcj⟩⟩⟩
  rintro l1' rfl;rw[congrFun hT66 l1'];refine zab ?_;try simp only[rnA,Nat.reduceEqDiff,Nat.reduceLT]
  exact⟨((w64 (v8+1)),l1'),j35,by rw[hT62]; exact wm0 [.k,.k] ⟨MB.cs ⟨qcj,qcj,qcj,qcj⟩,⟨MB.gs (eI .i64) true l1',qcj⟩⟩⟩
 rintro l1 rfl;rw[congrFun hT35 l1];refine zab ?_;obtain⟨r12,g13,h⟩:=bind_some h;try simp only[rnA,Nat.reduceEqDiff,Nat.reduceLT]
 refine EvL.fn (zkV g13) rfl rfl (.cons (zaa _ _ (fun h=>nomatch h)) (.cons (zbi (e:=(eI .i64)) (t:=true) rfl (.inr rfl) rfl rfl (fun k h=>nomatch h) (fun h=>nomatch h)) .nil)) ?_;obtain⟨x14,g15,h⟩:=bind_some h;try simp only[rnA,Nat.reduceEqDiff,Nat.reduceLT,zak (n:=1) (e:=(eI .i64)) rfl g15]
 replace h:=qab h; subst h;exact zbB.ret rfl (.lit _)
def zbQ(p0:S_api_Factor)(p1:S_api_Factor):Nat→Int→(List Int)→(List Int)→Option ((List Int)×(List Int))
 | 0,_,_,_=>none
 | n+1,v8,l2,l3=>(
bif (decide (v8≤63))then(
(zbS p0 v8).bind fun r2=>
(zbS p1 v8).bind fun r4=>
((bif (decide (0≤r2))then(
(zd6 8 l2 [v8]).bind fun y14=>
(za0 p0.cards r2).bind fun x16=>
(zd6 8 l3 [x16]).bind fun y18=>
some (y14,y18))
else(
bif (decide (0≤r4))then(
(zd6 8 l2 [v8]).bind fun y8=>
(za0 p1.cards r4).bind fun x10=>
(zd6 8 l3 [x10]).bind fun y12=>
some (y8,y12))
else(
some (l2,l3))):Option (((List Int)×(List Int))))).bind fun o=>match o with
|(l2',l3')=>(
zbQ p0 p1 n (w64 (v8+1)) l2' l3'))
else(
some (l2,l3)))
def zdZ(p0:S_api_Factor)(p1:S_api_Factor):Option ((List Int)×(List Int)):=
((zbQ p0 p1 (63 - 0+2:Int).toNat 0 [] []:Option (((List Int)×(List Int))))).bind fun o=>match o with
|(l2,l3)=>(
some (l2,l3))
theorem zkw{p0:S_api_Factor}{p1:S_api_Factor}{r:((List Int)×(List Int))}(h:zdZ p0 p1=some r):Lx.Fn mC 97 [(.agg [(fzE false (eI .i64) p0.vars),(fzE false (eI .i64) p0.cards),(fzE false (eI .i64) p0.w)]),(.agg [(fzE false (eI .i64) p1.vars),(fzE false (eI .i64) p1.cards),(fzE false (eI .i64) p1.w)])] (.tup [(fzE true (eI .i64) r.1),(fzE true (eI .i64) r.2)]):=by
 refine fnO (by conv=>lhs; cbv) ?_;unfold zdZ at h;refine zab ?_;try simp only[rnA,Nat.reduceEqDiff,Nat.reduceLT,Nat.reduceAdd,reduceCtorEq]
 obtain⟨o5,j5,h⟩:=bind_some h;obtain⟨T5,hT5⟩:=mkT fun a:((List Int)×(List Int))=>⟨53,[(6,(.sl 2 0 1 a.1.length none a.1.length)),(7,(.sl 3 0 1 a.2.length none a.2.length))],[.gone,.gone,.grow 1 (a.1.map ((eI .i64).c true)),.grow 1 (a.2.map ((eI .i64).c true))]⟩
 refine EvL.jn T5 (fun a=>a=o5) ?_ ?_
 ·refine zab ?_;simp only[rnA];obtain⟨T9,hT9⟩:=mkT fun a:(Int×(List Int)×(List Int))=>⟨53,[(2,(.ptr 0 0)),(3,(.ptr 1 0)),(6,(.sl 2 0 1 a.2.1.length none a.2.1.length)),(7,(.sl 3 0 1 a.2.2.length none a.2.2.length)),(8,(dI a.1))],[.cells [(fzE false (eI .i64) p0.vars),(fzE false (eI .i64) p0.cards),(fzE false (eI .i64) p0.w)],.cells [(fzE false (eI .i64) p1.vars),(fzE false (eI .i64) p1.cards),(fzE false (eI .i64) p1.w)],.grow 1 (a.2.1.map ((eI .i64).c true)),.grow 1 (a.2.2.map ((eI .i64).c true))]⟩
  refine EvL.zeJ (zbw.ghost (n:=1) (k:=6) (by decide) rfl) ?_;refine EvL.zeJ (zbw.ghost (n:=1) (k:=7) (by decide) rfl) ?_;refine EvL.rounds (α:=(Int×(List Int)×(List Int))) T9 (fun n a=>zbQ p0 p1 n a.1 a.2.1 a.2.2=some o5) (63 - 0+2:Int).toNat (0,[],[]) (by rw[hT9]; exact wm0 [.k,.k,.k,.k] ⟨MB.cs ⟨qcj,qcj,qcj,qcj⟩,⟨MB.cs ⟨qcj,qcj,qcj,qcj⟩,⟨MB.gs (eI .i64) true [],⟨MB.gs (eI .i64) true [],qcj⟩⟩⟩⟩) j5 (fun _ h=>nomatch (show(none:Option ((List Int)×(List Int)))=some o5 from h)) ?_;rintro n ⟨v8,l2,l3⟩ j5;simp only[zbQ]at j5;rw[congrFun hT9 (v8,l2,l3)];refine zab ?_;try simp only[rnA,Nat.reduceEqDiff,Nat.reduceLT]
  cases c1:(decide (v8≤63))
  ·rw[c1,cond_false]at j5;try simp only[rnA]
   replace j5:=qab j5; subst j5;exact lfj hT5 rfl (wm0 [.d,.d,.k,.k] ⟨rfl,⟨rfl,⟨MB.gs (eI .i64) true l2,⟨MB.gs (eI .i64) true l3,qcj⟩⟩⟩⟩)
  rw[c1,cond_true]at j5;obtain⟨r2,g3,j5⟩:=bind_some j5;try simp only[rnA,Nat.reduceEqDiff,Nat.reduceLT,Nat.reduceAdd,Nat.reduceLeDiff]
  refine EvL.fn (zec g3) rfl rfl (.cons (.zaF (.cons (zaa _ _ (fun h=>nomatch h)) (.cons (zaa _ _ (fun h=>nomatch h)) (.cons (zaa _ _ (fun h=>nomatch h)) .nil)))) (.cons (.lit _) .nil)) ?_;obtain⟨r4,g5,j5⟩:=bind_some j5;try simp only[rnA,Nat.reduceLT]
  refine EvL.fn (zec g5) rfl rfl (.cons (.zaF (.cons (zaa _ _ (fun h=>nomatch h)) (.cons (zaa _ _ (fun h=>nomatch h)) (.cons (zaa _ _ (fun h=>nomatch h)) .nil)))) (.cons (.lit _) .nil)) ?_;try simp only[rnA,Nat.reduceEqDiff,Nat.reduceLT]
  obtain⟨o10,j10,j5⟩:=bind_some j5;obtain⟨T10,hT10⟩:=mkT fun a:((List Int)×(List Int))=>⟨53,[(2,(.ptr 0 0)),(3,(.ptr 1 0)),(6,(.sl 2 0 1 a.1.length none a.1.length)),(7,(.sl 3 0 1 a.2.length none a.2.length)),(8,(dI v8))],[.cells [(fzE false (eI .i64) p0.vars),(fzE false (eI .i64) p0.cards),(fzE false (eI .i64) p0.w)],.cells [(fzE false (eI .i64) p1.vars),(fzE false (eI .i64) p1.cards),(fzE false (eI .i64) p1.w)],.grow 1 (a.1.map ((eI .i64).c true)),.grow 1 (a.2.map ((eI .i64).c true))]⟩
  refine EvL.jn T10 (fun a=>a=o10) ?_ ?_
  ·refine zab ?_;try simp only[rnA,Nat.reduceEqDiff]
   cases c6:(decide (0≤r2))
   ·rw[c6,cond_false]at j10;try simp only[rnA,Nat.reduceEqDiff,Nat.reduceLT]
    cases c7:(decide (0≤r4))
    ·rw[c7,cond_false]at j10;try simp only[rnA]
     replace j10:=qab j10; subst j10;exact lfj hT10 rfl (wm0 [.k,.k,.k,.k] ⟨MB.cs ⟨qcj,qcj,qcj,qcj⟩,⟨MB.cs ⟨qcj,qcj,qcj,qcj⟩,⟨MB.gs (eI .i64) true l2,⟨MB.gs (eI .i64) true l3,qcj⟩⟩⟩⟩)
    rw[c7,cond_true]at j10;obtain⟨y8,g9,j10⟩:=bind_some j10;obtain⟨x10,g11,j10⟩:=bind_some j10;obtain⟨y12,g13,j10⟩:=bind_some j10;try simp only[rnA,Nat.reduceEqDiff,Nat.reduceLT,Nat.reduceAdd,Nat.reduceLeDiff,zcn g9,(show l2.length+1=y8.length from zbx g9),(show l2.map ((eI .i64).c true)++ [[(dI v8)]]=y8.map ((eI .i64).c true)from zbJ g9 ((eI .i64).c true)),zak (n:=1) (e:=(eI .i64)) rfl g11,zcn g13,(show l3.length+1=y12.length from zbx g13),(show l3.map ((eI .i64).c true)++ [[(dI x10)]]=y12.map ((eI .i64).c true)from zbJ g13 ((eI .i64).c true))]
    replace j10:=qab j10; subst j10;exact lfj hT10 rfl (wm0 [.k,.k,.k,.k] ⟨MB.cs ⟨qcj,qcj,qcj,qcj⟩,⟨MB.cs ⟨qcj,qcj,qcj,qcj⟩,⟨MB.gs (eI .i64) true y8,⟨MB.gs (eI .i64) true y12,qcj⟩⟩⟩⟩)
   rw[c6,cond_true]at j10;obtain⟨y14,g15,j10⟩:=bind_some j10;obtain⟨x16,g17,j10⟩:=bind_some j10;obtain⟨y18,g19,j10⟩:=bind_some j10;try simp only[rnA,Nat.reduceEqDiff,Nat.reduceLT,Nat.reduceAdd,Nat.reduceLeDiff,zcn g15,(show l2.length+1=y14.length from zbx g15),(show l2.map ((eI .i64).c true)++ [[(dI v8)]]=y14.map ((eI .i64).c true)from zbJ g15 ((eI .i64).c true)),zak (n:=1) (e:=(eI .i64)) rfl g17,zcn g19,(show l3.length+1=y18.length from zbx g19),(show l3.map ((eI .i64).c true)++ [[(dI x16)]]=y18.map ((eI .i64).c true)from zbJ g19 ((eI .i64).c true))]
   replace j10:=qab j10; subst j10;exact lfj hT10 rfl (wm0 [.k,.k,.k,.k] ⟨MB.cs ⟨qcj,qcj,qcj,qcj⟩,⟨MB.cs ⟨qcj,qcj,qcj,qcj⟩,⟨MB.gs (eI .i64) true y14,⟨MB.gs (eI .i64) true y18,qcj⟩⟩⟩⟩)
  rintro⟨l2',l3'⟩ rfl;dsimp only at j5;rw[congrFun hT10 (l2',l3')];refine zab ?_;try simp only[rnA,Nat.reduceEqDiff,Nat.reduceLT]
  exact⟨((w64 (v8+1)),l2',l3'),j5,by rw[hT9]; exact wm0 [.k,.k,.k,.k] ⟨MB.cs ⟨qcj,qcj,qcj,qcj⟩,⟨MB.cs ⟨qcj,qcj,qcj,qcj⟩,⟨MB.gs (eI .i64) true l2',⟨MB.gs (eI .i64) true l3',qcj⟩⟩⟩⟩⟩
 rintro⟨l2,l3⟩ rfl;dsimp only at h;rw[congrFun hT5 (l2,l3)];refine zab ?_;try simp only[rnA,Nat.reduceEqDiff,Nat.reduceLT]
 replace h:=qab h; subst h;exact zbB.ret rfl (Snp.zc3 (.cons (zbi (e:=(eI .i64)) (t:=true) rfl (.inr rfl) rfl rfl (fun k h=>nomatch h) (fun _=>rfl)) (.cons (zbi (e:=(eI .i64)) (t:=true) rfl (.inr rfl) rfl rfl (fun k h=>nomatch h) (fun _=>rfl)) .nil)))
def zc1(p0:Int)(p1:Int):Option (Int×Bool):=
(zcM (IntKind.u64.wrap p0) (IntKind.u64.wrap p1)).bind fun r1=>
((bif (decide (0<r1.1))then(
some true)
else(
some (decide (4611686018427387903<r1.2))):Option Bool)).bind fun v21=>
bif v21 then(
some (0,false))
else(
some ((w64 r1.2),true))
theorem ziw{p0:Int}{p1:Int}{r:(Int×Bool)}(h:zc1 p0 p1=some r):Lx.Fn mC 98 [(dI p0),(dI p1)] (.tup [(dI r.1),(dB r.2)]):=by
 refine fnO (by conv=>lhs; cbv) ?_;unfold zc1 at h;refine zab ?_;obtain⟨r1,g2,h⟩:=bind_some h;try simp only[rnA,Nat.reduceEqDiff,reduceIte,Nat.reduceLT,Nat.reduceAdd,Nat.reduceLeDiff,Nat.reduceMul,Nat.reduceSub,Int.reduceLE,Int.reduceLT,Int.reduceBEq,Nat.reduceBEq,reduceCtorEq]
 refine EvL.fn (zf9 g2) rfl rfl (.cons (.lit _) (.cons (.lit _) .nil)) ?_;try simp only[rnA,Nat.reduceEqDiff,reduceIte,Nat.reduceLT,Nat.reduceAdd,Nat.reduceLeDiff,Nat.reduceMul,Nat.reduceSub,Int.reduceLE,Int.reduceLT,Int.reduceBEq,Nat.reduceBEq,reduceCtorEq]
 obtain⟨o1,j1,h⟩:=bind_some h;obtain⟨T1,hT1⟩:=mkT fun a:Bool=>⟨24,[(7,(dU r1.2)),(21,(dB a))],[]⟩
 refine EvL.jn T1 (fun a=>a=o1) ?_ ?_
 ·refine zab ?_;try simp only[rnA,Nat.reduceEqDiff,reduceIte,Nat.reduceLT,Nat.reduceAdd,Nat.reduceLeDiff,Nat.reduceMul,Nat.reduceSub,Int.reduceLE,Int.reduceLT,Int.reduceBEq,Nat.reduceBEq,reduceCtorEq]
  cases c3:(decide (0<r1.1))
  ·rw[c3,cond_false]at j1;try simp only[rnA,Nat.reduceEqDiff,reduceIte,Nat.reduceLT,Nat.reduceAdd,Nat.reduceLeDiff,Nat.reduceMul,Nat.reduceSub,Int.reduceLE,Int.reduceLT,Int.reduceBEq,Nat.reduceBEq,reduceCtorEq,c3]
   replace j1:=qab j1; subst j1;exact lfj hT1 rfl (wm0 [] (by exact trivial))
  rw[c3,cond_true]at j1;try simp only[rnA,Nat.reduceEqDiff,reduceIte,Nat.reduceLT,Nat.reduceAdd,Nat.reduceLeDiff,Nat.reduceMul,Nat.reduceSub,Int.reduceLE,Int.reduceLT,Int.reduceBEq,Nat.reduceBEq,reduceCtorEq,c3]
  replace j1:=qab j1; subst j1;exact lfj hT1 rfl (wm0 [] (by exact trivial))
 rintro v21 rfl;rw[congrFun hT1 v21];refine zab ?_;try simp only[rnA,Nat.reduceEqDiff,reduceIte,Nat.reduceLT,Nat.reduceAdd,Nat.reduceLeDiff,Nat.reduceMul,Nat.reduceSub,Int.reduceLE,Int.reduceLT,Int.reduceBEq,Nat.reduceBEq,reduceCtorEq]
 cases c4:v21
 ·rw[c4,cond_false]at h;try simp only[rnA,Nat.reduceEqDiff,reduceIte,Nat.reduceLT,Nat.reduceAdd,Nat.reduceLeDiff,Nat.reduceMul,Nat.reduceSub,Int.reduceLE,Int.reduceLT,Int.reduceBEq,Nat.reduceBEq,reduceCtorEq,c4]
  replace h:=qab h; subst h;exact zbB.ret rfl (Snp.zc3 (.cons (.lit _) (.cons (.lit _) .nil)))
 rw[c4,cond_true]at h;try simp only[rnA,Nat.reduceEqDiff,reduceIte,Nat.reduceLT,Nat.reduceAdd,Nat.reduceLeDiff,Nat.reduceMul,Nat.reduceSub,Int.reduceLE,Int.reduceLT,Int.reduceBEq,Nat.reduceBEq,reduceCtorEq,c4]
 replace h:=qab h; subst h;exact zbB.ret rfl (Snp.zc3 (.cons (.lit _) (.cons (.lit _) .nil)))
def zcI(r6:(List (List Int)))(p0:S_api_Factor)(r1:((List Int)×(List Int)))(p1:S_api_Factor):Nat→Int→(List Int)→Option (Out (List Int) (S_api_Factor×Int))
 | 0,_,_=>none
 | n+1,v8,l4=>(
bif (decide (v8<(r6.length:Int)))then(
(za0 r6 v8).bind fun x9=>
(zdd p0 r1.1 x9).bind fun r11=>
(zdd p1 r1.1 x9).bind fun r13=>
(zc1 r11 r13).bind fun r15=>
bif r15.2 then(
(zd6 8 l4 [r15.1]).bind fun y18=>
zcI r6 p0 r1 p1 n (w64 (v8+1)) y18)
else(
some (.ret ((S_api_Factor.mk [] [] []),6))))
else(
some (.go l4)))
def zfk(N:Nat)(p0:S_api_Factor)(p1:S_api_Factor):Option (S_api_Factor×Int):=
(zdZ p0 p1).bind fun r1=>
(zcB r1.2).bind fun r3=>
bif r3 then(
(zd1 N r1.2).bind fun r6=>
((zcI r6 p0 r1 p1 ((r6.length:Int) - 0+2:Int).toNat 0 []:Option (Out (List Int) (S_api_Factor×Int)))).bind fun o=>match o with
| .go l4=>(
some ((S_api_Factor.mk r1.1 r1.2 l4),0))
| .ret r=>some r)
else(
some ((S_api_Factor.mk [] [] []),3))
def zkT:C:=
 .seq (rg [oW 2 0,
 oW 3 1,
 ⟨some 4,.alloc [(.slice none 0 0),(.slice none 0 0),(.slice none 0 0)],none⟩,
 oK 5 0])
 (.seq (rg [⟨some 6,.alloc [(.slice none 0 0),(.slice none 0 0),(.slice none 0 0)],none⟩])
 (.seq (rg [oN 12 3 2,
 oN 13 3 3,
 oV 14 97 12 13,
 oM 11 14,
 oX 15 11 0,
 oX 16 11 1,
 oF 17 0 6,
 oS 1 17 15,
 oF 18 1 6,
 oS 1 18 16])
 (.seq (.seq (rg [oF 19 1 6,
 oL 20 19,
 oU 21 88 20,
 ⟨some 22,.un .not (.s 21),none⟩])
 (.cond (.s 22) (.seq (rg [⟨some 23,.build [(.slice none 0 0),(.slice none 0 0),(.slice none 0 0)] [],none⟩,
 oS 3 4 23,
 oK 5 3])
 (.ret))
 (.skip)))
 (.seq (rg [oF 24 1 6,
 oL 25 24,
 oU 26 85 25,
 oM 7 26])
 (.seq (.seq (rg [oK 8 0])
 (.scope (.block 0 (.loop (.seq (.seq (rg [oM 27 8,
 oM 28 7,
 oE 29 28,
 oB 30 .lss 27 29])
 (.cond (.s 30) (.skip)
 (.exit 0)))
 (.seq (.block 1 (.seq (.reg true true [oN 34 3 2,
 oF 35 0 6,
 oL 36 35,
 oM 37 7,
 oM 38 8,
 oI 39 1 37 38,
 oL 40 39,
 oN 42 3 3,
 oF 43 0 6,
 oL 44 43,
 oM 45 7,
 oM 46 8,
 oI 47 1 45 46,
 oL 48 47,
 ⟨some 41,.call 99 [(.s 34),(.s 36),(.s 40)],none⟩,
 ⟨some 49,.call 99 [(.s 42),(.s 44),(.s 48)],none⟩,
 oV 50 98 41 49,
 oM 33 50,
 oX 51 33 0,
 oX 52 33 1,
 oM 9 51,
 oM 10 52])
 (.seq (.seq (rg [oM 53 10,
 ⟨some 54,.un .not (.s 53),none⟩])
 (.cond (.s 54) (.seq (rg [⟨some 55,.build [(.slice none 0 0),(.slice none 0 0),(.slice none 0 0)] [],none⟩,
 oS 3 4 55,
 oK 5 6])
 (.ret))
 (.skip)))
 (rg [oF 56 2 6,
 oL 57 56,
 oM 58 9,
 ⟨some 59,.bsl 1 1 [(.int .i64 0)] [(0,(.s 58))],none⟩,
 oT 60 1 8 57 59,
 oF 61 2 6,
 oS 1 61 60]))))
 (rg [oM 31 8,
 oD 32 .add 31 1,
 oM 8 32])))))))
 (.seq (rg [oN 62 3 6,
 oS 3 4 62,
 oK 5 0])
 (.ret)))))))
theorem zl2:zgn mC 29=some (63,zkT,[.cell 4 (some 3),.tmp 5],false):=zaP (by kernel_rfl)
theorem znQ{N:Nat}{p0:S_api_Factor}{p1:S_api_Factor}{r:(S_api_Factor×Int)}(h:zfk N p0 p1=some r):Lx.Fn mC 29 [(.agg [(fzE false (eI .i64) p0.vars),(fzE false (eI .i64) p0.cards),(fzE false (eI .i64) p0.w)]),(.agg [(fzE false (eI .i64) p1.vars),(fzE false (eI .i64) p1.cards),(fzE false (eI .i64) p1.w)])] (.tup [(.agg [(fzE true (eI .i64) r.1.vars),(fzE true (eI .i64) r.1.cards),(fzE true (eI .i64) r.1.w)]),(dI r.2)]):=by
 refine Fn.of zl2 (zaJ rfl) (qad rfl) ?_;unfold zfk at h;simp only[zkT,zir];refine zab ?_;obtain⟨r1,g2,h⟩:=bind_some h;try simp only[rnA,Nat.reduceEqDiff,Nat.reduceLT,Nat.reduceAdd,Nat.reduceLeDiff,reduceCtorEq]
 refine EvL.fn (zkw g2) rfl rfl (.cons (.zaF (.cons (zaa _ _ (fun h=>nomatch h)) (.cons (zaa _ _ (fun h=>nomatch h)) (.cons (zaa _ _ (fun h=>nomatch h)) .nil)))) (.cons (.zaF (.cons (zaa _ _ (fun h=>nomatch h)) (.cons (zaa _ _ (fun h=>nomatch h)) (.cons (zaa _ _ (fun h=>nomatch h)) .nil)))) .nil)) ?_;obtain⟨r3,g4,h⟩:=bind_some h;try simp only[rnA,Nat.reduceEqDiff,Nat.reduceLT,Nat.reduceAdd,Nat.reduceLeDiff,reduceCtorEq]
 refine EvL.fn (zg3 g4) rfl rfl (.cons (zaa _ _ (fun h=>nomatch h)) .nil) ?_;try simp only[rnA,Nat.reduceEqDiff,Nat.reduceLT,reduceCtorEq]
 cases c5:r3
 ·rw[c5,cond_false]at h;try simp only[rnA,Nat.reduceEqDiff,Nat.reduceLT,Nat.reduceAdd,Nat.reduceLeDiff,reduceCtorEq]
  replace h:=qab h; subst h;exact zbB.ret rfl (Snp.zc3 (.cons (.zaF (.cons (zah (eI .i64)) (.cons (zah (eI .i64)) (.cons (zah (eI .i64)) .nil)))) (.cons (.lit _) .nil)))
 rw[c5,cond_true]at h;obtain⟨r6,g7,h⟩:=bind_some h;try simp only[rnA,Nat.reduceEqDiff,Nat.reduceLT,reduceCtorEq]
 refine EvL.fn (zi6 g7) rfl rfl (.cons (zaa _ _ (fun h=>nomatch h)) .nil) ?_;try simp only[rnA,Nat.reduceEqDiff,Nat.reduceLT,reduceCtorEq]
 obtain⟨o1,j1,h⟩:=bind_some h;obtain⟨T1,hT1⟩:=mkT fun a:(List Int)=>⟨63,[(4,(.ptr 2 0)),(6,(.ptr 3 0))],[.gone,.gone,.cells [zar,zar,zar],.cells [(fzE true (eI .i64) r1.1),(fzE true (eI .i64) r1.2),(.sl 4 0 1 a.length none a.length)],.grow 1 (a.map ((eI .i64).c true))]⟩
 refine EvL.jn T1 (fun a=>o1=.go a) ?_ ?_
 ·refine zab ?_;simp only[rnA];obtain⟨T2,hT2⟩:=mkT fun a:(Int×(List Int))=>⟨63,[(2,(.ptr 0 0)),(3,(.ptr 1 0)),(4,(.ptr 2 0)),(6,(.ptr 3 0)),(7,(fzE true (eL (eI .i64)) r6)),(8,(dI a.1))],[.cells [(fzE false (eI .i64) p0.vars),(fzE false (eI .i64) p0.cards),(fzE false (eI .i64) p0.w)],.cells [(fzE false (eI .i64) p1.vars),(fzE false (eI .i64) p1.cards),(fzE false (eI .i64) p1.w)],.cells [zar,zar,zar],.cells [(fzE true (eI .i64) r1.1),(fzE true (eI .i64) r1.2),(.sl 4 0 1 a.2.length none a.2.length)],.grow 1 (a.2.map ((eI .i64).c true))]⟩
  refine EvL.zeJ (zbw.zkF (n:=1) (β:=3) (o:=2) (by decide) rfl rfl) ?_;refine EvL.rounds (α:=(Int×(List Int))) T2 (fun n a=>zcI r6 p0 r1 p1 n a.1 a.2=some o1) ((r6.length:Int) - 0+2:Int).toNat (0,[]) (by rw[hT2]; exact wm0 [.k,.k,.k,.k,.k] ⟨MB.cs ⟨qcj,qcj,qcj,qcj⟩,⟨MB.cs ⟨qcj,qcj,qcj,qcj⟩,⟨MB.cs ⟨qcj,qcj,qcj,qcj⟩,⟨MB.cs ⟨qcj,qcj,rfl,qcj⟩,⟨MB.gs (eI .i64) true [],qcj⟩⟩⟩⟩⟩) j1 (fun _ h=>nomatch (show(none:Option (Out (List Int) (S_api_Factor×Int)))=some o1 from h)) ?_;rintro n ⟨v8,l4⟩ j1;simp only[zcI]at j1;rw[congrFun hT2 (v8,l4)];refine zab ?_;try simp only[rnA,Nat.reduceEqDiff,Nat.reduceLT,zaw]
  cases c8:(decide (v8<(r6.length:Int)))
  ·rw[c8,cond_false]at j1;try simp only[rnA]
   replace j1:=qab j1; subst j1;exact lfj hT1 rfl (wm0 [.d,.d,.k,.k,.k] ⟨rfl,⟨rfl,⟨MB.cs ⟨qcj,qcj,qcj,qcj⟩,⟨MB.cs ⟨qcj,qcj,rfl,qcj⟩,⟨MB.gs (eI .i64) true l4,qcj⟩⟩⟩⟩⟩)
  rw[c8,cond_true]at j1;obtain⟨x9,g10,j1⟩:=bind_some j1;obtain⟨r11,g12,j1⟩:=bind_some j1;try simp only[rnA,Nat.reduceEqDiff,Nat.reduceLT,Nat.reduceAdd,Nat.reduceLeDiff,zak (n:=1) (e:=(eL (eI .i64))) rfl g10]
  refine EvL.fn (zfM g12) rfl rfl (.cons (.zaF (.cons (zaa _ _ (fun h=>nomatch h)) (.cons (zaa _ _ (fun h=>nomatch h)) (.cons (zaa _ _ (fun h=>nomatch h)) .nil)))) (.cons (zaa _ _ (fun h=>nomatch h)) (.cons (zaa _ _ (fun h=>nomatch h)) .nil))) ?_;obtain⟨r13,g14,j1⟩:=bind_some j1;try simp only[rnA,Nat.reduceLT]
  refine EvL.fn (zfM g14) rfl rfl (.cons (.zaF (.cons (zaa _ _ (fun h=>nomatch h)) (.cons (zaa _ _ (fun h=>nomatch h)) (.cons (zaa _ _ (fun h=>nomatch h)) .nil)))) (.cons (zaa _ _ (fun h=>nomatch h)) (.cons (zaa _ _ (fun h=>nomatch h)) .nil))) ?_;obtain⟨r15,g16,j1⟩:=bind_some j1;try simp only[rnA,Nat.reduceLT]
  refine EvL.fn (ziw g16) rfl rfl (.cons (.lit _) (.cons (.lit _) .nil)) ?_;try simp only[rnA,Nat.reduceEqDiff,Nat.reduceLT]
  cases c17:r15.2
  ·rw[c17,cond_false]at j1;try simp only[rnA,Nat.reduceEqDiff,Nat.reduceLT,Nat.reduceAdd,Nat.reduceLeDiff]
   replace j1:=qab j1; subst j1;dsimp only at h;replace h:=qab h; subst h;exact zbB.ret rfl (Snp.zc3 (.cons (.zaF (.cons (zah (eI .i64)) (.cons (zah (eI .i64)) (.cons (zah (eI .i64)) .nil)))) (.cons (.lit _) .nil)))
  rw[c17,cond_true]at j1;obtain⟨y18,g19,j1⟩:=bind_some j1;try simp only[rnA,Nat.reduceEqDiff,Nat.reduceLT,Nat.reduceAdd,Nat.reduceLeDiff,zcn g19,(show l4.length+1=y18.length from zbx g19),(show l4.map ((eI .i64).c true)++ [[(dI r15.1)]]=y18.map ((eI .i64).c true)from zbJ g19 ((eI .i64).c true))]
  exact⟨((w64 (v8+1)),y18),j1,by rw[hT2]; exact wm0 [.k,.k,.k,.k,.k] ⟨MB.cs ⟨qcj,qcj,qcj,qcj⟩,⟨MB.cs ⟨qcj,qcj,qcj,qcj⟩,⟨MB.cs ⟨qcj,qcj,qcj,qcj⟩,⟨MB.cs ⟨qcj,qcj,rfl,qcj⟩,⟨MB.gs (eI .i64) true y18,qcj⟩⟩⟩⟩⟩⟩
 rintro l4 rfl;dsimp only at h;rw[congrFun hT1 l4];refine zab ?_;try simp only[rnA,Nat.reduceEqDiff,Nat.reduceLT,Nat.reduceAdd,Nat.reduceLeDiff]
 replace h:=qab h; subst h;exact zbB.ret rfl (Snp.zc3 (.cons (.zaF (.cons (zaa _ _ (fun _=>rfl)) (.cons (zaa _ _ (fun _=>rfl)) (.cons (zbi (e:=(eI .i64)) (t:=true) rfl (.inr rfl) rfl rfl (fun k h=>nomatch h) (fun _=>rfl)) .nil)))) (.cons (.lit _) .nil)))
def zbl(r1:(List (List Int)))(p0:S_api_Factor)(p1:S_api_Factor):Nat→Int→(List Int)→Option (Out (List Int) (S_api_Factor×Bool))
 | 0,_,_=>none
 | n+1,v8,l4=>(
bif (decide (v8<(r1.length:Int)))then(
(za0 p0.w v8).bind fun x4=>
(za0 r1 v8).bind fun x6=>
(zdd p1 p0.vars x6).bind fun r8=>
((bif (x4 == 0)then(
(zd6 8 l4 [0]).bind fun y19=>
some (.go y19))
else(
((bif (r8 == 0)then(
some true)
else(
(zok x4 r8).bind fun q12=>
some (!(q12 == 0))):Option Bool)).bind fun v54=>
bif v54 then(
some (.ret ((S_api_Factor.mk [] [] []),false)))
else(
(zph .i64 x4 r8).bind fun q15=>
(zd6 8 l4 [q15]).bind fun y17=>
some (.go y17))):Option (Out (List Int) (S_api_Factor×Bool)))).bind fun o=>match o with
| .go l4'=>(
zbl r1 p0 p1 n (w64 (v8+1)) l4')
| .ret r=>some (.ret r))
else(
some (.go l4)))
def zdC(N:Nat)(p0:S_api_Factor)(p1:S_api_Factor):Option (S_api_Factor×Bool):=
(zd1 N p0.cards).bind fun r1=>
((zbl r1 p0 p1 ((r1.length:Int) - 0+2:Int).toNat 0 []:Option (Out (List Int) (S_api_Factor×Bool)))).bind fun o=>match o with
| .go l4=>(
some ((S_api_Factor.mk p0.vars p0.cards l4),true))
| .ret r=>some r
def zha:C:=
 .seq (rg [oW 2 0,
 oW 3 1,
 ⟨some 4,.alloc [(.slice none 0 0),(.slice none 0 0),(.slice none 0 0)],none⟩,
 oJ 5 false])
 (.seq (rg [oF 11 0 2,
 oL 12 11,
 oF 13 1 2,
 oL 14 13,
 ⟨some 15,.build [(.slice none 0 0),(.slice none 0 0),(.slice none 0 0)] [(0,1,(.s 12)),(1,1,(.s 14))],none⟩,
 ⟨some 6,.alloc [(.slice none 0 0),(.slice none 0 0),(.slice none 0 0)],none⟩,
 oS 3 6 15])
 (.seq (rg [oF 16 1 2,
 oL 17 16,
 oU 18 85 17,
 oM 7 18])
 (.seq (.seq (rg [oK 8 0])
 (.scope (.block 0 (.loop (.seq (.seq (rg [oM 19 8,
 oM 20 7,
 oE 21 20,
 oB 22 .lss 19 21])
 (.cond (.s 22) (.skip)
 (.exit 0)))
 (.seq (.block 1 (.seq (.reg true true [oF 25 2 2,
 oL 26 25,
 oM 27 8,
 oI 28 1 26 27,
 oL 29 28,
 oN 30 3 3,
 oF 31 0 2,
 oL 32 31,
 oM 33 7,
 oM 34 8,
 oI 35 1 33 34,
 oL 36 35,
 ⟨some 37,.call 99 [(.s 30),(.s 32),(.s 36)],none⟩,
 oM 9 29,
 oM 10 37])
 (.block 2 (.seq (rg [oM 47 9,
 oD 48 .eql 47 0,
 oM 46 48])
 (.scope (.cond (.s 46) (rg [oF 49 2 6,
 oL 50 49,
 ⟨some 51,.bsl 1 1 [(.int .i64 0)] [(0,(.c (.int .i64 0)))],none⟩,
 oT 52 1 8 50 51,
 oF 53 2 6,
 oS 1 53 52])
 (.seq (.scope (rg [oM 55 10,
 oD 56 .eql 55 0,
 oM 57 56,
 oMg 58 9 57 false,
 oMg 59 10 57 false,
 ⟨some 60,.bin .rem (.s 58) (.s 59),some (57,false)⟩,
 oDg 61 .neq 60 0 57 false,
 oP 62 57 61,
 oM 54 62]))
 (.cond (.s 54) (.seq (rg [⟨some 63,.build [(.slice none 0 0),(.slice none 0 0),(.slice none 0 0)] [],none⟩,
 oS 3 4 63,
 oJ 5 false])
 (.ret))
 (.reg true false [oF 38 2 6,
 oL 39 38,
 oM 40 9,
 oM 41 10,
 oB 42 .quo 40 41,
 ⟨some 43,.bsl 1 1 [(.int .i64 0)] [(0,(.s 42))],none⟩,
 oT 44 1 8 39 43,
 oF 45 2 6,
 oS 1 45 44])))))))))
 (rg [oM 23 8,
 oD 24 .add 23 1,
 oM 8 24])))))))
 (.seq (rg [oN 64 3 6,
 oS 3 4 64,
 oJ 5 true])
 (.ret)))))
theorem ziB:zgn mC 31=some (65,zha,[.cell 4 (some 3),.tmp 5],false):=zaP (by kernel_rfl)
theorem zjj{N:Nat}{p0:S_api_Factor}{p1:S_api_Factor}{r:(S_api_Factor×Bool)}(h:zdC N p0 p1=some r):Lx.FnA mC 31 [(.agg [(fzE false (eI .i64) p0.vars),(fzE false (eI .i64) p0.cards),(fzE false (eI .i64) p0.w)]),(.agg [(fzE false (eI .i64) p1.vars),(fzE false (eI .i64) p1.cards),(fzE false (eI .i64) p1.w)])] (.tup [(.agg [(fzE false (eI .i64) r.1.vars),(fzE false (eI .i64) r.1.cards),(fzE false (eI .i64) r.1.w)]),(dB r.2)]):=by
 refine FnA.of ziB (zaJ rfl) (qad rfl) ?_;unfold zdC at h;simp only[zha,zir];refine zab ?_;obtain⟨r1,g2,h⟩:=bind_some h;try simp only[rnA,Nat.reduceEqDiff,Nat.reduceLT,Nat.reduceAdd,Nat.reduceLeDiff,reduceCtorEq]
 refine EvL.fn (zi6 g2) rfl rfl (.cons (zaa _ _ (fun h=>nomatch h)) .nil) ?_;try simp only[rnA,Nat.reduceEqDiff,Nat.reduceLT,reduceCtorEq]
 obtain⟨o13,j13,h⟩:=bind_some h;obtain⟨T13,hT13⟩:=mkT fun a:(List Int)=>⟨65,[(4,(.ptr 2 0)),(6,(.ptr 3 0))],[.gone,.gone,.cells [zar,zar,zar],.cells [(fzE false (eI .i64) p0.vars),(fzE false (eI .i64) p0.cards),(.sl 4 0 1 a.length none a.length)],.grow 1 (a.map ((eI .i64).c true))]⟩
 refine EvL.jn T13 (fun a=>o13=.go a) ?_ ?_
 ·refine zab ?_;simp only[rnA];obtain⟨T23,hT23⟩:=mkT fun a:(Int×(List Int))=>⟨65,[(2,(.ptr 0 0)),(3,(.ptr 1 0)),(4,(.ptr 2 0)),(6,(.ptr 3 0)),(7,(fzE true (eL (eI .i64)) r1)),(8,(dI a.1))],[.cells [(fzE false (eI .i64) p0.vars),(fzE false (eI .i64) p0.cards),(fzE false (eI .i64) p0.w)],.cells [(fzE false (eI .i64) p1.vars),(fzE false (eI .i64) p1.cards),(fzE false (eI .i64) p1.w)],.cells [zar,zar,zar],.cells [(fzE false (eI .i64) p0.vars),(fzE false (eI .i64) p0.cards),(.sl 4 0 1 a.2.length none a.2.length)],.grow 1 (a.2.map ((eI .i64).c true))]⟩
  refine EvL.zeJ (zbw.zkF (n:=1) (β:=3) (o:=2) (by decide) rfl rfl) ?_;refine EvL.rounds (α:=(Int×(List Int))) T23 (fun n a=>zbl r1 p0 p1 n a.1 a.2=some o13) ((r1.length:Int) - 0+2:Int).toNat (0,[]) (by rw[hT23]; exact wm0 [.k,.k,.k,.k,.k] ⟨MB.cs ⟨qcj,qcj,qcj,qcj⟩,⟨MB.cs ⟨qcj,qcj,qcj,qcj⟩,⟨MB.cs ⟨qcj,qcj,qcj,qcj⟩,⟨MB.cs ⟨qcj,qcj,rfl,qcj⟩,⟨MB.gs (eI .i64) true [],qcj⟩⟩⟩⟩⟩) j13 (fun _ h=>nomatch (show(none:Option (Out (List Int) (S_api_Factor×Bool)))=some o13 from h)) ?_;rintro n ⟨v8,l4⟩ j13;simp only[zbl]at j13;rw[congrFun hT23 (v8,l4)];refine zab ?_;try simp only[rnA,Nat.reduceEqDiff,Nat.reduceLT,zaw]
  cases c3:(decide (v8<(r1.length:Int)))
  ·rw[c3,cond_false]at j13;try simp only[rnA]
   replace j13:=qab j13; subst j13;exact lfj hT13 rfl (wm0 [.d,.d,.k,.k,.k] ⟨rfl,⟨rfl,⟨MB.cs ⟨qcj,qcj,qcj,qcj⟩,⟨MB.cs ⟨qcj,qcj,rfl,qcj⟩,⟨MB.gs (eI .i64) true l4,qcj⟩⟩⟩⟩⟩)
  rw[c3,cond_true]at j13;obtain⟨x4,g5,j13⟩:=bind_some j13;obtain⟨x6,g7,j13⟩:=bind_some j13;obtain⟨r8,g9,j13⟩:=bind_some j13;try simp only[rnA,Nat.reduceEqDiff,Nat.reduceLT,Nat.reduceAdd,Nat.reduceLeDiff,zak (n:=1) (e:=(eI .i64)) rfl g5,zak (n:=1) (e:=(eL (eI .i64))) rfl g7]
  refine EvL.fn (zfM g9) rfl rfl (.cons (.zaF (.cons (zaa _ _ (fun h=>nomatch h)) (.cons (zaa _ _ (fun h=>nomatch h)) (.cons (zaa _ _ (fun h=>nomatch h)) .nil)))) (.cons (zaa _ _ (fun h=>nomatch h)) (.cons (zaa _ _ (fun h=>nomatch h)) .nil))) ?_;try simp only[rnA,Nat.reduceEqDiff,Nat.reduceLT]
  obtain⟨o25,j25,j13⟩:=bind_some j13;obtain⟨T25,hT25⟩:=mkT fun a:(List Int)=>⟨65,[(2,(.ptr 0 0)),(3,(.ptr 1 0)),(4,(.ptr 2 0)),(6,(.ptr 3 0)),(7,(fzE true (eL (eI .i64)) r1)),(8,(dI v8))],[.cells [(fzE false (eI .i64) p0.vars),(fzE false (eI .i64) p0.cards),(fzE false (eI .i64) p0.w)],.cells [(fzE false (eI .i64) p1.vars),(fzE false (eI .i64) p1.cards),(fzE false (eI .i64) p1.w)],.cells [zar,zar,zar],.cells [(fzE false (eI .i64) p0.vars),(fzE false (eI .i64) p0.cards),(.sl 4 0 1 a.length none a.length)],.grow 1 (a.map ((eI .i64).c true))]⟩
  refine EvL.jn T25 (fun a=>o25=.go a) ?_ ?_
  ·refine zab ?_;try simp only[rnA,Nat.reduceEqDiff]
   cases c10:(x4 == 0)
   ·rw[c10,cond_false]at j25;try simp only[rnA]
    obtain⟨o26,j26,j25⟩:=bind_some j25;obtain⟨T26,hT26⟩:=mkT fun a:Bool=>⟨65,[(2,(.ptr 0 0)),(3,(.ptr 1 0)),(4,(.ptr 2 0)),(6,(.ptr 3 0)),(7,(fzE true (eL (eI .i64)) r1)),(8,(dI v8)),(9,(dI x4)),(10,(dI r8)),(54,(dB a))],[.cells [(fzE false (eI .i64) p0.vars),(fzE false (eI .i64) p0.cards),(fzE false (eI .i64) p0.w)],.cells [(fzE false (eI .i64) p1.vars),(fzE false (eI .i64) p1.cards),(fzE false (eI .i64) p1.w)],.cells [zar,zar,zar],.cells [(fzE false (eI .i64) p0.vars),(fzE false (eI .i64) p0.cards),(.sl 4 0 1 l4.length none l4.length)],.grow 1 (l4.map ((eI .i64).c true))]⟩
    refine EvL.jn T26 (fun a=>a=o26) ?_ ?_
    ·refine zab ?_;try simp only[rnA,Nat.reduceEqDiff,Nat.reduceLT]
     cases c11:(r8 == 0)
     ·rw[c11,cond_false]at j26;obtain⟨q12,g13,j26⟩:=bind_some j26;try simp only[rnA,Nat.reduceEqDiff,Nat.reduceLT,zj0 g13,zlU g13]
      replace j26:=qab j26; subst j26;exact lfj hT26 rfl (wm0 [.k,.k,.k,.k,.k] ⟨MB.cs ⟨qcj,qcj,qcj,qcj⟩,⟨MB.cs ⟨qcj,qcj,qcj,qcj⟩,⟨MB.cs ⟨qcj,qcj,qcj,qcj⟩,⟨MB.cs ⟨qcj,qcj,rfl,qcj⟩,⟨MB.gs (eI .i64) true l4,qcj⟩⟩⟩⟩⟩)
     rw[c11,cond_true]at j26;try simp only[rnA,Nat.reduceEqDiff,Nat.reduceLT]
     replace j26:=qab j26; subst j26;exact lfj hT26 rfl (wm0 [.k,.k,.k,.k,.k] ⟨MB.cs ⟨qcj,qcj,qcj,qcj⟩,⟨MB.cs ⟨qcj,qcj,qcj,qcj⟩,⟨MB.cs ⟨qcj,qcj,qcj,qcj⟩,⟨MB.cs ⟨qcj,qcj,rfl,qcj⟩,⟨MB.gs (eI .i64) true l4,qcj⟩⟩⟩⟩⟩)
    rintro v54 rfl;rw[congrFun hT26 v54];refine zab ?_;try simp only[rnA,Nat.reduceEqDiff]
    cases c14:v54
    ·rw[c14,cond_false]at j25;obtain⟨q15,g16,j25⟩:=bind_some j25;obtain⟨y17,g18,j25⟩:=bind_some j25;try simp only[rnA,Nat.reduceEqDiff,Nat.reduceLT,Nat.reduceAdd,Nat.reduceLeDiff,zji g16,zmd g16,zcn g18,(show l4.length+1=y17.length from zbx g18),(show l4.map ((eI .i64).c true)++ [[(dI q15)]]=y17.map ((eI .i64).c true)from zbJ g18 ((eI .i64).c true))]
     replace j25:=qab j25; subst j25;exact lfj hT25 rfl (wm0 [.k,.k,.k,.k,.k] ⟨MB.cs ⟨qcj,qcj,qcj,qcj⟩,⟨MB.cs ⟨qcj,qcj,qcj,qcj⟩,⟨MB.cs ⟨qcj,qcj,qcj,qcj⟩,⟨MB.cs ⟨qcj,qcj,rfl,qcj⟩,⟨MB.gs (eI .i64) true y17,qcj⟩⟩⟩⟩⟩)
    rw[c14,cond_true]at j25;try simp only[rnA,Nat.reduceEqDiff,Nat.reduceLT,Nat.reduceAdd,Nat.reduceLeDiff]
    replace j25:=qab j25; subst j25;dsimp only at j13;replace j13:=qab j13; subst j13;dsimp only at h;replace h:=qab h; subst h;exact zfy.ret rfl (Snp.zc3 (.cons (.zaF (.cons (zah (eI .i64)) (.cons (zah (eI .i64)) (.cons (zah (eI .i64)) .nil)))) (.cons (.lit _) .nil)))
   rw[c10,cond_true]at j25;obtain⟨y19,g20,j25⟩:=bind_some j25;try simp only[rnA,Nat.reduceEqDiff,Nat.reduceLT,Nat.reduceAdd,Nat.reduceLeDiff,zcn g20,(show l4.length+1=y19.length from zbx g20),(show l4.map ((eI .i64).c true)++ [[(dI 0)]]=y19.map ((eI .i64).c true)from zbJ g20 ((eI .i64).c true))]
   replace j25:=qab j25; subst j25;exact lfj hT25 rfl (wm0 [.k,.k,.k,.k,.k] ⟨MB.cs ⟨qcj,qcj,qcj,qcj⟩,⟨MB.cs ⟨qcj,qcj,qcj,qcj⟩,⟨MB.cs ⟨qcj,qcj,qcj,qcj⟩,⟨MB.cs ⟨qcj,qcj,rfl,qcj⟩,⟨MB.gs (eI .i64) true y19,qcj⟩⟩⟩⟩⟩)
  rintro l4' rfl;dsimp only at j13;rw[congrFun hT25 l4'];refine zab ?_;try simp only[rnA,Nat.reduceEqDiff,Nat.reduceLT]
  exact⟨((w64 (v8+1)),l4'),j13,by rw[hT23]; exact wm0 [.k,.k,.k,.k,.k] ⟨MB.cs ⟨qcj,qcj,qcj,qcj⟩,⟨MB.cs ⟨qcj,qcj,qcj,qcj⟩,⟨MB.cs ⟨qcj,qcj,qcj,qcj⟩,⟨MB.cs ⟨qcj,qcj,rfl,qcj⟩,⟨MB.gs (eI .i64) true l4',qcj⟩⟩⟩⟩⟩⟩
 rintro l4 rfl;dsimp only at h;rw[congrFun hT13 l4];refine zab ?_;try simp only[rnA,Nat.reduceEqDiff,Nat.reduceLT,Nat.reduceAdd,Nat.reduceLeDiff]
 replace h:=qab h; subst h;exact zfy.ret rfl (Snp.zc3 (.cons (.zaF (.cons (zaa _ _ (fun h=>nomatch h)) (.cons (zaa _ _ (fun h=>nomatch h)) (.cons (zbi (e:=(eI .i64)) (t:=true) rfl (.inr rfl) rfl rfl (fun k h=>nomatch h) (fun h=>nomatch h)) .nil)))) (.cons (.lit _) .nil)))
def zbn(p0:S_api_Factor)(p1:Int)(p2:S_api_Factor)(p3:Int):Option Bool:=
((bif (p3 == 0)then(
some (p2.vars,p2.cards,p2.w))
else(
some ([],[],[])):Option (((List Int)×(List Int)×(List Int))))).bind fun o=>match o with
|(b1_0,b1_1,b1_2)=>(
((bif (p1 == p3)then(
(zde p0 (S_api_Factor.mk b1_0 b1_1 b1_2)).bind fun r3=>
some r3)
else(
some false):Option Bool)).bind fun v8=>
some v8)
theorem zcl{p0:S_api_Factor}{p1:Int}{p2:S_api_Factor}{p3:Int}{r:Bool}(h:zbn p0 p1 p2 p3=some r):Lx.Fn mC 27 [(.agg [(fzE false (eI .i64) p0.vars),(fzE false (eI .i64) p0.cards),(fzE false (eI .i64) p0.w)]),(dI p1),(.agg [(fzE false (eI .i64) p2.vars),(fzE false (eI .i64) p2.cards),(fzE false (eI .i64) p2.w)]),(dI p3)] (dB r):=by
 refine fnO (by conv=>lhs; cbv) ?_;unfold zbn at h;refine zab ?_;try simp only[rnA,Nat.reduceEqDiff,Nat.reduceLT,Nat.reduceAdd,reduceCtorEq]
 obtain⟨o1,j1,h⟩:=bind_some h;obtain⟨T1,hT1⟩:=mkT fun a:((List Int)×(List Int)×(List Int))=>⟨20,[(1,(dI p1)),(3,(dI p3)),(4,(.ptr 0 0)),(6,(.ptr 1 0))],[.cells [(fzE false (eI .i64) p0.vars),(fzE false (eI .i64) p0.cards),(fzE false (eI .i64) p0.w)],.cells [(fzE false (eI .i64) a.1),(fzE false (eI .i64) a.2.1),(fzE false (eI .i64) a.2.2)]]⟩
 refine EvL.jn T1 (fun a=>a=o1) ?_ ?_
 ·refine zab ?_;try simp only[rnA,Nat.reduceEqDiff,reduceCtorEq]
  cases c1:(p3 == 0)
  ·rw[c1,cond_false]at j1;try simp only[rnA,Nat.reduceEqDiff,Nat.reduceLT,Nat.reduceAdd,Nat.reduceLeDiff,reduceCtorEq]
   replace j1:=qab j1; subst j1;exact lfj hT1 rfl (wm0 [.k,.k] ⟨MB.cs ⟨qcj,qcj,qcj,qcj⟩,⟨MB.zuB (.cons (.fr (zf3 (eI .i64))) (.cons (.fr (zf3 (eI .i64))) (.cons (.fr (zf3 (eI .i64))) .nil))),qcj⟩⟩)
  rw[c1,cond_true]at j1;try simp only[rnA]
  replace j1:=qab j1; subst j1;exact lfj hT1 rfl (wm0 [.k,.k] ⟨MB.cs ⟨qcj,qcj,qcj,qcj⟩,⟨MB.cs ⟨qcj,qcj,qcj,qcj⟩,qcj⟩⟩)
 rintro⟨b1_0,b1_1,b1_2⟩ rfl;dsimp only at h;rw[congrFun hT1 (b1_0,b1_1,b1_2)];refine zab ?_;try simp only[rnA]
 obtain⟨o2,j2,h⟩:=bind_some h;obtain⟨T2,hT2⟩:=mkT fun a:Bool=>⟨20,[(8,(dB a))],[]⟩
 refine EvL.jn T2 (fun a=>a=o2) ?_ ?_
 ·refine zab ?_;try simp only[rnA,Nat.reduceEqDiff,Nat.reduceLT]
  cases c2:(p1 == p3)
  ·rw[c2,cond_false]at j2;try simp only[rnA,Nat.reduceEqDiff,Nat.reduceLT]
   refine EvL.skip rfl ?_;try simp only[rnA,Nat.reduceEqDiff,Nat.reduceLT]
   replace j2:=qab j2; subst j2;exact lfj hT2 rfl (wm0 [] (by exact trivial))
  rw[c2,cond_true]at j2;obtain⟨r3,g4,j2⟩:=bind_some j2;try simp only[rnA,Nat.reduceEqDiff,Nat.reduceLT,Nat.reduceAdd,Nat.reduceLeDiff]
  refine EvL.fn (zfK g4) rfl rfl (.cons (.zaF (.cons (zaa _ _ (fun h=>nomatch h)) (.cons (zaa _ _ (fun h=>nomatch h)) (.cons (zaa _ _ (fun h=>nomatch h)) .nil)))) (.cons (.zaF (.cons (zaa _ _ (fun h=>nomatch h)) (.cons (zaa _ _ (fun h=>nomatch h)) (.cons (zaa _ _ (fun h=>nomatch h)) .nil)))) .nil)) ?_;try simp only[rnA,Nat.reduceEqDiff,Nat.reduceLT]
  replace j2:=qab j2; subst j2;exact lfj hT2 rfl (wm0 [] (by exact trivial))
 rintro v8 rfl;rw[congrFun hT2 v8];refine zab ?_;try simp only[rnA]
 replace h:=qab h; subst h;exact zbB.ret rfl (.lit _)
end Go.Dc
