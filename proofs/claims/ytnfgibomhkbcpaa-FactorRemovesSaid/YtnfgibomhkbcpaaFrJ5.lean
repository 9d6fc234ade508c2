/-
 What r02_Right computes. Conditions: none.
-/
import Derived.Test.YtnfgibomhkbcpaaFrJ3
set_option linter.unusedSimpArgs false
set_option linter.unusedVariables false
set_option maxRecDepth 100000
set_option maxHeartbeats 4000000
namespace Go.Dc
open Go Go.Mx Go.Lx Go.Proofs
def zcT(p0:(List Int)):Nat→Int→Int→Option (Out Unit Bool)
 | 0,_,_=>none
 | n+1,v3,v4=>(
bif (decide (v4<(p0.length:Int)))then(
(((za4 p0 v4).bind fun x3=>
bif (decide (x3<1))then(
some true)
else(
some (decide (8<x3))):Option Bool)).bind fun v25=>
bif v25 then(
some (.ret false))
else(
(za4 p0 v4).bind fun x7=>
bif (decide (4096<(w64 (v3 * x7))))then(
some (.ret false))
else(
zcT p0 n (w64 (v3 * x7)) (w64 (v4+1)))))
else(
some (.go ())))
def zdS(p0:(List Int)):Option Bool:=
bif (decide (12<(p0.length:Int)))then(
some false)
else(
((zcT p0 ((p0.length:Int) - 0+2:Int).toNat 1 0:Option (Out Unit Bool))).bind fun o=>match o with
| .go _=>(
some true)
| .ret r=>some r)
theorem zll{p0:(List Int)}{r:Bool}(h:zdS p0=some r):Lx.Fn mC 88 [(fzE false (eI .i64) p0)] (dB r):=by
 refine fnO (by conv=>lhs; cbv) ?_;unfold zdS at h;refine zaa ?_;try simp only[rnA,Nat.reduceEqDiff,Nat.reduceLT,reduceCtorEq,zaw]
 cases c1:(decide (12<(p0.length:Int)))
 ·rw[c1,cond_false]at h;try simp only[rnA,Nat.reduceLT]
  obtain⟨o4,j4,h⟩:=bind_some h;obtain⟨T4,hT4⟩:=mkT fun a:Unit=>⟨34,[],[]⟩
  refine EvL.jn T4 (fun a=>o4=.go a) ?_ ?_
  ·refine zaa ?_;simp only[rnA];obtain⟨T7,hT7⟩:=mkT fun a:(Int×Int)=>⟨34,[(0,(fzE false (eI .i64) p0)),(3,(dI a.1)),(4,(dI a.2))],[]⟩
   refine EvL.rounds (α:=(Int×Int)) T7 (fun n a=>zcT p0 n a.1 a.2=some o4) ((p0.length:Int) - 0+2:Int).toNat (1,0) (by rw[hT7]; exact wm0 [] (by exact trivial)) j4 (fun _ h=>nomatch (show(none:Option (Out Unit Bool))=some o4 from h)) ?_;rintro n ⟨v3,v4⟩ j4;simp only[zcT]at j4;rw[congrFun hT7 (v3,v4)];refine zaa ?_;try simp only[rnA,Nat.reduceEqDiff,Nat.reduceLT,reduceCtorEq,zaw]
   cases c2:(decide (v4<(p0.length:Int)))
   ·rw[c2,cond_false]at j4;try simp only[rnA]
    replace j4:=qab j4; subst j4;exact lfj hT4 rfl (wm0 [] (by exact trivial))
   rw[c2,cond_true]at j4;try simp only[rnA]
   obtain⟨o8,j8,j4⟩:=bind_some j4;obtain⟨T8,hT8⟩:=mkT fun a:Bool=>⟨34,[(0,(fzE false (eI .i64) p0)),(3,(dI v3)),(4,(dI v4)),(25,(dB a))],[]⟩
   refine EvL.jn T8 (fun a=>a=o8) ?_ ?_
   ·refine zaa ?_;obtain⟨x3,g4,j8⟩:=bind_some j8;try simp only[rnA,Nat.reduceEqDiff,Nat.reduceLT,reduceCtorEq,zam (n:=1) (e:=(eI .i64)) rfl g4]
    cases c5:(decide (x3<1))
    ·rw[c5,cond_false]at j8;try simp only[rnA,Nat.reduceEqDiff,Nat.reduceLT,reduceCtorEq,zam (n:=1) (e:=(eI .i64)) rfl g4]
     replace j8:=qab j8; subst j8;exact lfj hT8 rfl (wm0 [] (by exact trivial))
    rw[c5,cond_true]at j8;try simp only[rnA,Nat.reduceEqDiff,Nat.reduceLT,reduceCtorEq]
    replace j8:=qab j8; subst j8;exact lfj hT8 rfl (wm0 [] (by exact trivial))
   rintro v25 rfl;rw[congrFun hT8 v25];refine zaa ?_;try simp only[rnA,Nat.reduceEqDiff,reduceCtorEq]
   cases c6:v25
   ·rw[c6,cond_false]at j4;obtain⟨x7,g8,j4⟩:=bind_some j4;try simp only[rnA,Nat.reduceEqDiff,Nat.reduceLT,reduceCtorEq,zam (n:=1) (e:=(eI .i64)) rfl g8]
    cases c9:(decide (4096<(w64 (v3 * x7))))
    ·rw[c9,cond_false]at j4;try simp only[rnA,Nat.reduceEqDiff,Nat.reduceLT,reduceCtorEq]
     exact⟨((w64 (v3 * x7)),(w64 (v4+1))),j4,by rw[hT7]; exact wm0 [] (by exact trivial)⟩
    rw[c9,cond_true]at j4;try simp only[rnA,Nat.reduceLT]
    replace j4:=qab j4; subst j4;dsimp only at h;replace h:=qab h; subst h;exact zbI.ret rfl (.lit _)
   rw[c6,cond_true]at j4;try simp only[rnA,Nat.reduceLT]
   replace j4:=qab j4; subst j4;dsimp only at h;replace h:=qab h; subst h;exact zbI.ret rfl (.lit _)
  rintro⟨⟩ rfl;dsimp only at h;rw[congrFun hT4 ()];refine zaa ?_;try simp only[rnA,Nat.reduceLT]
  replace h:=qab h; subst h;exact zbI.ret rfl (.lit _)
 rw[c1,cond_true]at h;try simp only[rnA,Nat.reduceLT]
 replace h:=qab h; subst h;exact zbI.ret rfl (.lit _)
def zcd(p0:S_api_Factor):Nat→Int→Option (Out Unit Bool)
 | 0,_=>none
 | n+1,v3=>(
bif (decide (v3<(p0.vars.length:Int)))then(
(((za4 p0.vars v3).bind fun x9=>
bif (decide (x9<0))then(
some true)
else(
bif (decide (63<x9))then(
some true)
else(
bif (decide (0<v3))then(
(za4 p0.vars (w64 (v3 - 1))).bind fun x14=>
some (decide (x9≤x14)))
else(
some false))):Option Bool)).bind fun v65=>
bif v65 then(
some (.ret false))
else(
zcd p0 n (w64 (v3+1))))
else(
some (.go ())))
def zcH(p0:S_api_Factor):Nat→Int→Option (Out Unit Bool)
 | 0,_=>none
 | n+1,v4=>(
bif (decide (v4<(p0.w.length:Int)))then(
(((za4 p0.w v4).bind fun x18=>
bif (decide (x18<0))then(
some true)
else(
some (decide (4611686018427387903<x18))):Option Bool)).bind fun v86=>
bif v86 then(
some (.ret false))
else(
zcH p0 n (w64 (v4+1))))
else(
some (.go ())))
def zd1(p0:S_api_Factor):Option Bool:=
(((zdS p0.cards).bind fun r1=>
bif r1 then(
bif ((p0.vars.length:Int)==(p0.cards.length:Int))then(
(zcO p0.cards).bind fun r5=>
some (!((p0.w.length:Int)== r5)))
else(
some true))
else(
some true):Option Bool)).bind fun v26=>
bif v26 then(
some false)
else(
((zcd p0 ((p0.vars.length:Int) - 0+2:Int).toNat 0:Option (Out Unit Bool))).bind fun o=>match o with
| .go _=>(
((zcH p0 ((p0.w.length:Int) - 0+2:Int).toNat 0:Option (Out Unit Bool))).bind fun o=>match o with
| .go _=>(
some true)
| .ret r=>some r)
| .ret r=>some r)
def zhx:C:=
 .seq (rg [oW 1 0,
 oJ 2 false])
 (.seq (.seq (.scope (.reg true true [oF 5 1 1,
 oL 6 5,
 oU 7 88 6,
 ⟨some 8,.un .not (.s 7),none⟩,
 oM 9 8,
 oFg 10 0 1 9 false,
 oLg 11 10 9 false,
 ⟨some 12,.len (.s 11),some (9,false)⟩,
 oFg 13 1 1 9 false,
 oLg 14 13 9 false,
 ⟨some 15,.len (.s 14),some (9,false)⟩,
 ⟨some 16,.bin .neq (.s 12) (.s 15),some (9,false)⟩,
 oP 17 9 16,
 oM 18 17,
 oFg 19 2 1 18 false,
 oLg 20 19 18 false,
 ⟨some 21,.len (.s 20),some (18,false)⟩,
 oFg 22 1 1 18 false,
 oLg 23 22 18 false,
 ⟨some 24,.call 82 [(.s 23)],some (18,false)⟩,
 ⟨some 25,.bin .neq (.s 21) (.s 24),some (18,false)⟩,
 oP 26 18 25]))
 (.cond (.s 26) (.seq (rg [oJ 2 false])
 (.ret))
 (.skip)))
 (.seq (.seq (rg [oK 3 0])
 (.scope (.block 0 (.loop (.seq (.seq (rg [oM 27 3,
 oF 28 0 1,
 oL 29 28,
 oE 30 29,
 oB 31 .lss 27 30])
 (.cond (.s 31) (.skip)
 (.exit 0)))
 (.seq (.block 1 (.seq (.scope (.reg true false [oF 34 0 1,
 oL 35 34,
 oM 36 3,
 oI 37 1 35 36,
 oL 38 37,
 oD 39 .lss 38 0,
 oM 40 39,
 oFg 41 0 1 40 false,
 oLg 42 41 40 false,
 oMg 43 3 40 false,
 ⟨some 44,.idxS 1 (.s 42) (.s 43),some (40,false)⟩,
 oLg 45 44 40 false,
 oDg 46 .gtr 45 63 40 false,
 oP 47 40 46,
 oM 48 47,
 oMg 49 3 48 false,
 oDg 50 .gtr 49 0 48 false,
 oMg 51 50 48 false,
 oFg 52 0 1 51 true,
 oLg 53 52 51 true,
 oMg 54 3 51 true,
 ⟨some 55,.idxS 1 (.s 53) (.s 54),some (51,true)⟩,
 oLg 56 55 51 true,
 oFg 57 0 1 51 true,
 oLg 58 57 51 true,
 oMg 59 3 51 true,
 oDg 60 .sub 59 1 51 true,
 ⟨some 61,.idxS 1 (.s 58) (.s 60),some (51,true)⟩,
 oLg 62 61 51 true,
 ⟨some 63,.bin .leq (.s 56) (.s 62),some (51,true)⟩,
 ⟨some 64,.pick (.s 51) (.s 63) (.c (.bool false)),some (48,false)⟩,
 oP 65 48 64]))
 (.cond (.s 65) (.seq (rg [oJ 2 false])
 (.ret))
 (.skip))))
 (rg [oM 32 3,
 oD 33 .add 32 1,
 oM 3 33])))))))
 (.seq (.seq (rg [oK 4 0])
 (.scope (.block 2 (.loop (.seq (.seq (rg [oM 66 4,
 oF 67 2 1,
 oL 68 67,
 oE 69 68,
 oB 70 .lss 66 69])
 (.cond (.s 70) (.skip)
 (.exit 2)))
 (.seq (.block 3 (.seq (.scope (rg [oF 73 2 1,
 oL 74 73,
 oM 75 4,
 oI 76 1 74 75,
 oL 77 76,
 oD 78 .lss 77 0,
 oM 79 78,
 oFg 80 2 1 79 false,
 oLg 81 80 79 false,
 oMg 82 4 79 false,
 ⟨some 83,.idxS 1 (.s 81) (.s 82),some (79,false)⟩,
 oLg 84 83 79 false,
 oDg 85 .gtr 84 4611686018427387903 79 false,
 oP 86 79 85]))
 (.cond (.s 86) (.seq (rg [oJ 2 false])
 (.ret))
 (.skip))))
 (rg [oM 71 4,
 oD 72 .add 71 1,
 oM 4 72])))))))
 (.seq (rg [oJ 2 true])
 (.ret)))))
theorem zjd:zg2 mC 23=some (87,zhx,[.tmp 2],false):=za2 (by kernel_rfl)
theorem zkO{p0:S_api_Factor}{r:Bool}(h:zd1 p0=some r):Lx.Fn mC 23 [(.agg [(fzE false (eI .i64) p0.vars),(fzE false (eI .i64) p0.cards),(fzE false (eI .i64) p0.w)])] (dB r):=by
 refine Fn.of zjd (zaW rfl) (qad rfl) ?_;unfold zd1 at h;simp only[zhx,zjB];refine zaa ?_;try simp only[rnA,Nat.reduceLT]
 obtain⟨o1,j1,h⟩:=bind_some h;obtain⟨T1,hT1⟩:=mkT fun a:Bool=>⟨87,[(1,(.ptr 0 0)),(26,(dB a))],[.cells [(fzE false (eI .i64) p0.vars),(fzE false (eI .i64) p0.cards),(fzE false (eI .i64) p0.w)]]⟩
 refine EvL.jn T1 (fun a=>a=o1) ?_ ?_
 ·refine zaa ?_;obtain⟨r1,g2,j1⟩:=bind_some j1;try simp only[rnA,Nat.reduceEqDiff,Nat.reduceLT,reduceCtorEq]
  refine EvL.fn (zll g2) rfl rfl (.cons (zab _ _ (fun h=>nomatch h)) .nil) ?_;try simp only[rnA,Nat.reduceEqDiff,Nat.reduceLT,reduceCtorEq]
  cases c3:r1
  ·rw[c3,cond_false]at j1;try simp only[rnA,Nat.reduceEqDiff,Nat.reduceLT,reduceCtorEq]
   refine EvL.skip rfl ?_;try simp only[rnA,Nat.reduceEqDiff,Nat.reduceLT,reduceCtorEq]
   replace j1:=qab j1; subst j1;exact lfj hT1 rfl (wm0 [.k] ⟨MB.cs ⟨qcj,qcj,qcj,qcj⟩,qcj⟩)
  rw[c3,cond_true]at j1;try simp only[rnA,Nat.reduceEqDiff,Nat.reduceLT,reduceCtorEq,zaw]
  cases c4:((p0.vars.length:Int)==(p0.cards.length:Int))
  ·rw[c4,cond_false]at j1;try simp only[rnA,Nat.reduceEqDiff,Nat.reduceLT,reduceCtorEq]
   refine EvL.skip rfl ?_;try simp only[rnA,Nat.reduceEqDiff,Nat.reduceLT,reduceCtorEq]
   replace j1:=qab j1; subst j1;exact lfj hT1 rfl (wm0 [.k] ⟨MB.cs ⟨qcj,qcj,qcj,qcj⟩,qcj⟩)
  rw[c4,cond_true]at j1;obtain⟨r5,g6,j1⟩:=bind_some j1;try simp only[rnA,Nat.reduceEqDiff,Nat.reduceLT,reduceCtorEq,zaw]
  refine EvL.fn (zfQ g6) rfl rfl (.cons (zab _ _ (fun h=>nomatch h)) .nil) ?_;try simp only[rnA,Nat.reduceEqDiff,Nat.reduceLT,reduceCtorEq]
  replace j1:=qab j1; subst j1;exact lfj hT1 rfl (wm0 [.k] ⟨MB.cs ⟨qcj,qcj,qcj,qcj⟩,qcj⟩)
 rintro v26 rfl;rw[congrFun hT1 v26];refine zaa ?_;try simp only[rnA,Nat.reduceEqDiff]
 cases c7:v26
 ·rw[c7,cond_false]at h;try simp only[rnA,Nat.reduceLT]
  obtain⟨o5,j5,h⟩:=bind_some h;obtain⟨T5,hT5⟩:=mkT fun a:Unit=>⟨87,[(1,(.ptr 0 0))],[.cells [(fzE false (eI .i64) p0.vars),(fzE false (eI .i64) p0.cards),(fzE false (eI .i64) p0.w)]]⟩
  refine EvL.jn T5 (fun a=>o5=.go a) ?_ ?_
  ·refine zaa ?_;simp only[rnA];obtain⟨T8,hT8⟩:=mkT fun a:Int=>⟨87,[(1,(.ptr 0 0)),(3,(dI a))],[.cells [(fzE false (eI .i64) p0.vars),(fzE false (eI .i64) p0.cards),(fzE false (eI .i64) p0.w)]]⟩
   refine EvL.rounds (α:=Int) T8 (fun n a=>zcd p0 n a=some o5) ((p0.vars.length:Int) - 0+2:Int).toNat 0 (by rw[hT8]; exact wm0 [.k] ⟨MB.cs ⟨qcj,qcj,qcj,qcj⟩,qcj⟩) j5 (fun _ h=>nomatch (show(none:Option (Out Unit Bool))=some o5 from h)) ?_;rintro n v3 j5;simp only[zcd]at j5;rw[congrFun hT8 v3];refine zaa ?_;try simp only[rnA,Nat.reduceEqDiff,Nat.reduceLT,zaw]
   cases c8:(decide (v3<(p0.vars.length:Int)))
   ·rw[c8,cond_false]at j5;try simp only[rnA]
    replace j5:=qab j5; subst j5;exact lfj hT5 rfl (wm0 [.k] ⟨MB.cs ⟨qcj,qcj,qcj,qcj⟩,qcj⟩)
   rw[c8,cond_true]at j5;try simp only[rnA]
   obtain⟨o9,j9,j5⟩:=bind_some j5;obtain⟨T9,hT9⟩:=mkT fun a:Bool=>⟨87,[(1,(.ptr 0 0)),(3,(dI v3)),(65,(dB a))],[.cells [(fzE false (eI .i64) p0.vars),(fzE false (eI .i64) p0.cards),(fzE false (eI .i64) p0.w)]]⟩
   refine EvL.jn T9 (fun a=>a=o9) ?_ ?_
   ·refine zaa ?_;obtain⟨x9,g10,j9⟩:=bind_some j9;try simp only[rnA,Nat.reduceEqDiff,Nat.reduceLT,zam (n:=1) (e:=(eI .i64)) rfl g10]
    cases c11:(decide (x9<0))
    ·rw[c11,cond_false]at j9;try simp only[rnA,Nat.reduceEqDiff,Nat.reduceLT,zam (n:=1) (e:=(eI .i64)) rfl g10]
     cases c12:(decide (63<x9))
     ·rw[c12,cond_false]at j9;try simp only[rnA,Nat.reduceEqDiff,Nat.reduceLT]
      cases c13:(decide (0<v3))
      ·rw[c13,cond_false]at j9;try simp only[rnA,Nat.reduceEqDiff,Nat.reduceLT]
       replace j9:=qab j9; subst j9;exact lfj hT9 rfl (wm0 [.k] ⟨MB.cs ⟨qcj,qcj,qcj,qcj⟩,qcj⟩)
      rw[c13,cond_true]at j9;obtain⟨x14,g15,j9⟩:=bind_some j9;try simp only[rnA,Nat.reduceEqDiff,Nat.reduceLT,zam (n:=1) (e:=(eI .i64)) rfl g10,zam (n:=1) (e:=(eI .i64)) rfl g15]
      replace j9:=qab j9; subst j9;exact lfj hT9 rfl (wm0 [.k] ⟨MB.cs ⟨qcj,qcj,qcj,qcj⟩,qcj⟩)
     rw[c12,cond_true]at j9;try simp only[rnA,Nat.reduceEqDiff,Nat.reduceLT]
     replace j9:=qab j9; subst j9;exact lfj hT9 rfl (wm0 [.k] ⟨MB.cs ⟨qcj,qcj,qcj,qcj⟩,qcj⟩)
    rw[c11,cond_true]at j9;try simp only[rnA,Nat.reduceEqDiff,Nat.reduceLT]
    replace j9:=qab j9; subst j9;exact lfj hT9 rfl (wm0 [.k] ⟨MB.cs ⟨qcj,qcj,qcj,qcj⟩,qcj⟩)
   rintro v65 rfl;rw[congrFun hT9 v65];refine zaa ?_;try simp only[rnA,Nat.reduceEqDiff]
   cases c16:v65
   ·rw[c16,cond_false]at j5;try simp only[rnA,Nat.reduceEqDiff,Nat.reduceLT]
    exact⟨(w64 (v3+1)),j5,by rw[hT8]; exact wm0 [.k] ⟨MB.cs ⟨qcj,qcj,qcj,qcj⟩,qcj⟩⟩
   rw[c16,cond_true]at j5;try simp only[rnA,Nat.reduceLT]
   replace j5:=qab j5; subst j5;dsimp only at h;replace h:=qab h; subst h;exact zbI.ret rfl (.lit _)
  rintro⟨⟩ rfl;dsimp only at h;rw[congrFun hT5 ()];refine zaa ?_;try simp only[rnA,Nat.reduceLT]
  obtain⟨o13,j13,h⟩:=bind_some h;obtain⟨T13,hT13⟩:=mkT fun a:Unit=>⟨87,[],[]⟩
  refine EvL.jn T13 (fun a=>o13=.go a) ?_ ?_
  ·refine zaa ?_;simp only[rnA];obtain⟨T16,hT16⟩:=mkT fun a:Int=>⟨87,[(1,(.ptr 0 0)),(4,(dI a))],[.cells [(fzE false (eI .i64) p0.vars),(fzE false (eI .i64) p0.cards),(fzE false (eI .i64) p0.w)]]⟩
   refine EvL.rounds (α:=Int) T16 (fun n a=>zcH p0 n a=some o13) ((p0.w.length:Int) - 0+2:Int).toNat 0 (by rw[hT16]; exact wm0 [.k] ⟨MB.cs ⟨qcj,qcj,qcj,qcj⟩,qcj⟩) j13 (fun _ h=>nomatch (show(none:Option (Out Unit Bool))=some o13 from h)) ?_;rintro n v4 j13;simp only[zcH]at j13;rw[congrFun hT16 v4];refine zaa ?_;try simp only[rnA,Nat.reduceEqDiff,Nat.reduceLT,zaw]
   cases c17:(decide (v4<(p0.w.length:Int)))
   ·rw[c17,cond_false]at j13;try simp only[rnA]
    replace j13:=qab j13; subst j13;exact lfj hT13 rfl (wm0 [] (by exact trivial))
   rw[c17,cond_true]at j13;try simp only[rnA]
   obtain⟨o17,j17,j13⟩:=bind_some j13;obtain⟨T17,hT17⟩:=mkT fun a:Bool=>⟨87,[(1,(.ptr 0 0)),(4,(dI v4)),(86,(dB a))],[.cells [(fzE false (eI .i64) p0.vars),(fzE false (eI .i64) p0.cards),(fzE false (eI .i64) p0.w)]]⟩
   refine EvL.jn T17 (fun a=>a=o17) ?_ ?_
   ·refine zaa ?_;obtain⟨x18,g19,j17⟩:=bind_some j17;try simp only[rnA,Nat.reduceEqDiff,Nat.reduceLT,zam (n:=1) (e:=(eI .i64)) rfl g19]
    cases c20:(decide (x18<0))
    ·rw[c20,cond_false]at j17;try simp only[rnA,Nat.reduceEqDiff,Nat.reduceLT,zam (n:=1) (e:=(eI .i64)) rfl g19]
     replace j17:=qab j17; subst j17;exact lfj hT17 rfl (wm0 [.k] ⟨MB.cs ⟨qcj,qcj,qcj,qcj⟩,qcj⟩)
    rw[c20,cond_true]at j17;try simp only[rnA,Nat.reduceEqDiff,Nat.reduceLT]
    replace j17:=qab j17; subst j17;exact lfj hT17 rfl (wm0 [.k] ⟨MB.cs ⟨qcj,qcj,qcj,qcj⟩,qcj⟩)
   rintro v86 rfl;rw[congrFun hT17 v86];refine zaa ?_;try simp only[rnA,Nat.reduceEqDiff]
   cases c21:v86
   ·rw[c21,cond_false]at j13;try simp only[rnA,Nat.reduceEqDiff,Nat.reduceLT]
    exact⟨(w64 (v4+1)),j13,by rw[hT16]; exact wm0 [.k] ⟨MB.cs ⟨qcj,qcj,qcj,qcj⟩,qcj⟩⟩
   rw[c21,cond_true]at j13;try simp only[rnA,Nat.reduceLT]
   replace j13:=qab j13; subst j13;dsimp only at h;replace h:=qab h; subst h;exact zbI.ret rfl (.lit _)
  rintro⟨⟩ rfl;dsimp only at h;rw[congrFun hT13 ()];refine zaa ?_;try simp only[rnA,Nat.reduceLT]
  replace h:=qab h; subst h;exact zbI.ret rfl (.lit _)
 rw[c7,cond_true]at h;try simp only[rnA,Nat.reduceLT]
 replace h:=qab h; subst h;exact zbI.ret rfl (.lit _)
def zdc(p0:(List Int)):Nat→(List Int)→Bool→(List (List Int))→Option (List (List Int))
 | 0,_,_,_=>none
 | n+1,v4,v5,l1=>(
bif v5 then(
(zeZ 24 l1 [v4]).bind fun y4=>
(zew p0 v4).bind fun r6=>
zdc p0 n r6.1 r6.2 y4)
else(
some l1))
def zfr(N:Nat)(p0:(List Int)):Option (List (List Int)):=
(zd8 8 (p0.length:Int) 0).bind fun y1=>
((zdc p0 N y1 true []:Option (List (List Int)))).bind fun l1=>
some l1
theorem znF{N:Nat}{p0:(List Int)}{r:(List (List Int))}(h:zfr N p0=some r):Lx.Fn mC 85 [(fzE false (eI .i64) p0)] (fzE true (eL (eI .i64)) r):=by
 refine fnO (by conv=>lhs; cbv) ?_;unfold zfr at h;refine zaa ?_;obtain⟨y1,g2,h⟩:=bind_some h;try simp only[rnA,Nat.reduceEqDiff,Nat.reduceLT,reduceCtorEq,zaw,(zaq g2).1.1,(zaq g2).1.2,qbp,(show List.replicate (Int.toNat (p0.length:Int)) [(dI 0)]=y1.map ((eI .i64).c true)from zbp g2 ((eI .i64).c true))]
 obtain⟨o1,j1,h⟩:=bind_some h;obtain⟨T1,hT1⟩:=mkT fun a:(List (List Int))=>⟨21,[(3,(.sl 1 0 1 a.length none a.length))],[.gone,.grow 1 (a.map ((eL (eI .i64)).c true))]⟩
 refine EvL.jn T1 (fun a=>a=o1) ?_ ?_
 ·refine zaa ?_;simp only[rnA];obtain⟨T2,hT2⟩:=mkT fun a:((List Int)×Bool×(List (List Int)))=>⟨21,[(0,(fzE false (eI .i64) p0)),(3,(.sl 1 0 1 a.2.2.length none a.2.2.length)),(4,(fzE true (eI .i64) a.1)),(5,(dB a.2.1))],[.gone,.grow 1 (a.2.2.map ((eL (eI .i64)).c true))]⟩
  refine EvL.zeI (zby.ghost (n:=1) (k:=3) (by decide) rfl) ?_;refine EvL.rounds (α:=((List Int)×Bool×(List (List Int)))) T2 (fun n a=>zdc p0 n a.1 a.2.1 a.2.2=some o1) N (y1,true,[]) (by rw[hT2]; exact zby.m0 [.f,.k] rfl (msq (msq (mf rfl (za5 (e:=(eI .i64)) (t:=true) rfl rfl (.inl rfl) (zbc g2).symm (zbc g2).symm (fun k h=>by cases h; exact qah _) (fun h=>by cases h<;>rfl)) (msq trivial)))) ⟨rfl,⟨MB.gs (eL (eI .i64)) true [],qcj⟩⟩) j1 (fun _ h=>nomatch (show(none:Option (List (List Int)))=some o1 from h)) ?_;rintro n ⟨v4,v5,l1⟩ j1;simp only[zdc]at j1;rw[congrFun hT2 (v4,v5,l1)];refine zaa ?_;try simp only[rnA,Nat.reduceEqDiff,Nat.reduceLT,reduceCtorEq]
  cases c3:v5
  ·rw[c3,cond_false]at j1;try simp only[rnA]
   replace j1:=qab j1; subst j1;exact lfj hT1 rfl (wm0 [.d,.k] ⟨rfl,⟨MB.gs (eL (eI .i64)) true l1,qcj⟩⟩)
  rw[c3,cond_true]at j1;obtain⟨y4,g5,j1⟩:=bind_some j1;obtain⟨r6,g7,j1⟩:=bind_some j1;try simp only[rnA,Nat.reduceEqDiff,Nat.reduceLT,Nat.reduceAdd,Nat.reduceLeDiff,reduceCtorEq,zdq g5,(show l1.length+1=y4.length from zcn g5),(show l1.map ((eL (eI .i64)).c true)++ [[(fzE true (eI .i64) v4)]]=y4.map ((eL (eI .i64)).c true)from zcw g5 ((eL (eI .i64)).c true))]
  refine EvL.fn (zlX g7) rfl rfl (.cons (zab _ _ (fun h=>nomatch h)) (.cons (zab _ _ (fun h=>nomatch h)) .nil)) ?_;try simp only[rnA,Nat.reduceEqDiff,Nat.reduceLT,reduceCtorEq]
  exact⟨(r6.1,r6.2,y4),j1,by rw[hT2]; exact wm0 [.d,.k] ⟨rfl,⟨MB.gs (eL (eI .i64)) true y4,qcj⟩⟩⟩
 rintro l1 rfl;rw[congrFun hT1 l1];refine zaa ?_;try simp only[rnA,Nat.reduceEqDiff,Nat.reduceLT]
 replace h:=qab h; subst h;exact zbI.ret rfl (zbb (e:=(eL (eI .i64))) (t:=true) rfl (.inr rfl) rfl rfl (fun k h=>nomatch h) (fun _=>rfl))
def zbe(p0:S_api_Factor)(p1:Int)(p2:S_api_Factor)(p3:Int):Option Bool:=
((bif (p3 == 0)then(
some (p2.vars,p2.cards,p2.w))
else(
some ([],[],[])):Option (((List Int)×(List Int)×(List Int))))).bind fun o=>match o with
|(b1_0,b1_1,b1_2)=>(
((bif (p1 == p3)then(
(zdb p0 (S_api_Factor.mk b1_0 b1_1 b1_2)).bind fun r3=>
some r3)
else(
some false):Option Bool)).bind fun v8=>
some v8)
theorem zcB{p0:S_api_Factor}{p1:Int}{p2:S_api_Factor}{p3:Int}{r:Bool}(h:zbe p0 p1 p2 p3=some r):Lx.Fn mC 27 [(.agg [(fzE false (eI .i64) p0.vars),(fzE false (eI .i64) p0.cards),(fzE false (eI .i64) p0.w)]),(dI p1),(.agg [(fzE false (eI .i64) p2.vars),(fzE false (eI .i64) p2.cards),(fzE false (eI .i64) p2.w)]),(dI p3)] (dB r):=by
 refine fnO (by conv=>lhs; cbv) ?_;unfold zbe at h;refine zaa ?_;try simp only[rnA,Nat.reduceEqDiff,Nat.reduceLT,Nat.reduceAdd,reduceCtorEq]
 obtain⟨o1,j1,h⟩:=bind_some h;obtain⟨T1,hT1⟩:=mkT fun a:((List Int)×(List Int)×(List Int))=>⟨20,[(1,(dI p1)),(3,(dI p3)),(4,(.ptr 0 0)),(6,(.ptr 1 0))],[.cells [(fzE false (eI .i64) p0.vars),(fzE false (eI .i64) p0.cards),(fzE false (eI .i64) p0.w)],.cells [(fzE false (eI .i64) a.1),(fzE false (eI .i64) a.2.1),(fzE false (eI .i64) a.2.2)]]⟩
 refine EvL.jn T1 (fun a=>a=o1) ?_ ?_
 ·refine zaa ?_;try simp only[rnA,Nat.reduceEqDiff,reduceCtorEq]
  cases c1:(p3 == 0)
  ·rw[c1,cond_false]at j1;try simp only[rnA,Nat.reduceEqDiff,Nat.reduceLT,Nat.reduceAdd,Nat.reduceLeDiff,reduceCtorEq]
   replace j1:=qab j1; subst j1;exact lfj hT1 rfl (wm0 [.k,.k] ⟨MB.cs ⟨qcj,qcj,qcj,qcj⟩,⟨MB.zuW (.cons (.fr (zgC (eI .i64))) (.cons (.fr (zgC (eI .i64))) (.cons (.fr (zgC (eI .i64))) .nil))),qcj⟩⟩)
  rw[c1,cond_true]at j1;try simp only[rnA]
  replace j1:=qab j1; subst j1;exact lfj hT1 rfl (wm0 [.k,.k] ⟨MB.cs ⟨qcj,qcj,qcj,qcj⟩,⟨MB.cs ⟨qcj,qcj,qcj,qcj⟩,qcj⟩⟩)
 rintro⟨b1_0,b1_1,b1_2⟩ rfl;dsimp only at h;rw[congrFun hT1 (b1_0,b1_1,b1_2)];refine zaa ?_;try simp only[rnA]
 obtain⟨o2,j2,h⟩:=bind_some h;obtain⟨T2,hT2⟩:=mkT fun a:Bool=>⟨20,[(8,(dB a))],[]⟩
 refine EvL.jn T2 (fun a=>a=o2) ?_ ?_
 ·refine zaa ?_;try simp only[rnA,Nat.reduceEqDiff,Nat.reduceLT]
  cases c2:(p1 == p3)
  ·rw[c2,cond_false]at j2;try simp only[rnA,Nat.reduceEqDiff,Nat.reduceLT]
   refine EvL.skip rfl ?_;try simp only[rnA,Nat.reduceEqDiff,Nat.reduceLT]
   replace j2:=qab j2; subst j2;exact lfj hT2 rfl (wm0 [] (by exact trivial))
  rw[c2,cond_true]at j2;obtain⟨r3,g4,j2⟩:=bind_some j2;try simp only[rnA,Nat.reduceEqDiff,Nat.reduceLT,Nat.reduceAdd,Nat.reduceLeDiff]
  refine EvL.fn (zfT g4) rfl rfl (.cons (.zaU (.cons (zab _ _ (fun h=>nomatch h)) (.cons (zab _ _ (fun h=>nomatch h)) (.cons (zab _ _ (fun h=>nomatch h)) .nil)))) (.cons (.zaU (.cons (zab _ _ (fun h=>nomatch h)) (.cons (zab _ _ (fun h=>nomatch h)) (.cons (zab _ _ (fun h=>nomatch h)) .nil)))) .nil)) ?_;try simp only[rnA,Nat.reduceEqDiff,Nat.reduceLT]
  replace j2:=qab j2; subst j2;exact lfj hT2 rfl (wm0 [] (by exact trivial))
 rintro v8 rfl;rw[congrFun hT2 v8];refine zaa ?_;try simp only[rnA]
 replace h:=qab h; subst h;exact zbI.ret rfl (.lit _)
def zdv(p0:S_api_Factor)(p1:Int):Option (S_api_Factor×Bool):=
(zcf p0 p1).bind fun r1=>
(zdR p0 r1 false).bind fun r3=>
some (r3.1,r3.2)
theorem zjy{p0:S_api_Factor}{p1:Int}{r:(S_api_Factor×Bool)}(h:zdv p0 p1=some r):Lx.FnA mC 36 [(.agg [(fzE false (eI .i64) p0.vars),(fzE false (eI .i64) p0.cards),(fzE false (eI .i64) p0.w)]),(dI p1)] (.tup [(.agg [(fzE false (eI .i64) r.1.vars),(fzE false (eI .i64) r.1.cards),(fzE false (eI .i64) r.1.w)]),(dB r.2)]):=by
 refine zsL (by conv=>lhs; cbv) ?_;unfold zdv at h;refine zaa ?_;obtain⟨r1,g2,h⟩:=bind_some h;try simp only[rnA,Nat.reduceEqDiff,reduceIte,Nat.reduceLT,Nat.reduceAdd,Nat.reduceLeDiff,Nat.reduceMul,Nat.reduceSub,Int.reduceLE,Int.reduceLT,Int.reduceBEq,Nat.reduceBEq,reduceCtorEq,zae,zbZ]
 refine EvL.fn (zeB g2) rfl rfl (.cons (.zaU (.cons (zab _ _ (fun h=>nomatch h)) (.cons (zab _ _ (fun h=>nomatch h)) (.cons (zab _ _ (fun h=>nomatch h)) .nil)))) (.cons (.lit _) .nil)) ?_;obtain⟨r3,g4,h⟩:=bind_some h;try simp only[rnA,Nat.reduceEqDiff,reduceIte,Nat.reduceLT,Nat.reduceAdd,Nat.reduceLeDiff,Nat.reduceMul,Nat.reduceSub,Int.reduceLE,Int.reduceLT,Int.reduceBEq,Nat.reduceBEq,reduceCtorEq,zae]
 refine EvL.fnS (zhW g4) rfl rfl (.cons (Mzs.agg (.cons (zaf _ _ (fun h=>by cases h<;>contradiction)) (.cons (zaf _ _ (fun h=>by cases h<;>contradiction)) (.cons (zaf _ _ (fun h=>by cases h<;>contradiction)) .nil)))) (.cons (zaf _ _ (fun h=>by cases h<;>contradiction)) (.cons (.lit _) .nil))) ⟨⟨(zac _ _),(zac _ _),(zac _ _),qcj⟩,(zac _ _),qcj,qcj⟩ ⟨⟨(zac _ _),(zac _ _),(zac _ _),qcj⟩,qcj,qcj⟩ ?_;try simp only[rnA,Nat.reduceEqDiff,reduceIte,Nat.reduceLT,Nat.reduceAdd,Nat.reduceLeDiff,Nat.reduceMul,Nat.reduceSub,Int.reduceLE,Int.reduceLT,Int.reduceBEq,Nat.reduceBEq,reduceCtorEq,zae]
 replace h:=qab h; subst h;exact ze1.ret rfl (Snp.zdD (.cons (.zaU (.cons (zab _ _ (fun h=>nomatch h)) (.cons (zab _ _ (fun h=>nomatch h)) (.cons (zab _ _ (fun h=>nomatch h)) .nil)))) (.cons (.lit _) .nil)))
def zdz(p0:S_api_Factor)(p1:Int):Option S_api_Factor:=
(zcf p0 p1).bind fun r1=>
(zdR p0 r1 true).bind fun r3=>
some r3.1
theorem zke{p0:S_api_Factor}{p1:Int}{r:S_api_Factor}(h:zdz p0 p1=some r):Lx.FnA mC 38 [(.agg [(fzE false (eI .i64) p0.vars),(fzE false (eI .i64) p0.cards),(fzE false (eI .i64) p0.w)]),(dI p1)] (.agg [(fzE false (eI .i64) r.vars),(fzE false (eI .i64) r.cards),(fzE false (eI .i64) r.w)]):=by
 refine zsL (by conv=>lhs; cbv) ?_;unfold zdz at h;refine zaa ?_;obtain⟨r1,g2,h⟩:=bind_some h;try simp only[rnA,Nat.reduceEqDiff,reduceIte,Nat.reduceLT,Nat.reduceAdd,Nat.reduceLeDiff,Nat.reduceMul,Nat.reduceSub,Int.reduceLE,Int.reduceLT,Int.reduceBEq,Nat.reduceBEq,reduceCtorEq,zae,zbZ]
 refine EvL.fn (zeB g2) rfl rfl (.cons (.zaU (.cons (zab _ _ (fun h=>nomatch h)) (.cons (zab _ _ (fun h=>nomatch h)) (.cons (zab _ _ (fun h=>nomatch h)) .nil)))) (.cons (.lit _) .nil)) ?_;obtain⟨r3,g4,h⟩:=bind_some h;try simp only[rnA,Nat.reduceEqDiff,reduceIte,Nat.reduceLT,Nat.reduceAdd,Nat.reduceLeDiff,Nat.reduceMul,Nat.reduceSub,Int.reduceLE,Int.reduceLT,Int.reduceBEq,Nat.reduceBEq,reduceCtorEq,zae]
 refine EvL.fnS (zhW g4) rfl rfl (.cons (Mzs.agg (.cons (zaf _ _ (fun h=>by cases h<;>contradiction)) (.cons (zaf _ _ (fun h=>by cases h<;>contradiction)) (.cons (zaf _ _ (fun h=>by cases h<;>contradiction)) .nil)))) (.cons (zaf _ _ (fun h=>by cases h<;>contradiction)) (.cons (.lit _) .nil))) ⟨⟨(zac _ _),(zac _ _),(zac _ _),qcj⟩,(zac _ _),qcj,qcj⟩ ⟨⟨(zac _ _),(zac _ _),(zac _ _),qcj⟩,qcj,qcj⟩ ?_;try simp only[rnA,Nat.reduceEqDiff,reduceIte,Nat.reduceLT,Nat.reduceAdd,Nat.reduceLeDiff,Nat.reduceMul,Nat.reduceSub,Int.reduceLE,Int.reduceLT,Int.reduceBEq,Nat.reduceBEq,reduceCtorEq,zae]
 replace h:=qab h; subst h;exact ze1.ret rfl (.zaU (.cons (zab _ _ (fun h=>nomatch h)) (.cons (zab _ _ (fun h=>nomatch h)) (.cons (zab _ _ (fun h=>nomatch h)) .nil))))
def zdn(p0:S_api_Factor)(r3:Int):Nat→Int→(List Int)→Option (List Int)
 | 0,_,_=>none
 | n+1,v9,l3=>(
bif (decide (v9<(p0.cards.length:Int)))then(
((bif (v9 == r3)then(
some l3)
else(
(za4 p0.cards v9).bind fun x7=>
(zeZ 8 l3 [x7]).bind fun y9=>
some y9):Option (List Int))).bind fun l3'=>
zdn p0 r3 n (w64 (v9+1)) l3')
else(
some l3))
def zcR(r11:(List (List Int)))(r3:Int)(p2:Int)(p0:S_api_Factor):Nat→Int→(List Int)→Option (List Int)
 | 0,_,_=>none
 | n+1,v11,l4=>(
bif (decide (v11<(r11.length:Int)))then(
(za4 r11 v11).bind fun x14=>
(za4 x14 r3).bind fun x16=>
((bif (x16 == p2)then(
(za4 p0.w v11).bind fun x19=>
(zeZ 8 l4 [x19]).bind fun y21=>
some y21)
else(
some l4):Option (List Int))).bind fun l4'=>
zcR r11 r3 p2 p0 n (w64 (v11+1)) l4')
else(
some l4))
def zfu(N:Nat)(p0:S_api_Factor)(p1:Int)(p2:Int):Option S_api_Factor:=
(zcf p0 p1).bind fun r1=>
(zbw p0 p1).bind fun r3=>
((zdn p0 r3 ((p0.cards.length:Int) - 0+2:Int).toNat 0 []:Option (List Int))).bind fun l3=>
(zfr N p0.cards).bind fun r11=>
((zcR r11 r3 p2 p0 ((r11.length:Int) - 0+2:Int).toNat 0 []:Option (List Int))).bind fun l4=>
some (S_api_Factor.mk r1 l3 l4)
theorem znU{N:Nat}{p0:S_api_Factor}{p1:Int}{p2:Int}{r:S_api_Factor}(h:zfu N p0 p1 p2=some r):Lx.Fn mC 39 [(.agg [(fzE false (eI .i64) p0.vars),(fzE false (eI .i64) p0.cards),(fzE false (eI .i64) p0.w)]),(dI p1),(dI p2)] (.agg [(fzE true (eI .i64) r.vars),(fzE true (eI .i64) r.cards),(fzE true (eI .i64) r.w)]):=by
 refine fnO (by conv=>lhs; cbv) ?_;unfold zfu at h;refine zaa ?_;obtain⟨r1,g2,h⟩:=bind_some h;try simp only[rnA,Nat.reduceEqDiff,Nat.reduceLT,Nat.reduceAdd,Nat.reduceLeDiff,reduceCtorEq]
 refine EvL.fn (zeB g2) rfl rfl (.cons (.zaU (.cons (zab _ _ (fun h=>nomatch h)) (.cons (zab _ _ (fun h=>nomatch h)) (.cons (zab _ _ (fun h=>nomatch h)) .nil)))) (.cons (.lit _) .nil)) ?_;obtain⟨r3,g4,h⟩:=bind_some h;try simp only[rnA,Nat.reduceEqDiff,Nat.reduceLT,Nat.reduceAdd,Nat.reduceLeDiff,reduceCtorEq]
 refine EvL.fn (zee g4) rfl rfl (.cons (.zaU (.cons (zab _ _ (fun h=>nomatch h)) (.cons (zab _ _ (fun h=>nomatch h)) (.cons (zab _ _ (fun h=>nomatch h)) .nil)))) (.cons (.lit _) .nil)) ?_;try simp only[rnA,Nat.reduceEqDiff,Nat.reduceLT,reduceCtorEq]
 obtain⟨o5,j5,h⟩:=bind_some h;obtain⟨T5,hT5⟩:=mkT fun a:(List Int)=>⟨68,[(2,(dI p2)),(3,(.ptr 0 0)),(6,(.ptr 1 0)),(7,(.ptr 2 0)),(8,(dI r3))],[.cells [(fzE false (eI .i64) p0.vars),(fzE false (eI .i64) p0.cards),(fzE false (eI .i64) p0.w)],.cells [zap,zap,zap],.cells [(fzE true (eI .i64) r1),(.sl 3 0 1 a.length none a.length),zap],.grow 1 (a.map ((eI .i64).c true))]⟩
 refine EvL.jn T5 (fun a=>a=o5) ?_ ?_
 ·refine zaa ?_;simp only[rnA];obtain⟨T9,hT9⟩:=mkT fun a:(Int×(List Int))=>⟨68,[(2,(dI p2)),(3,(.ptr 0 0)),(6,(.ptr 1 0)),(7,(.ptr 2 0)),(8,(dI r3)),(9,(dI a.1))],[.cells [(fzE false (eI .i64) p0.vars),(fzE false (eI .i64) p0.cards),(fzE false (eI .i64) p0.w)],.cells [zap,zap,zap],.cells [(fzE true (eI .i64) r1),(.sl 3 0 1 a.2.length none a.2.length),zap],.grow 1 (a.2.map ((eI .i64).c true))]⟩
  refine EvL.zeI (zby.zkR (n:=1) (β:=2) (o:=1) (by decide) rfl rfl) ?_;refine EvL.rounds (α:=(Int×(List Int))) T9 (fun n a=>zdn p0 r3 n a.1 a.2=some o5) ((p0.cards.length:Int) - 0+2:Int).toNat (0,[]) (by rw[hT9]; exact wm0 [.k,.k,.k,.k] ⟨MB.cs ⟨qcj,qcj,qcj,qcj⟩,⟨MB.cs ⟨qcj,qcj,qcj,qcj⟩,⟨MB.cs ⟨qcj,rfl,qcj,qcj⟩,⟨MB.gs (eI .i64) true [],qcj⟩⟩⟩⟩) j5 (fun _ h=>nomatch (show(none:Option (List Int))=some o5 from h)) ?_;rintro n ⟨v9,l3⟩ j5;simp only[zdn]at j5;rw[congrFun hT9 (v9,l3)];refine zaa ?_;try simp only[rnA,Nat.reduceEqDiff,Nat.reduceLT,zaw]
  cases c5:(decide (v9<(p0.cards.length:Int)))
  ·rw[c5,cond_false]at j5;try simp only[rnA]
   replace j5:=qab j5; subst j5;exact lfj hT5 rfl (wm0 [.k,.k,.k,.k] ⟨MB.cs ⟨qcj,qcj,qcj,qcj⟩,⟨MB.cs ⟨qcj,qcj,qcj,qcj⟩,⟨MB.cs ⟨qcj,rfl,qcj,qcj⟩,⟨MB.gs (eI .i64) true l3,qcj⟩⟩⟩⟩)
  rw[c5,cond_true]at j5;try simp only[rnA,Nat.reduceEqDiff,Nat.reduceLT]
  obtain⟨o10,j10,j5⟩:=bind_some j5;obtain⟨T10,hT10⟩:=mkT fun a:(List Int)=>⟨68,[(2,(dI p2)),(3,(.ptr 0 0)),(6,(.ptr 1 0)),(7,(.ptr 2 0)),(8,(dI r3)),(9,(dI v9))],[.cells [(fzE false (eI .i64) p0.vars),(fzE false (eI .i64) p0.cards),(fzE false (eI .i64) p0.w)],.cells [zap,zap,zap],.cells [(fzE true (eI .i64) r1),(.sl 3 0 1 a.length none a.length),zap],.grow 1 (a.map ((eI .i64).c true))]⟩
  refine EvL.jn T10 (fun a=>a=o10) ?_ ?_
  ·refine zaa ?_;try simp only[rnA,Nat.reduceEqDiff]
   cases c6:(v9 == r3)
   ·rw[c6,cond_false]at j10;obtain⟨x7,g8,j10⟩:=bind_some j10;obtain⟨y9,g10,j10⟩:=bind_some j10;try simp only[rnA,Nat.reduceEqDiff,Nat.reduceLT,Nat.reduceAdd,Nat.reduceLeDiff,zam (n:=1) (e:=(eI .i64)) rfl g8,zdq g10,(show l3.length+1=y9.length from zcn g10),(show l3.map ((eI .i64).c true)++ [[(dI x7)]]=y9.map ((eI .i64).c true)from zcw g10 ((eI .i64).c true))]
    replace j10:=qab j10; subst j10;exact lfj hT10 rfl (wm0 [.k,.k,.k,.k] ⟨MB.cs ⟨qcj,qcj,qcj,qcj⟩,⟨MB.cs ⟨qcj,qcj,qcj,qcj⟩,⟨MB.cs ⟨qcj,rfl,qcj,qcj⟩,⟨MB.gs (eI .i64) true y9,qcj⟩⟩⟩⟩)
   rw[c6,cond_true]at j10;try simp only[rnA]
   replace j10:=qab j10; subst j10;exact lfj hT10 rfl (wm0 [.k,.k,.k,.k] ⟨MB.cs ⟨qcj,qcj,qcj,qcj⟩,⟨MB.cs ⟨qcj,qcj,qcj,qcj⟩,⟨MB.cs ⟨qcj,rfl,qcj,qcj⟩,⟨MB.gs (eI .i64) true l3,qcj⟩⟩⟩⟩)
  rintro l3' rfl;rw[congrFun hT10 l3'];refine zaa ?_;try simp only[rnA,Nat.reduceEqDiff,Nat.reduceLT]
  exact⟨((w64 (v9+1)),l3'),j5,by rw[hT9]; exact wm0 [.k,.k,.k,.k] ⟨MB.cs ⟨qcj,qcj,qcj,qcj⟩,⟨MB.cs ⟨qcj,qcj,qcj,qcj⟩,⟨MB.cs ⟨qcj,rfl,qcj,qcj⟩,⟨MB.gs (eI .i64) true l3',qcj⟩⟩⟩⟩⟩
 rintro l3 rfl;rw[congrFun hT5 l3];refine zaa ?_;obtain⟨r11,g12,h⟩:=bind_some h;try simp only[rnA,Nat.reduceEqDiff,Nat.reduceLT]
 refine EvL.fn (znF g12) rfl rfl (.cons (zab _ _ (fun h=>nomatch h)) .nil) ?_;try simp only[rnA,Nat.reduceEqDiff,Nat.reduceLT]
 obtain⟨o15,j15,h⟩:=bind_some h;obtain⟨T15,hT15⟩:=mkT fun a:(List Int)=>⟨68,[(6,(.ptr 1 0)),(7,(.ptr 2 0))],[.gone,.cells [zap,zap,zap],.cells [(fzE true (eI .i64) r1),(.sl 3 0 1 l3.length none l3.length),(.sl 4 0 1 a.length none a.length)],.grow 1 (l3.map ((eI .i64).c true)),.grow 1 (a.map ((eI .i64).c true))]⟩
 refine EvL.jn T15 (fun a=>a=o15) ?_ ?_
 ·refine zaa ?_;simp only[rnA];obtain⟨T19,hT19⟩:=mkT fun a:(Int×(List Int))=>⟨68,[(2,(dI p2)),(3,(.ptr 0 0)),(6,(.ptr 1 0)),(7,(.ptr 2 0)),(8,(dI r3)),(10,(fzE true (eL (eI .i64)) r11)),(11,(dI a.1))],[.cells [(fzE false (eI .i64) p0.vars),(fzE false (eI .i64) p0.cards),(fzE false (eI .i64) p0.w)],.cells [zap,zap,zap],.cells [(fzE true (eI .i64) r1),(.sl 3 0 1 l3.length none l3.length),(.sl 4 0 1 a.2.length none a.2.length)],.grow 1 (l3.map ((eI .i64).c true)),.grow 1 (a.2.map ((eI .i64).c true))]⟩
  refine EvL.zeI (zby.zkR (n:=1) (β:=2) (o:=2) (by decide) rfl rfl) ?_;refine EvL.rounds (α:=(Int×(List Int))) T19 (fun n a=>zcR r11 r3 p2 p0 n a.1 a.2=some o15) ((r11.length:Int) - 0+2:Int).toNat (0,[]) (by rw[hT19]; exact wm0 [.k,.k,.k,.k,.k] ⟨MB.cs ⟨qcj,qcj,qcj,qcj⟩,⟨MB.cs ⟨qcj,qcj,qcj,qcj⟩,⟨MB.cs ⟨qcj,rfl,rfl,qcj⟩,⟨MB.gs (eI .i64) true l3,⟨MB.gs (eI .i64) true [],qcj⟩⟩⟩⟩⟩) j15 (fun _ h=>nomatch (show(none:Option (List Int))=some o15 from h)) ?_;rintro n ⟨v11,l4⟩ j15;simp only[zcR]at j15;rw[congrFun hT19 (v11,l4)];refine zaa ?_;try simp only[rnA,Nat.reduceEqDiff,Nat.reduceLT,zaw]
  cases c13:(decide (v11<(r11.length:Int)))
  ·rw[c13,cond_false]at j15;try simp only[rnA]
   replace j15:=qab j15; subst j15;exact lfj hT15 rfl (wm0 [.d,.k,.k,.k,.k] ⟨rfl,⟨MB.cs ⟨qcj,qcj,qcj,qcj⟩,⟨MB.cs ⟨qcj,rfl,rfl,qcj⟩,⟨MB.gs (eI .i64) true l3,⟨MB.gs (eI .i64) true l4,qcj⟩⟩⟩⟩⟩)
  rw[c13,cond_true]at j15;obtain⟨x14,g15,j15⟩:=bind_some j15;obtain⟨x16,g17,j15⟩:=bind_some j15;try simp only[rnA,Nat.reduceEqDiff,Nat.reduceLT,zam (n:=1) (e:=(eL (eI .i64))) rfl g15,zam (n:=1) (e:=(eI .i64)) rfl g17]
  obtain⟨o20,j20,j15⟩:=bind_some j15;obtain⟨T20,hT20⟩:=mkT fun a:(List Int)=>⟨68,[(2,(dI p2)),(3,(.ptr 0 0)),(6,(.ptr 1 0)),(7,(.ptr 2 0)),(8,(dI r3)),(10,(fzE true (eL (eI .i64)) r11)),(11,(dI v11))],[.cells [(fzE false (eI .i64) p0.vars),(fzE false (eI .i64) p0.cards),(fzE false (eI .i64) p0.w)],.cells [zap,zap,zap],.cells [(fzE true (eI .i64) r1),(.sl 3 0 1 l3.length none l3.length),(.sl 4 0 1 a.length none a.length)],.grow 1 (l3.map ((eI .i64).c true)),.grow 1 (a.map ((eI .i64).c true))]⟩
  refine EvL.jn T20 (fun a=>a=o20) ?_ ?_
  ·refine zaa ?_;try simp only[rnA,Nat.reduceEqDiff]
   cases c18:(x16 == p2)
   ·rw[c18,cond_false]at j20;try simp only[rnA]
    replace j20:=qab j20; subst j20;exact lfj hT20 rfl (wm0 [.k,.k,.k,.k,.k] ⟨MB.cs ⟨qcj,qcj,qcj,qcj⟩,⟨MB.cs ⟨qcj,qcj,qcj,qcj⟩,⟨MB.cs ⟨qcj,rfl,rfl,qcj⟩,⟨MB.gs (eI .i64) true l3,⟨MB.gs (eI .i64) true l4,qcj⟩⟩⟩⟩⟩)
   rw[c18,cond_true]at j20;obtain⟨x19,g20,j20⟩:=bind_some j20;obtain⟨y21,g22,j20⟩:=bind_some j20;try simp only[rnA,Nat.reduceEqDiff,Nat.reduceLT,Nat.reduceAdd,Nat.reduceLeDiff,zam (n:=1) (e:=(eI .i64)) rfl g20,zdq g22,(show l4.length+1=y21.length from zcn g22),(show l4.map ((eI .i64).c true)++ [[(dI x19)]]=y21.map ((eI .i64).c true)from zcw g22 ((eI .i64).c true))]
   replace j20:=qab j20; subst j20;exact lfj hT20 rfl (wm0 [.k,.k,.k,.k,.k] ⟨MB.cs ⟨qcj,qcj,qcj,qcj⟩,⟨MB.cs ⟨qcj,qcj,qcj,qcj⟩,⟨MB.cs ⟨qcj,rfl,rfl,qcj⟩,⟨MB.gs (eI .i64) true l3,⟨MB.gs (eI .i64) true y21,qcj⟩⟩⟩⟩⟩)
  rintro l4' rfl;rw[congrFun hT20 l4'];refine zaa ?_;try simp only[rnA,Nat.reduceEqDiff,Nat.reduceLT]
  exact⟨((w64 (v11+1)),l4'),j15,by rw[hT19]; exact wm0 [.k,.k,.k,.k,.k] ⟨MB.cs ⟨qcj,qcj,qcj,qcj⟩,⟨MB.cs ⟨qcj,qcj,qcj,qcj⟩,⟨MB.cs ⟨qcj,rfl,rfl,qcj⟩,⟨MB.gs (eI .i64) true l3,⟨MB.gs (eI .i64) true l4',qcj⟩⟩⟩⟩⟩⟩
 rintro l4 rfl;rw[congrFun hT15 l4];refine zaa ?_;try simp only[rnA,Nat.reduceEqDiff,Nat.reduceLT,Nat.reduceAdd,Nat.reduceLeDiff]
 replace h:=qab h; subst h;exact zbI.ret rfl (.zaU (.cons (zab _ _ (fun _=>rfl)) (.cons (zbb (e:=(eI .i64)) (t:=true) rfl (.inr rfl) rfl rfl (fun k h=>nomatch h) (fun _=>rfl)) (.cons (zbb (e:=(eI .i64)) (t:=true) rfl (.inr rfl) rfl rfl (fun k h=>nomatch h) (fun _=>rfl)) .nil))))
def zgM(p0:Bool):Option Int:=
bif p0 then(
some 0)
else(
some 6)
theorem zoc{p0:Bool}{r:Int}(h:zgM p0=some r):Lx.Fn mC 37 [(dB p0)] (dI r):=by
 refine fnO (by conv=>lhs; cbv) ?_;unfold zgM at h;refine zaa ?_;try simp only[rnA,Nat.reduceEqDiff,reduceIte,Nat.reduceLT,Nat.reduceAdd,Nat.reduceLeDiff,Nat.reduceMul,Nat.reduceSub,Int.reduceLE,Int.reduceLT,Int.reduceBEq,Nat.reduceBEq,reduceCtorEq]
 cases c1:p0
 ·rw[c1,cond_false]at h;try simp only[rnA,Nat.reduceEqDiff,reduceIte,Nat.reduceLT,Nat.reduceAdd,Nat.reduceLeDiff,Nat.reduceMul,Nat.reduceSub,Int.reduceLE,Int.reduceLT,Int.reduceBEq,Nat.reduceBEq,reduceCtorEq,c1]
  replace h:=qab h; subst h;exact zbI.ret rfl (.lit _)
 rw[c1,cond_true]at h;try simp only[rnA,Nat.reduceEqDiff,reduceIte,Nat.reduceLT,Nat.reduceAdd,Nat.reduceLeDiff,Nat.reduceMul,Nat.reduceSub,Int.reduceLE,Int.reduceLT,Int.reduceBEq,Nat.reduceBEq,reduceCtorEq,c1]
 replace h:=qab h; subst h;exact zbI.ret rfl (.lit _)
end Go.Dc
