/-
 What r02_Right computes. Conditions: none.
-/
import Derived.Test.YtnfgibomhkbcpaaFkJ3
set_option linter.unusedSimpArgs false
set_option linter.unusedVariables false
set_option maxRecDepth 100000
set_option maxHeartbeats 4000000
namespace Go.Dc
open Go Go.Mx Go.Lx Go.Proofs
def zcB(p0:(List Int)):Nat→Int→Int→Option (Out Unit Bool)
 | 0,_,_=>none
 | n+1,v3,v4=>(
bif (decide (v4<(p0.length:Int)))then(
(((za4 p0 v4).bind fun x3=>
bif (decide (x3<1))then(
some true)
else(
some (decide (8<x3))):Option Bool)).bind fun v25=>
bif v25 then(
some (.ret false))
else(
(za4 p0 v4).bind fun x7=>
bif (decide (4096<(w64 (v3 * x7))))then(
some (.ret false))
else(
zcB p0 n (w64 (v3 * x7)) (w64 (v4+1)))))
else(
some (.go ())))
def zdF(p0:(List Int)):Option Bool:=
bif (decide (12<(p0.length:Int)))then(
some false)
else(
((zcB p0 ((p0.length:Int) - 0+2:Int).toNat 1 0:Option (Out Unit Bool))).bind fun o=>match o with
| .go _=>(
some true)
| .ret r=>some r)
theorem zjY{p0:(List Int)}{r:Bool}(h:zdF p0=some r):Lx.Fn mC 88 [(fzE false (eI .i64) p0)] (dB r):=by
 refine fnO (by conv=>lhs; cbv) ?_;unfold zdF at h;refine zaa ?_;try simp only[rnA,Nat.reduceEqDiff,Nat.reduceLT,reduceCtorEq,zav]
 cases c1:(decide (12<(p0.length:Int)))
 ·rw[c1,cond_false]at h;try simp only[rnA,Nat.reduceLT]
  obtain⟨o4,j4,h⟩:=bind_some h;obtain⟨T4,hT4⟩:=mkT fun a:Unit=>⟨34,[],[]⟩
  refine EvL.jn T4 (fun a=>o4=.go a) ?_ ?_
  ·refine zaa ?_;simp only[rnA];obtain⟨T7,hT7⟩:=mkT fun a:(Int×Int)=>⟨34,[(0,(fzE false (eI .i64) p0)),(3,(dI a.1)),(4,(dI a.2))],[]⟩
   refine EvL.rounds (α:=(Int×Int)) T7 (fun n a=>zcB p0 n a.1 a.2=some o4) ((p0.length:Int) - 0+2:Int).toNat (1,0) (by rw[hT7]; exact wm0 [] (by exact trivial)) j4 (fun _ h=>nomatch (show(none:Option (Out Unit Bool))=some o4 from h)) ?_;rintro n ⟨v3,v4⟩ j4;simp only[zcB]at j4;rw[congrFun hT7 (v3,v4)];refine zaa ?_;try simp only[rnA,Nat.reduceEqDiff,Nat.reduceLT,reduceCtorEq,zav]
   cases c2:(decide (v4<(p0.length:Int)))
   ·rw[c2,cond_false]at j4;try simp only[rnA]
    replace j4:=qaa j4; subst j4;exact lfj hT4 rfl (wm0 [] (by exact trivial))
   rw[c2,cond_true]at j4;try simp only[rnA]
   obtain⟨o8,j8,j4⟩:=bind_some j4;obtain⟨T8,hT8⟩:=mkT fun a:Bool=>⟨34,[(0,(fzE false (eI .i64) p0)),(3,(dI v3)),(4,(dI v4)),(25,(dB a))],[]⟩
   refine EvL.jn T8 (fun a=>a=o8) ?_ ?_
   ·refine zaa ?_;obtain⟨x3,g4,j8⟩:=bind_some j8;try simp only[rnA,Nat.reduceEqDiff,Nat.reduceLT,reduceCtorEq,zam (n:=1) (e:=(eI .i64)) rfl g4]
    cases c5:(decide (x3<1))
    ·rw[c5,cond_false]at j8;try simp only[rnA,Nat.reduceEqDiff,Nat.reduceLT,reduceCtorEq,zam (n:=1) (e:=(eI .i64)) rfl g4]
     replace j8:=qaa j8; subst j8;exact lfj hT8 rfl (wm0 [] (by exact trivial))
    rw[c5,cond_true]at j8;try simp only[rnA,Nat.reduceEqDiff,Nat.reduceLT,reduceCtorEq]
    replace j8:=qaa j8; subst j8;exact lfj hT8 rfl (wm0 [] (by exact trivial))
   rintro v25 rfl;rw[congrFun hT8 v25];refine zaa ?_;try simp only[rnA,Nat.reduceEqDiff,reduceCtorEq]
   cases c6:v25
   ·rw[c6,cond_false]at j4;obtain⟨x7,g8,j4⟩:=bind_some j4;try simp only[rnA,Nat.reduceEqDiff,Nat.reduceLT,reduceCtorEq,zam (n:=1) (e:=(eI .i64)) rfl g8]
    cases c9:(decide (4096<(w64 (v3 * x7))))
    ·rw[c9,cond_false]at j4;try simp only[rnA,Nat.reduceEqDiff,Nat.reduceLT,reduceCtorEq]
     exact⟨((w64 (v3 * x7)),(w64 (v4+1))),j4,by rw[hT7]; exact wm0 [] (by exact trivial)⟩
    rw[c9,cond_true]at j4;try simp only[rnA,Nat.reduceLT]
    replace j4:=qaa j4; subst j4;dsimp only at h;replace h:=qaa h; subst h;exact zbK.ret rfl (.lit _)
   rw[c6,cond_true]at j4;try simp only[rnA,Nat.reduceLT]
   replace j4:=qaa j4; subst j4;dsimp only at h;replace h:=qaa h; subst h;exact zbK.ret rfl (.lit _)
  rintro⟨⟩ rfl;dsimp only at h;rw[congrFun hT4 ()];refine zaa ?_;try simp only[rnA,Nat.reduceLT]
  replace h:=qaa h; subst h;exact zbK.ret rfl (.lit _)
 rw[c1,cond_true]at h;try simp only[rnA,Nat.reduceLT]
 replace h:=qaa h; subst h;exact zbK.ret rfl (.lit _)
def zcd(p0:S_api_Factor):Nat→Int→Option (Out Unit Bool)
 | 0,_=>none
 | n+1,v3=>(
bif (decide (v3<(p0.vars.length:Int)))then(
(((za4 p0.vars v3).bind fun x9=>
bif (decide (x9<0))then(
some true)
else(
bif (decide (63<x9))then(
some true)
else(
bif (decide (0<v3))then(
(za4 p0.vars (w64 (v3 - 1))).bind fun x14=>
some (decide (x9≤x14)))
else(
some false))):Option Bool)).bind fun v65=>
bif v65 then(
some (.ret false))
else(
zcd p0 n (w64 (v3+1))))
else(
some (.go ())))
def zcH(p0:S_api_Factor):Nat→Int→Option (Out Unit Bool)
 | 0,_=>none
 | n+1,v4=>(
bif (decide (v4<(p0.w.length:Int)))then(
(((za4 p0.w v4).bind fun x18=>
bif (decide (x18<0))then(
some true)
else(
some (decide (4611686018427387903<x18))):Option Bool)).bind fun v86=>
bif v86 then(
some (.ret false))
else(
zcH p0 n (w64 (v4+1))))
else(
some (.go ())))
def zdP(p0:S_api_Factor):Option Bool:=
(((zdF p0.cards).bind fun r1=>
bif r1 then(
bif ((p0.vars.length:Int)==(p0.cards.length:Int))then(
(zcJ p0.cards).bind fun r5=>
some (!((p0.w.length:Int)== r5)))
else(
some true))
else(
some true):Option Bool)).bind fun v26=>
bif v26 then(
some false)
else(
((zcd p0 ((p0.vars.length:Int) - 0+2:Int).toNat 0:Option (Out Unit Bool))).bind fun o=>match o with
| .go _=>(
((zcH p0 ((p0.w.length:Int) - 0+2:Int).toNat 0:Option (Out Unit Bool))).bind fun o=>match o with
| .go _=>(
some true)
| .ret r=>some r)
| .ret r=>some r)
def zhK:C:=
 .seq (rg [oW 1 0,
 oJ 2 false])
 (.seq (.seq (.scope (.reg true true [oF 5 1 1,
 oL 6 5,
 oU 7 88 6,
 ⟨some 8,.un .not (.s 7),none⟩,
 oM 9 8,
 oFg 10 0 1 9 false,
 oLg 11 10 9 false,
 ⟨some 12,.len (.s 11),some (9,false)⟩,
 oFg 13 1 1 9 false,
 oLg 14 13 9 false,
 ⟨some 15,.len (.s 14),some (9,false)⟩,
 ⟨some 16,.bin .neq (.s 12) (.s 15),some (9,false)⟩,
 oP 17 9 16,
 oM 18 17,
 oFg 19 2 1 18 false,
 oLg 20 19 18 false,
 ⟨some 21,.len (.s 20),some (18,false)⟩,
 oFg 22 1 1 18 false,
 oLg 23 22 18 false,
 ⟨some 24,.call 82 [(.s 23)],some (18,false)⟩,
 ⟨some 25,.bin .neq (.s 21) (.s 24),some (18,false)⟩,
 oP 26 18 25]))
 (.cond (.s 26) (.seq (rg [oJ 2 false])
 (.ret))
 (.skip)))
 (.seq (.seq (rg [oK 3 0])
 (.scope (.block 0 (.loop (.seq (.seq (rg [oM 27 3,
 oF 28 0 1,
 oL 29 28,
 oE 30 29,
 oB 31 .lss 27 30])
 (.cond (.s 31) (.skip)
 (.exit 0)))
 (.seq (.block 1 (.seq (.scope (.reg true false [oF 34 0 1,
 oL 35 34,
 oM 36 3,
 oI 37 1 35 36,
 oL 38 37,
 oD 39 .lss 38 0,
 oM 40 39,
 oFg 41 0 1 40 false,
 oLg 42 41 40 false,
 oMg 43 3 40 false,
 ⟨some 44,.idxS 1 (.s 42) (.s 43),some (40,false)⟩,
 oLg 45 44 40 false,
 oDg 46 .gtr 45 63 40 false,
 oP 47 40 46,
 oM 48 47,
 oMg 49 3 48 false,
 oDg 50 .gtr 49 0 48 false,
 oMg 51 50 48 false,
 oFg 52 0 1 51 true,
 oLg 53 52 51 true,
 oMg 54 3 51 true,
 ⟨some 55,.idxS 1 (.s 53) (.s 54),some (51,true)⟩,
 oLg 56 55 51 true,
 oFg 57 0 1 51 true,
 oLg 58 57 51 true,
 oMg 59 3 51 true,
 oDg 60 .sub 59 1 51 true,
 ⟨some 61,.idxS 1 (.s 58) (.s 60),some (51,true)⟩,
 oLg 62 61 51 true,
 ⟨some 63,.bin .leq (.s 56) (.s 62),some (51,true)⟩,
 ⟨some 64,.pick (.s 51) (.s 63) (.c (.bool false)),some (48,false)⟩,
 oP 65 48 64]))
 (.cond (.s 65) (.seq (rg [oJ 2 false])
 (.ret))
 (.skip))))
 (rg [oM 32 3,
 oD 33 .add 32 1,
 oM 3 33])))))))
 (.seq (.seq (rg [oK 4 0])
 (.scope (.block 2 (.loop (.seq (.seq (rg [oM 66 4,
 oF 67 2 1,
 oL 68 67,
 oE 69 68,
 oB 70 .lss 66 69])
 (.cond (.s 70) (.skip)
 (.exit 2)))
 (.seq (.block 3 (.seq (.scope (rg [oF 73 2 1,
 oL 74 73,
 oM 75 4,
 oI 76 1 74 75,
 oL 77 76,
 oD 78 .lss 77 0,
 oM 79 78,
 oFg 80 2 1 79 false,
 oLg 81 80 79 false,
 oMg 82 4 79 false,
 ⟨some 83,.idxS 1 (.s 81) (.s 82),some (79,false)⟩,
 oLg 84 83 79 false,
 oDg 85 .gtr 84 4611686018427387903 79 false,
 oP 86 79 85]))
 (.cond (.s 86) (.seq (rg [oJ 2 false])
 (.ret))
 (.skip))))
 (rg [oM 71 4,
 oD 72 .add 71 1,
 oM 4 72])))))))
 (.seq (rg [oJ 2 true])
 (.ret)))))
theorem zjJ:zgx mC 23=some (87,zhK,[.tmp 2],false):=zaV (by kernel_rfl)
theorem zkp{p0:S_api_Factor}{r:Bool}(h:zdP p0=some r):Lx.Fn mC 23 [(.agg [(fzE false (eI .i64) p0.vars),(fzE false (eI .i64) p0.cards),(fzE false (eI .i64) p0.w)])] (dB r):=by
 refine Fn.of zjJ (zaR rfl) (qad rfl) ?_;unfold zdP at h;simp only[zhK,zi4];refine zaa ?_;try simp only[rnA,Nat.reduceLT]
 obtain⟨o1,j1,h⟩:=bind_some h;obtain⟨T1,hT1⟩:=mkT fun a:Bool=>⟨87,[(1,(.ptr 0 0)),(26,(dB a))],[.cells [(fzE false (eI .i64) p0.vars),(fzE false (eI .i64) p0.cards),(fzE false (eI .i64) p0.w)]]⟩
 refine EvL.jn T1 (fun a=>a=o1) ?_ ?_
 ·refine zaa ?_;obtain⟨r1,g2,j1⟩:=bind_some j1;try simp only[rnA,Nat.reduceEqDiff,Nat.reduceLT,reduceCtorEq]
  refine EvL.fn (zjY g2) rfl rfl (.cons (zab _ _ (fun h=>nomatch h)) .nil) ?_;try simp only[rnA,Nat.reduceEqDiff,Nat.reduceLT,reduceCtorEq]
  cases c3:r1
  ·rw[c3,cond_false]at j1;try simp only[rnA,Nat.reduceEqDiff,Nat.reduceLT,reduceCtorEq]
   refine EvL.skip rfl ?_;try simp only[rnA,Nat.reduceEqDiff,Nat.reduceLT,reduceCtorEq]
   replace j1:=qaa j1; subst j1;exact lfj hT1 rfl (wm0 [.k] ⟨MB.cs ⟨qca,qca,qca,qca⟩,qca⟩)
  rw[c3,cond_true]at j1;try simp only[rnA,Nat.reduceEqDiff,Nat.reduceLT,reduceCtorEq,zav]
  cases c4:((p0.vars.length:Int)==(p0.cards.length:Int))
  ·rw[c4,cond_false]at j1;try simp only[rnA,Nat.reduceEqDiff,Nat.reduceLT,reduceCtorEq]
   refine EvL.skip rfl ?_;try simp only[rnA,Nat.reduceEqDiff,Nat.reduceLT,reduceCtorEq]
   replace j1:=qaa j1; subst j1;exact lfj hT1 rfl (wm0 [.k] ⟨MB.cs ⟨qca,qca,qca,qca⟩,qca⟩)
  rw[c4,cond_true]at j1;obtain⟨r5,g6,j1⟩:=bind_some j1;try simp only[rnA,Nat.reduceEqDiff,Nat.reduceLT,reduceCtorEq,zav]
  refine EvL.fn (zfJ g6) rfl rfl (.cons (zab _ _ (fun h=>nomatch h)) .nil) ?_;try simp only[rnA,Nat.reduceEqDiff,Nat.reduceLT,reduceCtorEq]
  replace j1:=qaa j1; subst j1;exact lfj hT1 rfl (wm0 [.k] ⟨MB.cs ⟨qca,qca,qca,qca⟩,qca⟩)
 rintro v26 rfl;rw[congrFun hT1 v26];refine zaa ?_;try simp only[rnA,Nat.reduceEqDiff]
 cases c7:v26
 ·rw[c7,cond_false]at h;try simp only[rnA,Nat.reduceLT]
  obtain⟨o5,j5,h⟩:=bind_some h;obtain⟨T5,hT5⟩:=mkT fun a:Unit=>⟨87,[(1,(.ptr 0 0))],[.cells [(fzE false (eI .i64) p0.vars),(fzE false (eI .i64) p0.cards),(fzE false (eI .i64) p0.w)]]⟩
  refine EvL.jn T5 (fun a=>o5=.go a) ?_ ?_
  ·refine zaa ?_;simp only[rnA];obtain⟨T8,hT8⟩:=mkT fun a:Int=>⟨87,[(1,(.ptr 0 0)),(3,(dI a))],[.cells [(fzE false (eI .i64) p0.vars),(fzE false (eI .i64) p0.cards),(fzE false (eI .i64) p0.w)]]⟩
   refine EvL.rounds (α:=Int) T8 (fun n a=>zcd p0 n a=some o5) ((p0.vars.length:Int) - 0+2:Int).toNat 0 (by rw[hT8]; exact wm0 [.k] ⟨MB.cs ⟨qca,qca,qca,qca⟩,qca⟩) j5 (fun _ h=>nomatch (show(none:Option (Out Unit Bool))=some o5 from h)) ?_;rintro n v3 j5;simp only[zcd]at j5;rw[congrFun hT8 v3];refine zaa ?_;try simp only[rnA,Nat.reduceEqDiff,Nat.reduceLT,zav]
   cases c8:(decide (v3<(p0.vars.length:Int)))
   ·rw[c8,cond_false]at j5;try simp only[rnA]
    replace j5:=qaa j5; subst j5;exact lfj hT5 rfl (wm0 [.k] ⟨MB.cs ⟨qca,qca,qca,qca⟩,qca⟩)
   rw[c8,cond_true]at j5;try simp only[rnA]
   obtain⟨o9,j9,j5⟩:=bind_some j5;obtain⟨T9,hT9⟩:=mkT fun a:Bool=>⟨87,[(1,(.ptr 0 0)),(3,(dI v3)),(65,(dB a))],[.cells [(fzE false (eI .i64) p0.vars),(fzE false (eI .i64) p0.cards),(fzE false (eI .i64) p0.w)]]⟩
   refine EvL.jn T9 (fun a=>a=o9) ?_ ?_
   ·refine zaa ?_;obtain⟨x9,g10,j9⟩:=bind_some j9;try simp only[rnA,Nat.reduceEqDiff,Nat.reduceLT,zam (n:=1) (e:=(eI .i64)) rfl g10]
    cases c11:(decide (x9<0))
    ·rw[c11,cond_false]at j9;try simp only[rnA,Nat.reduceEqDiff,Nat.reduceLT,zam (n:=1) (e:=(eI .i64)) rfl g10]
     cases c12:(decide (63<x9))
     ·rw[c12,cond_false]at j9;try simp only[rnA,Nat.reduceEqDiff,Nat.reduceLT]
      cases c13:(decide (0<v3))
      ·rw[c13,cond_false]at j9;try simp only[rnA,Nat.reduceEqDiff,Nat.reduceLT]
       replace j9:=qaa j9; subst j9;exact lfj hT9 rfl (wm0 [.k] ⟨MB.cs ⟨qca,qca,qca,qca⟩,qca⟩)
      rw[c13,cond_true]at j9;obtain⟨x14,g15,j9⟩:=bind_some j9;try simp only[rnA,Nat.reduceEqDiff,Nat.reduceLT,zam (n:=1) (e:=(eI .i64)) rfl g10,zam (n:=1) (e:=(eI .i64)) rfl g15]
      replace j9:=qaa j9; subst j9;exact lfj hT9 rfl (wm0 [.k] ⟨MB.cs ⟨qca,qca,qca,qca⟩,qca⟩)
     rw[c12,cond_true]at j9;try simp only[rnA,Nat.reduceEqDiff,Nat.reduceLT]
     replace j9:=qaa j9; subst j9;exact lfj hT9 rfl (wm0 [.k] ⟨MB.cs ⟨qca,qca,qca,qca⟩,qca⟩)
    rw[c11,cond_true]at j9;try simp only[rnA,Nat.reduceEqDiff,Nat.reduceLT]
    replace j9:=qaa j9; subst j9;exact lfj hT9 rfl (wm0 [.k] ⟨MB.cs ⟨qca,qca,qca,qca⟩,qca⟩)
   rintro v65 rfl;rw[congrFun hT9 v65];refine zaa ?_;try simp only[rnA,Nat.reduceEqDiff]
   cases c16:v65
   ·rw[c16,cond_false]at j5;try simp only[rnA,Nat.reduceEqDiff,Nat.reduceLT]
    exact⟨(w64 (v3+1)),j5,by rw[hT8]; exact wm0 [.k] ⟨MB.cs ⟨qca,qca,qca,qca⟩,qca⟩⟩
   rw[c16,cond_true]at j5;try simp only[rnA,Nat.reduceLT]
   replace j5:=qaa j5; subst j5;dsimp only at h;replace h:=qaa h; subst h;exact zbK.ret rfl (.lit _)
  rintro⟨⟩ rfl;dsimp only at h;rw[congrFun hT5 ()];refine zaa ?_;try simp only[rnA,Nat.reduceLT]
  obtain⟨o13,j13,h⟩:=bind_some h;obtain⟨T13,hT13⟩:=mkT fun a:Unit=>⟨87,[],[]⟩
  refine EvL.jn T13 (fun a=>o13=.go a) ?_ ?_
  ·refine zaa ?_;simp only[rnA];obtain⟨T16,hT16⟩:=mkT fun a:Int=>⟨87,[(1,(.ptr 0 0)),(4,(dI a))],[.cells [(fzE false (eI .i64) p0.vars),(fzE false (eI .i64) p0.cards),(fzE false (eI .i64) p0.w)]]⟩
   refine EvL.rounds (α:=Int) T16 (fun n a=>zcH p0 n a=some o13) ((p0.w.length:Int) - 0+2:Int).toNat 0 (by rw[hT16]; exact wm0 [.k] ⟨MB.cs ⟨qca,qca,qca,qca⟩,qca⟩) j13 (fun _ h=>nomatch (show(none:Option (Out Unit Bool))=some o13 from h)) ?_;rintro n v4 j13;simp only[zcH]at j13;rw[congrFun hT16 v4];refine zaa ?_;try simp only[rnA,Nat.reduceEqDiff,Nat.reduceLT,zav]
   cases c17:(decide (v4<(p0.w.length:Int)))
   ·rw[c17,cond_false]at j13;try simp only[rnA]
    replace j13:=qaa j13; subst j13;exact lfj hT13 rfl (wm0 [] (by exact trivial))
   rw[c17,cond_true]at j13;try simp only[rnA]
   obtain⟨o17,j17,j13⟩:=bind_some j13;obtain⟨T17,hT17⟩:=mkT fun a:Bool=>⟨87,[(1,(.ptr 0 0)),(4,(dI v4)),(86,(dB a))],[.cells [(fzE false (eI .i64) p0.vars),(fzE false (eI .i64) p0.cards),(fzE false (eI .i64) p0.w)]]⟩
   refine EvL.jn T17 (fun a=>a=o17) ?_ ?_
   ·refine zaa ?_;obtain⟨x18,g19,j17⟩:=bind_some j17;try simp only[rnA,Nat.reduceEqDiff,Nat.reduceLT,zam (n:=1) (e:=(eI .i64)) rfl g19]
    cases c20:(decide (x18<0))
    ·rw[c20,cond_false]at j17;try simp only[rnA,Nat.reduceEqDiff,Nat.reduceLT,zam (n:=1) (e:=(eI .i64)) rfl g19]
     replace j17:=qaa j17; subst j17;exact lfj hT17 rfl (wm0 [.k] ⟨MB.cs ⟨qca,qca,qca,qca⟩,qca⟩)
    rw[c20,cond_true]at j17;try simp only[rnA,Nat.reduceEqDiff,Nat.reduceLT]
    replace j17:=qaa j17; subst j17;exact lfj hT17 rfl (wm0 [.k] ⟨MB.cs ⟨qca,qca,qca,qca⟩,qca⟩)
   rintro v86 rfl;rw[congrFun hT17 v86];refine zaa ?_;try simp only[rnA,Nat.reduceEqDiff]
   cases c21:v86
   ·rw[c21,cond_false]at j13;try simp only[rnA,Nat.reduceEqDiff,Nat.reduceLT]
    exact⟨(w64 (v4+1)),j13,by rw[hT16]; exact wm0 [.k] ⟨MB.cs ⟨qca,qca,qca,qca⟩,qca⟩⟩
   rw[c21,cond_true]at j13;try simp only[rnA,Nat.reduceLT]
   replace j13:=qaa j13; subst j13;dsimp only at h;replace h:=qaa h; subst h;exact zbK.ret rfl (.lit _)
  rintro⟨⟩ rfl;dsimp only at h;rw[congrFun hT13 ()];refine zaa ?_;try simp only[rnA,Nat.reduceLT]
  replace h:=qaa h; subst h;exact zbK.ret rfl (.lit _)
 rw[c7,cond_true]at h;try simp only[rnA,Nat.reduceLT]
 replace h:=qaa h; subst h;exact zbK.ret rfl (.lit _)
def zcF(p0:S_api_Factor)(p1:Int)(p2:S_api_Factor)(p3:Int):Option Bool:=
((bif (p3 == 0)then(
some (p2.vars,p2.cards,p2.w))
else(
some ([],[],[])):Option (((List Int)×(List Int)×(List Int))))).bind fun o=>match o with
|(b1_0,b1_1,b1_2)=>(
((bif (p1 == p3)then(
(zc0 p0 (S_api_Factor.mk b1_0 b1_1 b1_2)).bind fun r3=>
some r3)
else(
some false):Option Bool)).bind fun v8=>
some v8)
theorem zhH{p0:S_api_Factor}{p1:Int}{p2:S_api_Factor}{p3:Int}{r:Bool}(h:zcF p0 p1 p2 p3=some r):Lx.Fn mC 27 [(.agg [(fzE false (eI .i64) p0.vars),(fzE false (eI .i64) p0.cards),(fzE false (eI .i64) p0.w)]),(dI p1),(.agg [(fzE false (eI .i64) p2.vars),(fzE false (eI .i64) p2.cards),(fzE false (eI .i64) p2.w)]),(dI p3)] (dB r):=by
 refine fnO (by conv=>lhs; cbv) ?_;unfold zcF at h;refine zaa ?_;try simp only[rnA,Nat.reduceEqDiff,Nat.reduceLT,Nat.reduceAdd,reduceCtorEq]
 obtain⟨o1,j1,h⟩:=bind_some h;obtain⟨T1,hT1⟩:=mkT fun a:((List Int)×(List Int)×(List Int))=>⟨20,[(1,(dI p1)),(3,(dI p3)),(4,(.ptr 0 0)),(6,(.ptr 1 0))],[.cells [(fzE false (eI .i64) p0.vars),(fzE false (eI .i64) p0.cards),(fzE false (eI .i64) p0.w)],.cells [(fzE false (eI .i64) a.1),(fzE false (eI .i64) a.2.1),(fzE false (eI .i64) a.2.2)]]⟩
 refine EvL.jn T1 (fun a=>a=o1) ?_ ?_
 ·refine zaa ?_;try simp only[rnA,Nat.reduceEqDiff,reduceCtorEq]
  cases c1:(p3 == 0)
  ·rw[c1,cond_false]at j1;try simp only[rnA,Nat.reduceEqDiff,Nat.reduceLT,Nat.reduceAdd,Nat.reduceLeDiff,reduceCtorEq]
   replace j1:=qaa j1; subst j1;exact lfj hT1 rfl (wm0 [.k,.k] ⟨MB.cs ⟨qca,qca,qca,qca⟩,⟨MB.ztX (.cons (.fr (zf0 (eI .i64))) (.cons (.fr (zf0 (eI .i64))) (.cons (.fr (zf0 (eI .i64))) .nil))),qca⟩⟩)
  rw[c1,cond_true]at j1;try simp only[rnA]
  replace j1:=qaa j1; subst j1;exact lfj hT1 rfl (wm0 [.k,.k] ⟨MB.cs ⟨qca,qca,qca,qca⟩,⟨MB.cs ⟨qca,qca,qca,qca⟩,qca⟩⟩)
 rintro⟨b1_0,b1_1,b1_2⟩ rfl;dsimp only at h;rw[congrFun hT1 (b1_0,b1_1,b1_2)];refine zaa ?_;try simp only[rnA]
 obtain⟨o2,j2,h⟩:=bind_some h;obtain⟨T2,hT2⟩:=mkT fun a:Bool=>⟨20,[(8,(dB a))],[]⟩
 refine EvL.jn T2 (fun a=>a=o2) ?_ ?_
 ·refine zaa ?_;try simp only[rnA,Nat.reduceEqDiff,Nat.reduceLT]
  cases c2:(p1 == p3)
  ·rw[c2,cond_false]at j2;try simp only[rnA,Nat.reduceEqDiff,Nat.reduceLT]
   refine EvL.skip rfl ?_;try simp only[rnA,Nat.reduceEqDiff,Nat.reduceLT]
   replace j2:=qaa j2; subst j2;exact lfj hT2 rfl (wm0 [] (by exact trivial))
  rw[c2,cond_true]at j2;obtain⟨r3,g4,j2⟩:=bind_some j2;try simp only[rnA,Nat.reduceEqDiff,Nat.reduceLT,Nat.reduceAdd,Nat.reduceLeDiff]
  refine EvL.fn (zfI g4) rfl rfl (.cons (.za5 (.cons (zab _ _ (fun h=>nomatch h)) (.cons (zab _ _ (fun h=>nomatch h)) (.cons (zab _ _ (fun h=>nomatch h)) .nil)))) (.cons (.za5 (.cons (zab _ _ (fun h=>nomatch h)) (.cons (zab _ _ (fun h=>nomatch h)) (.cons (zab _ _ (fun h=>nomatch h)) .nil)))) .nil)) ?_;try simp only[rnA,Nat.reduceEqDiff,Nat.reduceLT]
  replace j2:=qaa j2; subst j2;exact lfj hT2 rfl (wm0 [] (by exact trivial))
 rintro v8 rfl;rw[congrFun hT2 v8];refine zaa ?_;try simp only[rnA]
 replace h:=qaa h; subst h;exact zbK.ret rfl (.lit _)
def zdO(p0:Bool):Option Int:=
bif p0 then(
some 0)
else(
some 6)
theorem zii{p0:Bool}{r:Int}(h:zdO p0=some r):Lx.Fn mC 37 [(dB p0)] (dI r):=by
 refine fnO (by conv=>lhs; cbv) ?_;unfold zdO at h;refine zaa ?_;try simp only[rnA,Nat.reduceEqDiff,reduceIte,Nat.reduceLT,Nat.reduceAdd,Nat.reduceLeDiff,Nat.reduceMul,Nat.reduceSub,Int.reduceLE,Int.reduceLT,Int.reduceBEq,Nat.reduceBEq,reduceCtorEq]
 cases c1:p0
 ·rw[c1,cond_false]at h;try simp only[rnA,Nat.reduceEqDiff,reduceIte,Nat.reduceLT,Nat.reduceAdd,Nat.reduceLeDiff,Nat.reduceMul,Nat.reduceSub,Int.reduceLE,Int.reduceLT,Int.reduceBEq,Nat.reduceBEq,reduceCtorEq,c1]
  replace h:=qaa h; subst h;exact zbK.ret rfl (.lit _)
 rw[c1,cond_true]at h;try simp only[rnA,Nat.reduceEqDiff,reduceIte,Nat.reduceLT,Nat.reduceAdd,Nat.reduceLeDiff,Nat.reduceMul,Nat.reduceSub,Int.reduceLE,Int.reduceLT,Int.reduceBEq,Nat.reduceBEq,reduceCtorEq,c1]
 replace h:=qaa h; subst h;exact zbK.ret rfl (.lit _)
end Go.Dc
