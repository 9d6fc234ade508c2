/-
 What r02_Size computes. Conditions: none.
-/
import Derived.Test.YtnfgibomhkbcpaaFgJ1
set_option linter.unusedSimpArgs false
set_option linter.unusedVariables false
set_option maxRecDepth 100000
set_option maxHeartbeats 4000000
namespace Go.Dc
open Go Go.Mx Go.Lx Go.Proofs
def zcS(p0:(List Int)):Nat→Int→Int→Option Int
 | 0,_,_=>none
 | n+1,v3,v4=>(
bif (decide (v4<(p0.length:Int)))then(
(zbr p0 v4).bind fun x2=>
zcS p0 n (w64 (v3 * x2)) (w64 (v4+1)))
else(
some v3))
def zdR(p0:(List Int)):Option Int:=
((zcS p0 ((p0.length:Int) - 0+2:Int).toNat 1 0:Option Int)).bind fun v3=>
some v3
theorem zkW{p0:(List Int)}{r:Int}(h:zdR p0=some r):Lx.Fn mC 82 [(fzE false (eI .i64) p0)] (dI r):=by
 refine fnO (by conv=>lhs; cbv) ?_;unfold zdR at h;refine zab ?_;try simp only[rnA,Nat.reduceEqDiff,reduceIte,Nat.reduceLT,Nat.reduceAdd,Nat.reduceLeDiff,Nat.reduceMul,Nat.reduceSub,Int.reduceLE,Int.reduceLT,Int.reduceBEq,Nat.reduceBEq,reduceCtorEq]
 obtain⟨o1,j1,h⟩:=bind_some h;obtain⟨T1,hT1⟩:=mkT fun a:Int=>⟨18,[(3,(dI a))],[]⟩
 refine EvL.jn T1 (fun a=>a=o1) ?_ ?_
 ·refine zab ?_;simp only[rnA,Nat.reduceEqDiff,reduceIte,Nat.reduceLT,Nat.reduceAdd,Nat.reduceLeDiff,Nat.reduceMul,Nat.reduceSub,Int.reduceLE,Int.reduceLT,Int.reduceBEq,Nat.reduceBEq,reduceCtorEq];obtain⟨T2,hT2⟩:=mkT fun a:(Int×Int)=>⟨18,[(0,(fzE false (eI .i64) p0)),(3,(dI a.1)),(4,(dI a.2))],[]⟩
  refine EvL.rounds (α:=(Int×Int)) T2 (fun n a=>zcS p0 n a.1 a.2=some o1) ((p0.length:Int) - 0+2:Int).toNat (1,0) (by rw[hT2]; exact wm0 [] (by exact trivial)) j1 (fun _ h=>nomatch (show(none:Option Int)=some o1 from h)) ?_;rintro n ⟨v3,v4⟩ j1;simp only[zcS]at j1;rw[congrFun hT2 (v3,v4)];refine zab ?_;try simp only[rnA,Nat.reduceEqDiff,reduceIte,Nat.reduceLT,Nat.reduceAdd,Nat.reduceLeDiff,Nat.reduceMul,Nat.reduceSub,Int.reduceLE,Int.reduceLT,Int.reduceBEq,Nat.reduceBEq,reduceCtorEq,zaY]
  cases c1:(decide (v4<(p0.length:Int)))
  ·rw[c1,cond_false]at j1;try simp only[rnA,Nat.reduceEqDiff,reduceIte,Nat.reduceLT,Nat.reduceAdd,Nat.reduceLeDiff,Nat.reduceMul,Nat.reduceSub,Int.reduceLE,Int.reduceLT,Int.reduceBEq,Nat.reduceBEq,reduceCtorEq,c1]
   replace j1:=qab j1; subst j1;exact lfj hT1 rfl (wm0 [] (by exact trivial))
  rw[c1,cond_true]at j1;obtain⟨x2,g3,j1⟩:=bind_some j1;try simp only[rnA,Nat.reduceEqDiff,reduceIte,Nat.reduceLT,Nat.reduceAdd,Nat.reduceLeDiff,Nat.reduceMul,Nat.reduceSub,Int.reduceLE,Int.reduceLT,Int.reduceBEq,Nat.reduceBEq,reduceCtorEq,zat (n:=1) (e:=(eI .i64)) rfl g3,c1]
  exact⟨((w64 (v3 * x2)),(w64 (v4+1))),j1,by rw[hT2]; exact wm0 [] (by exact trivial)⟩
 rintro v3 rfl;rw[congrFun hT1 v3];refine zab ?_;try simp only[rnA,Nat.reduceEqDiff,reduceIte,Nat.reduceLT,Nat.reduceAdd,Nat.reduceLeDiff,Nat.reduceMul,Nat.reduceSub,Int.reduceLE,Int.reduceLT,Int.reduceBEq,Nat.reduceBEq,reduceCtorEq]
 replace h:=qab h; subst h;exact zcH.ret rfl (.lit _)
def zbE(p0:S_factor_table)(p1:S_factor_table):Nat→Int→Option (Out Unit Bool)
 | 0,_=>none
 | n+1,v12=>(
bif (decide (v12<(p0.factor.vars.length:Int)))then(
(zbr p0.factor.vars v12).bind fun x2=>
(zak p1 x2).bind fun r4=>
((bif (decide (0≤r4))then(
(zbr p1.factor.zad r4).bind fun x7=>
(zbr p0.factor.zad v12).bind fun x9=>
some (!(x7 == x9)))
else(
some false):Option Bool)).bind fun v36=>
bif v36 then(
some (.ret false))
else(
zbE p0 p1 n (w64 (v12+1))))
else(
some (.go ())))
def zbV(p0:S_factor_table)(p1:S_factor_table):Option Bool:=
((zbE p0 p1 ((p0.factor.vars.length:Int) - 0+2:Int).toNat 0:Option (Out Unit Bool))).bind fun o=>match o with
| .go _=>(
some true)
| .ret r=>some r
def ze1:C:=
 .seq (rg [oW 2 0,
 oW 3 1,
 oJ 4 false])
 (.seq (.seq (rg [oF 8 0 2,
 oF 9 0 8,
 oL 10 9,
 oE 11 10,
 oK 12 0])
 (.scope (.block 0 (.loop (.seq (rg [oB 13 .lss 12 11])
 (.seq (.cond (.s 13) (.skip)
 (.exit 0))
 (.seq (.block 1 (.seq (rg [oM 14 12,
 oI 15 1 10 12,
 oL 16 15,
 oM 5 14,
 oM 6 16])
 (.seq (rg [oN 17 4 3,
 oM 18 6,
 oV 19 96 17 18,
 oM 7 19])
 (.seq (.scope (.reg true false [oM 20 7,
 oD 21 .geq 20 0,
 oM 22 21,
 oFg 23 0 3 22 true,
 oFg 24 1 23 22 true,
 oLg 25 24 22 true,
 oMg 26 7 22 true,
 ⟨some 27,.idxS 1 (.s 25) (.s 26),some (22,true)⟩,
 oLg 28 27 22 true,
 oFg 29 0 2 22 true,
 oFg 30 1 29 22 true,
 oLg 31 30 22 true,
 oMg 32 5 22 true,
 ⟨some 33,.idxS 1 (.s 31) (.s 32),some (22,true)⟩,
 oLg 34 33 22 true,
 ⟨some 35,.bin .neq (.s 28) (.s 34),some (22,true)⟩,
 ⟨some 36,.pick (.s 22) (.s 35) (.c (.bool false)),none⟩]))
 (.cond (.s 36) (.seq (rg [oJ 4 false])
 (.ret))
 (.skip))))))
 (rg [oD 37 .add 12 1,
 oM 12 37]))))))))
 (.seq (rg [oJ 4 true])
 (.ret)))
theorem zgn:zgu mC 90=some (38,ze1,[.tmp 4],false):=za5 (by kernel_rfl)
theorem zeE{p0:S_factor_table}{p1:S_factor_table}{r:Bool}(h:zbV p0 p1=some r):Lx.Fn mC 90 [(.agg [(fzE false (eI .i64) p0.factor.vars),(fzE false (eI .i64) p0.factor.zad),(fzE false (eI .i64) p0.factor.w),(fzE false (eI .i64) p0.steps)]),(.agg [(fzE false (eI .i64) p1.factor.vars),(fzE false (eI .i64) p1.factor.zad),(fzE false (eI .i64) p1.factor.w),(fzE false (eI .i64) p1.steps)])] (dB r):=by
 refine Fn.of zgn (zaW rfl) (qac rfl) ?_;unfold zbV at h;simp only[ze1,zkp];refine zab ?_;try simp only[rnA,Nat.reduceEqDiff,Nat.reduceLT,Nat.reduceAdd,reduceCtorEq,zaY]
 obtain⟨o4,j4,h⟩:=bind_some h;obtain⟨T4,hT4⟩:=mkT fun a:Unit=>⟨38,[],[]⟩
 refine EvL.jn T4 (fun a=>o4=.go a) ?_ ?_
 ·refine zab ?_;simp only[rnA];obtain⟨T7,hT7⟩:=mkT fun a:Int=>⟨38,[(2,(.ptr 0 0)),(3,(.ptr 1 0)),(10,(fzE false (eI .i64) p0.factor.vars)),(11,(dI (p0.factor.vars.length:Int))),(12,(dI a))],[.cells [(fzE false (eI .i64) p0.factor.vars),(fzE false (eI .i64) p0.factor.zad),(fzE false (eI .i64) p0.factor.w),(fzE false (eI .i64) p0.steps)],.cells [(fzE false (eI .i64) p1.factor.vars),(fzE false (eI .i64) p1.factor.zad),(fzE false (eI .i64) p1.factor.w),(fzE false (eI .i64) p1.steps)]]⟩
  refine EvL.rounds (α:=Int) T7 (fun n a=>zbE p0 p1 n a=some o4) ((p0.factor.vars.length:Int) - 0+2:Int).toNat 0 (by rw[hT7]; exact wm0 [.k,.k] ⟨MB.cs ⟨qcf,qcf,qcf,qcf,qcf⟩,⟨MB.cs ⟨qcf,qcf,qcf,qcf,qcf⟩,qcf⟩⟩) j4 (fun _ h=>nomatch (show(none:Option (Out Unit Bool))=some o4 from h)) ?_;rintro n v12 j4;simp only[zbE]at j4;rw[congrFun hT7 v12];refine zab ?_;try simp only[rnA,Nat.reduceEqDiff,Nat.reduceLT]
  cases c1:(decide (v12<(p0.factor.vars.length:Int)))
  ·rw[c1,cond_false]at j4;try simp only[rnA]
   replace j4:=qab j4; subst j4;exact lfj hT4 rfl (wm0 [] (by exact trivial))
  rw[c1,cond_true]at j4;obtain⟨x2,g3,j4⟩:=bind_some j4;obtain⟨r4,g5,j4⟩:=bind_some j4;try simp only[rnA,Nat.reduceEqDiff,Nat.reduceLT,Nat.reduceAdd,Nat.reduceLeDiff,zat (n:=1) (e:=(eI .i64)) rfl g3]
  refine EvL.fn (zam g5) rfl rfl (.cons (.zaS (.cons (zaa _ _ (fun h=>nomatch h)) (.cons (zaa _ _ (fun h=>nomatch h)) (.cons (zaa _ _ (fun h=>nomatch h)) (.cons (zaa _ _ (fun h=>nomatch h)) .nil))))) (.cons (.lit _) .nil)) ?_;try simp only[rnA,Nat.reduceEqDiff,Nat.reduceLT]
  obtain⟨o8,j8,j4⟩:=bind_some j4;obtain⟨T8,hT8⟩:=mkT fun a:Bool=>⟨38,[(2,(.ptr 0 0)),(3,(.ptr 1 0)),(10,(fzE false (eI .i64) p0.factor.vars)),(11,(dI (p0.factor.vars.length:Int))),(12,(dI v12)),(36,(dB a))],[.cells [(fzE false (eI .i64) p0.factor.vars),(fzE false (eI .i64) p0.factor.zad),(fzE false (eI .i64) p0.factor.w),(fzE false (eI .i64) p0.steps)],.cells [(fzE false (eI .i64) p1.factor.vars),(fzE false (eI .i64) p1.factor.zad),(fzE false (eI .i64) p1.factor.w),(fzE false (eI .i64) p1.steps)]]⟩
  refine EvL.jn T8 (fun a=>a=o8) ?_ ?_
  ·refine zab ?_;try simp only[rnA,Nat.reduceEqDiff,Nat.reduceLT]
   cases c6:(decide (0≤r4))
   ·rw[c6,cond_false]at j8;try simp only[rnA,Nat.reduceEqDiff,Nat.reduceLT]
    replace j8:=qab j8; subst j8;exact lfj hT8 rfl (wm0 [.k,.k] ⟨MB.cs ⟨qcf,qcf,qcf,qcf,qcf⟩,⟨MB.cs ⟨qcf,qcf,qcf,qcf,qcf⟩,qcf⟩⟩)
   rw[c6,cond_true]at j8;obtain⟨x7,g8,j8⟩:=bind_some j8;obtain⟨x9,g10,j8⟩:=bind_some j8;try simp only[rnA,Nat.reduceEqDiff,Nat.reduceLT,zat (n:=1) (e:=(eI .i64)) rfl g8,zat (n:=1) (e:=(eI .i64)) rfl g10]
   replace j8:=qab j8; subst j8;exact lfj hT8 rfl (wm0 [.k,.k] ⟨MB.cs ⟨qcf,qcf,qcf,qcf,qcf⟩,⟨MB.cs ⟨qcf,qcf,qcf,qcf,qcf⟩,qcf⟩⟩)
  rintro v36 rfl;rw[congrFun hT8 v36];refine zab ?_;try simp only[rnA,Nat.reduceEqDiff]
  cases c11:v36
  ·rw[c11,cond_false]at j4;try simp only[rnA,Nat.reduceEqDiff,Nat.reduceLT]
   exact⟨(w64 (v12+1)),j4,by rw[hT7]; exact wm0 [.k,.k] ⟨MB.cs ⟨qcf,qcf,qcf,qcf,qcf⟩,⟨MB.cs ⟨qcf,qcf,qcf,qcf,qcf⟩,qcf⟩⟩⟩
  rw[c11,cond_true]at j4;try simp only[rnA,Nat.reduceLT]
  replace j4:=qab j4; subst j4;dsimp only at h;replace h:=qab h; subst h;exact zcH.ret rfl (.lit _)
 rintro⟨⟩ rfl;dsimp only at h;rw[congrFun hT4 ()];refine zab ?_;try simp only[rnA,Nat.reduceLT]
 replace h:=qab h; subst h;exact zcH.ret rfl (.lit _)
def zcn(p0:(List Int))(p1:(List Int)):Nat→Int→Option (Out Unit Bool)
 | 0,_=>none
 | n+1,v5=>(
bif (decide (v5<(p0.length:Int)))then(
(zbr p0 v5).bind fun x3=>
(zbr p1 v5).bind fun x5=>
bif (x3 == x5)then(
zcn p0 p1 n (w64 (v5+1)))
else(
some (.ret false)))
else(
some (.go ())))
def zcT(p0:(List Int))(p1:(List Int)):Option Bool:=
bif ((p0.length:Int)==(p1.length:Int))then(
((zcn p0 p1 ((p0.length:Int) - 0+2:Int).toNat 0:Option (Out Unit Bool))).bind fun o=>match o with
| .go _=>(
some true)
| .ret r=>some r)
else(
some false)
theorem ze6{p0:(List Int)}{p1:(List Int)}{r:Bool}(h:zcT p0 p1=some r):Lx.Fn mC 87 [(fzE false (eI .i64) p0),(fzE false (eI .i64) p1)] (dB r):=by
 refine fnO (by conv=>lhs; cbv) ?_;unfold zcT at h;refine zab ?_;try simp only[rnA,Nat.reduceEqDiff,Nat.reduceLT,Nat.reduceAdd,reduceCtorEq,zaY]
 cases c1:((p0.length:Int)==(p1.length:Int))
 ·rw[c1,cond_false]at h;try simp only[rnA,Nat.reduceLT]
  replace h:=qab h; subst h;exact zcH.ret rfl (.lit _)
 rw[c1,cond_true]at h;try simp only[rnA,Nat.reduceLT]
 obtain⟨o1,j1,h⟩:=bind_some h;obtain⟨T1,hT1⟩:=mkT fun a:Unit=>⟨26,[],[]⟩
 refine EvL.jn T1 (fun a=>o1=.go a) ?_ ?_
 ·refine zab ?_;simp only[rnA];obtain⟨T2,hT2⟩:=mkT fun a:Int=>⟨26,[(0,(fzE false (eI .i64) p0)),(1,(fzE false (eI .i64) p1)),(5,(dI a))],[]⟩
  refine EvL.rounds (α:=Int) T2 (fun n a=>zcn p0 p1 n a=some o1) ((p0.length:Int) - 0+2:Int).toNat 0 (by rw[hT2]; exact wm0 [] (by exact trivial)) j1 (fun _ h=>nomatch (show(none:Option (Out Unit Bool))=some o1 from h)) ?_;rintro n v5 j1;simp only[zcn]at j1;rw[congrFun hT2 v5];refine zab ?_;try simp only[rnA,Nat.reduceEqDiff,Nat.reduceLT,reduceCtorEq,zaY]
  cases c2:(decide (v5<(p0.length:Int)))
  ·rw[c2,cond_false]at j1;try simp only[rnA]
   replace j1:=qab j1; subst j1;exact lfj hT1 rfl (wm0 [] (by exact trivial))
  rw[c2,cond_true]at j1;obtain⟨x3,g4,j1⟩:=bind_some j1;obtain⟨x5,g6,j1⟩:=bind_some j1;try simp only[rnA,Nat.reduceEqDiff,Nat.reduceLT,reduceCtorEq,zat (n:=1) (e:=(eI .i64)) rfl g4,zat (n:=1) (e:=(eI .i64)) rfl g6]
  cases c7:(x3 == x5)
  ·rw[c7,cond_false]at j1;try simp only[rnA,Nat.reduceLT]
   replace j1:=qab j1; subst j1;dsimp only at h;replace h:=qab h; subst h;exact zcH.ret rfl (.lit _)
  rw[c7,cond_true]at j1;try simp only[rnA,Nat.reduceEqDiff,Nat.reduceLT,reduceCtorEq]
  exact⟨(w64 (v5+1)),j1,by rw[hT2]; exact wm0 [] (by exact trivial)⟩
 rintro⟨⟩ rfl;dsimp only at h;rw[congrFun hT1 ()];refine zab ?_;try simp only[rnA,Nat.reduceLT]
 replace h:=qab h; subst h;exact zcH.ret rfl (.lit _)
def zdd(p0:S_api_Factor)(p1:S_api_Factor):Option Bool:=
(((zcT p0.vars p1.vars).bind fun r1=>
bif r1 then(
(zcT p0.zad p1.zad).bind fun r4=>
bif r4 then(
(zcT p0.w p1.w).bind fun r7=>
some r7)
else(
some false))
else(
some false):Option Bool)).bind fun v4=>
some v4
theorem zgR{p0:S_api_Factor}{p1:S_api_Factor}{r:Bool}(h:zdd p0 p1=some r):Lx.Fn mC 19 [(.agg [(fzE false (eI .i64) p0.vars),(fzE false (eI .i64) p0.zad),(fzE false (eI .i64) p0.w)]),(.agg [(fzE false (eI .i64) p1.vars),(fzE false (eI .i64) p1.zad),(fzE false (eI .i64) p1.w)])] (dB r):=by
 refine fnO (by conv=>lhs; cbv) ?_;unfold zdd at h;refine zab ?_;try simp only[rnA,Nat.reduceEqDiff,Nat.reduceLT,Nat.reduceAdd,reduceCtorEq]
 obtain⟨o1,j1,h⟩:=bind_some h;obtain⟨T1,hT1⟩:=mkT fun a:Bool=>⟨24,[(4,(dB a))],[]⟩
 refine EvL.jn T1 (fun a=>a=o1) ?_ ?_
 ·refine zab ?_;obtain⟨r1,g2,j1⟩:=bind_some j1;try simp only[rnA,Nat.reduceEqDiff,Nat.reduceLT,reduceCtorEq]
  refine EvL.fn (ze6 g2) rfl rfl (.cons (zaa _ _ (fun h=>nomatch h)) (.cons (zaa _ _ (fun h=>nomatch h)) .nil)) ?_;try simp only[rnA,Nat.reduceEqDiff,Nat.reduceLT,reduceCtorEq]
  cases c3:r1
  ·rw[c3,cond_false]at j1;try simp only[rnA,Nat.reduceEqDiff,Nat.reduceLT,reduceCtorEq]
   refine EvL.skip rfl ?_;try simp only[rnA,Nat.reduceEqDiff,Nat.reduceLT,reduceCtorEq]
   refine EvL.skip rfl ?_;try simp only[rnA,Nat.reduceEqDiff,Nat.reduceLT,reduceCtorEq]
   replace j1:=qab j1; subst j1;exact lfj hT1 rfl (wm0 [] (by exact trivial))
  rw[c3,cond_true]at j1;obtain⟨r4,g5,j1⟩:=bind_some j1;try simp only[rnA,Nat.reduceEqDiff,Nat.reduceLT,reduceCtorEq]
  refine EvL.fn (ze6 g5) rfl rfl (.cons (zaa _ _ (fun h=>nomatch h)) (.cons (zaa _ _ (fun h=>nomatch h)) .nil)) ?_;try simp only[rnA,Nat.reduceEqDiff,Nat.reduceLT,reduceCtorEq]
  cases c6:r4
  ·rw[c6,cond_false]at j1;try simp only[rnA,Nat.reduceEqDiff,Nat.reduceLT,reduceCtorEq]
   refine EvL.skip rfl ?_;try simp only[rnA,Nat.reduceEqDiff,Nat.reduceLT,reduceCtorEq]
   replace j1:=qab j1; subst j1;exact lfj hT1 rfl (wm0 [] (by exact trivial))
  rw[c6,cond_true]at j1;obtain⟨r7,g8,j1⟩:=bind_some j1;try simp only[rnA,Nat.reduceEqDiff,Nat.reduceLT,reduceCtorEq]
  refine EvL.fn (ze6 g8) rfl rfl (.cons (zaa _ _ (fun h=>nomatch h)) (.cons (zaa _ _ (fun h=>nomatch h)) .nil)) ?_;try simp only[rnA,Nat.reduceEqDiff,Nat.reduceLT,reduceCtorEq]
  replace j1:=qab j1; subst j1;exact lfj hT1 rfl (wm0 [] (by exact trivial))
 rintro v4 rfl;rw[congrFun hT1 v4];refine zab ?_;try simp only[rnA]
 replace h:=qab h; subst h;exact zcH.ret rfl (.lit _)
def zcg(p0:S_api_Factor):Option Int:=
(zaw p0).bind fun r1=>
some r1.2
theorem zdi{p0:S_api_Factor}{r:Int}(h:zcg p0=some r):Lx.Fn mC 24 [(.agg [(fzE false (eI .i64) p0.vars),(fzE false (eI .i64) p0.zad),(fzE false (eI .i64) p0.w)])] (dI r):=by
 refine fnO (by conv=>lhs; cbv) ?_;unfold zcg at h;refine zab ?_;obtain⟨r1,g2,h⟩:=bind_some h;try simp only[rnA,Nat.reduceEqDiff,reduceIte,Nat.reduceLT,Nat.reduceAdd,Nat.reduceLeDiff,Nat.reduceMul,Nat.reduceSub,Int.reduceLE,Int.reduceLT,Int.reduceBEq,Nat.reduceBEq,reduceCtorEq,zae,zcC]
 refine EvL.fnS (zaR g2) rfl rfl (.cons (Mzs.agg (.cons (zaf _ _ (fun h=>by cases h<;>contradiction)) (.cons (zaf _ _ (fun h=>by cases h<;>contradiction)) (.cons (zaf _ _ (fun h=>by cases h<;>contradiction)) .nil)))) .nil) ⟨⟨(zac _ _),(zac _ _),(zac _ _),qcf⟩,qcf⟩ ⟨⟨(zac _ _),(zac _ _),(zac _ _),(zac _ _),qcf⟩,qcf,qcf⟩ ?_;try simp only[rnA,Nat.reduceEqDiff,reduceIte,Nat.reduceLT,Nat.reduceAdd,Nat.reduceLeDiff,Nat.reduceMul,Nat.reduceSub,Int.reduceLE,Int.reduceLT,Int.reduceBEq,Nat.reduceBEq,reduceCtorEq,zae]
 replace h:=qab h; subst h;exact zcH.ret rfl (.lit _)
def zaI(p0:S_api_Factor)(p1:Int)(p2:S_api_Factor):Option Bool:=
((bif (p1 == 0)then(
(zdd p0 p2).bind fun r2=>
some r2)
else(
some false):Option Bool)).bind fun v5=>
some v5
theorem zbc{p0:S_api_Factor}{p1:Int}{p2:S_api_Factor}{r:Bool}(h:zaI p0 p1 p2=some r):Lx.Fn mC 107 [(.agg [(fzE false (eI .i64) p0.vars),(fzE false (eI .i64) p0.zad),(fzE false (eI .i64) p0.w)]),(dI p1),(.fptr false (zaj.c false p2))] (dB r):=by
 refine fnO (by conv=>lhs; cbv) ?_;unfold zaI at h;refine zab ?_;try simp only[rnA,Nat.reduceEqDiff,reduceIte,Nat.reduceLT,Nat.reduceAdd,Nat.reduceLeDiff,Nat.reduceMul,Nat.reduceSub,Int.reduceLE,Int.reduceLT,Int.reduceBEq,Nat.reduceBEq,reduceCtorEq,zae,zcC]
 obtain⟨o1,j1,h⟩:=bind_some h;obtain⟨T1,hT1⟩:=mkT fun a:Bool=>⟨13,[(5,(dB a))],[]⟩
 refine EvL.jn T1 (fun a=>a=o1) ?_ ?_
 ·refine zab ?_;try simp only[rnA,Nat.reduceEqDiff,reduceIte,Nat.reduceLT,Nat.reduceAdd,Nat.reduceLeDiff,Nat.reduceMul,Nat.reduceSub,Int.reduceLE,Int.reduceLT,Int.reduceBEq,Nat.reduceBEq,reduceCtorEq,zae]
  cases c1:(p1 == 0)
  ·rw[c1,cond_false]at j1;try simp only[rnA,Nat.reduceEqDiff,reduceIte,Nat.reduceLT,Nat.reduceAdd,Nat.reduceLeDiff,Nat.reduceMul,Nat.reduceSub,Int.reduceLE,Int.reduceLT,Int.reduceBEq,Nat.reduceBEq,reduceCtorEq,zae,c1]
   refine EvL.skip rfl ?_;try simp only[rnA,Nat.reduceEqDiff,reduceIte,Nat.reduceLT,Nat.reduceAdd,Nat.reduceLeDiff,Nat.reduceMul,Nat.reduceSub,Int.reduceLE,Int.reduceLT,Int.reduceBEq,Nat.reduceBEq,reduceCtorEq,zae,c1]
   replace j1:=qab j1; subst j1;exact lfj hT1 rfl (wm0 [] (by exact trivial))
  rw[c1,cond_true]at j1;obtain⟨r2,g3,j1⟩:=bind_some j1;try simp only[rnA,Nat.reduceEqDiff,reduceIte,Nat.reduceLT,Nat.reduceAdd,Nat.reduceLeDiff,Nat.reduceMul,Nat.reduceSub,Int.reduceLE,Int.reduceLT,Int.reduceBEq,Nat.reduceBEq,reduceCtorEq,zae,c1]
  refine EvL.fn (zgR g3) rfl rfl (.cons (.zaS (.cons (zaa _ _ (fun h=>nomatch h)) (.cons (zaa _ _ (fun h=>nomatch h)) (.cons (zaa _ _ (fun h=>nomatch h)) .nil)))) (.cons (.zaS (.cons (zaa _ _ (fun h=>nomatch h)) (.cons (zaa _ _ (fun h=>nomatch h)) (.cons (zaa _ _ (fun h=>nomatch h)) .nil)))) .nil)) ?_;try simp only[rnA,Nat.reduceEqDiff,reduceIte,Nat.reduceLT,Nat.reduceAdd,Nat.reduceLeDiff,Nat.reduceMul,Nat.reduceSub,Int.reduceLE,Int.reduceLT,Int.reduceBEq,Nat.reduceBEq,reduceCtorEq,zae,c1]
  replace j1:=qab j1; subst j1;exact lfj hT1 rfl (wm0 [] (by exact trivial))
 rintro v5 rfl;rw[congrFun hT1 v5];refine zab ?_;try simp only[rnA,Nat.reduceEqDiff,reduceIte,Nat.reduceLT,Nat.reduceAdd,Nat.reduceLeDiff,Nat.reduceMul,Nat.reduceSub,Int.reduceLE,Int.reduceLT,Int.reduceBEq,Nat.reduceBEq,reduceCtorEq,zae]
 replace h:=qab h; subst h;exact zcH.ret rfl (.lit _)
def zbp(p0:S_api_Factor)(p1:Int)(p2:Int):Option Bool:=
((bif (p1 == p2)then(
(zdd p0 (S_api_Factor.mk [] [] [])).bind fun r2=>
some r2)
else(
some false):Option Bool)).bind fun v5=>
some v5
theorem zbW{p0:S_api_Factor}{p1:Int}{p2:Int}{r:Bool}(h:zbp p0 p1 p2=some r):Lx.Fn mC 108 [(.agg [(fzE false (eI .i64) p0.vars),(fzE false (eI .i64) p0.zad),(fzE false (eI .i64) p0.w)]),(dI p1),(.fptr false ((eI .i64).c false p2))] (dB r):=by
 refine fnO (by conv=>lhs; cbv) ?_;unfold zbp at h;refine zab ?_;try simp only[rnA,Nat.reduceEqDiff,reduceIte,Nat.reduceLT,Nat.reduceAdd,Nat.reduceLeDiff,Nat.reduceMul,Nat.reduceSub,Int.reduceLE,Int.reduceLT,Int.reduceBEq,Nat.reduceBEq,reduceCtorEq,zae,zcC]
 obtain⟨o1,j1,h⟩:=bind_some h;obtain⟨T1,hT1⟩:=mkT fun a:Bool=>⟨14,[(5,(dB a))],[]⟩
 refine EvL.jn T1 (fun a=>a=o1) ?_ ?_
 ·refine zab ?_;try simp only[rnA,Nat.reduceEqDiff,reduceIte,Nat.reduceLT,Nat.reduceAdd,Nat.reduceLeDiff,Nat.reduceMul,Nat.reduceSub,Int.reduceLE,Int.reduceLT,Int.reduceBEq,Nat.reduceBEq,reduceCtorEq,zae]
  cases c1:(p1 == p2)
  ·rw[c1,cond_false]at j1;try simp only[rnA,Nat.reduceEqDiff,reduceIte,Nat.reduceLT,Nat.reduceAdd,Nat.reduceLeDiff,Nat.reduceMul,Nat.reduceSub,Int.reduceLE,Int.reduceLT,Int.reduceBEq,Nat.reduceBEq,reduceCtorEq,zae,c1]
   refine EvL.skip rfl ?_;try simp only[rnA,Nat.reduceEqDiff,reduceIte,Nat.reduceLT,Nat.reduceAdd,Nat.reduceLeDiff,Nat.reduceMul,Nat.reduceSub,Int.reduceLE,Int.reduceLT,Int.reduceBEq,Nat.reduceBEq,reduceCtorEq,zae,c1]
   replace j1:=qab j1; subst j1;exact lfj hT1 rfl (wm0 [] (by exact trivial))
  rw[c1,cond_true]at j1;obtain⟨r2,g3,j1⟩:=bind_some j1;try simp only[rnA,Nat.reduceEqDiff,reduceIte,Nat.reduceLT,Nat.reduceAdd,Nat.reduceLeDiff,Nat.reduceMul,Nat.reduceSub,Int.reduceLE,Int.reduceLT,Int.reduceBEq,Nat.reduceBEq,reduceCtorEq,zae,c1]
  refine EvL.fn (zgR g3) rfl rfl (.cons (.zaS (.cons (zaa _ _ (fun h=>nomatch h)) (.cons (zaa _ _ (fun h=>nomatch h)) (.cons (zaa _ _ (fun h=>nomatch h)) .nil)))) (.cons (.zaS (.cons (zai (eI .i64)) (.cons (zai (eI .i64)) (.cons (zai (eI .i64)) .nil)))) .nil)) ?_;try simp only[rnA,Nat.reduceEqDiff,reduceIte,Nat.reduceLT,Nat.reduceAdd,Nat.reduceLeDiff,Nat.reduceMul,Nat.reduceSub,Int.reduceLE,Int.reduceLT,Int.reduceBEq,Nat.reduceBEq,reduceCtorEq,zae,c1]
  replace j1:=qab j1; subst j1;exact lfj hT1 rfl (wm0 [] (by exact trivial))
 rintro v5 rfl;rw[congrFun hT1 v5];refine zab ?_;try simp only[rnA,Nat.reduceEqDiff,reduceIte,Nat.reduceLT,Nat.reduceAdd,Nat.reduceLeDiff,Nat.reduceMul,Nat.reduceSub,Int.reduceLE,Int.reduceLT,Int.reduceBEq,Nat.reduceBEq,reduceCtorEq,zae]
 replace h:=qab h; subst h;exact zcH.ret rfl (.lit _)
def za4(p1:(List Int))(p0:S_factor_table):Nat→Int→Int→(List Int)→Option (Int×(List Int))
 | 0,_,_,_=>none
 | n+1,v9,v24,l3=>(
bif (decide (v24<(p1.length:Int)))then(
(zbr p1 v24).bind fun x4=>
(zak p0 x4).bind fun r6=>
(zbr p0.factor.zad r6).bind fun x8=>
(zbr l3 v24).bind fun x10=>
(zgs l3 v24 x8).bind fun y12=>
za4 p1 p0 n (w64 (v9 * x8)) (w64 (v24+1)) y12)
else(
some (v9,l3)))
def za1(p1:(List Int))(p0:S_factor_table)(l3:(List Int)):Nat→Int→Int→(List Int)→Option (List Int)
 | 0,_,_,_=>none
 | n+1,v14,v15,l6=>(
bif (decide (0≤v15))then(
(zbr p1 v15).bind fun x19=>
(zak p0 x19).bind fun r21=>
(zbr l6 r21).bind fun x23=>
(zgs l6 r21 v14).bind fun y25=>
(zbr l3 v15).bind fun x27=>
za1 p1 p0 l3 n (w64 (v14 * x27)) (w64 (v15 - 1)) y25)
else(
some l6))
def zaJ(p0:S_factor_table)(v9:Int):List (Int×Int×(List Int))→(List Int)→Option (Out3 (List Int) (List Int) Empty)
 | [],l4=>some (.go l4)
 | y33 :: ys,l4=>(
(zbr l4 y33.2.1).bind fun x34=>
(zbr p0.factor.w y33.1).bind fun x36=>
(zcR x34 x36).bind fun r38=>
(zgs l4 y33.2.1 r38.1).bind fun y40=>
bif r38.2 then(
zaJ p0 v9 ys y40)
else(
some (.brk y40)))
def zbB(p0:S_factor_table)(p1:(List Int)):Option (S_api_Factor×Int):=
(zd3 8 (p1.length:Int) 0).bind fun y1=>
((za4 p1 p0 ((p1.length:Int) - 0+2:Int).toNat 1 0 y1:Option ((Int×(List Int))))).bind fun o=>match o with
|(v9,l3)=>(
(zd3 8 v9 0).bind fun y14=>
(zd3 8 (p0.factor.vars.length:Int) 0).bind fun y16=>
((za1 p1 p0 l3 ((w64 ((p1.length:Int) - 1)) - 0+2:Int).toNat 1 (w64 ((p1.length:Int) - 1)) y16:Option (List Int))).bind fun l6=>
(zaT p0.factor.zad l6).bind fun r29=>
(((zoZ r29.1 r29.2).bind fun u31=>
((zaJ p0 v9 u31 y14:Option (Out3 (List Int) (List Int) Empty))).bind fun o=>match o with
| .go l4=>(
some (true,l4))
| .brk l4=>(
some (false,l4))
| .ret r=>nomatch r:Option ((Bool×(List Int))))).bind fun o=>match o with
|(b7_0,l4)=>(
bif b7_0 then(
some ((S_api_Factor.mk p1 l3 l4),0))
else(
some ((S_api_Factor.mk [] [] []),6))))
def zcq:C:=
 .seq (rg [oW 3 0,
 oW 5 2,
 ⟨some 6,.alloc [(.slice none 0 0),(.slice none 0 0),(.slice none 0 0)],none⟩,
 oK 7 0])
 (.scope (.seq (rg [oM 19 1,
 oE 20 19,
 ⟨some 21,.mk 1 8 [(.int .i64 0)] (.s 20) (.s 20),none⟩,
 oM 8 21,
 oK 9 1])
 (.seq (.seq (rg [oM 22 1,
 oE 23 22,
 oK 24 0])
 (.scope (.block 0 (.loop (.seq (rg [oB 25 .lss 24 23])
 (.seq (.cond (.s 25) (.skip)
 (.exit 0))
 (.seq (.block 1 (.seq (rg [oM 26 24,
 oI 27 1 22 24,
 oL 28 27,
 oM 10 26,
 oM 11 28])
 (.seq (.reg true true [oM 29 8,
 oM 30 10,
 oF 31 0 3,
 oF 32 1 31,
 oL 33 32,
 oN 34 4 3,
 oM 35 11,
 oV 36 96 34 35,
 oI 37 1 33 36,
 oL 38 37,
 oI 39 1 29 30,
 oS 1 39 38])
 (rg [oM 40 9,
 oM 41 8,
 oM 42 10,
 oI 43 1 41 42,
 oL 44 43,
 oB 45 .mul 40 44,
 oM 9 45]))))
 (rg [oD 46 .add 24 1,
 oM 24 46]))))))))
 (.seq (.reg true false [oM 47 9,
 oF 49 0 3,
 oF 50 0 49,
 oL 51 50,
 oE 52 51,
 ⟨some 48,.mk 1 8 [(.int .i64 0)] (.s 47) (.s 47),none⟩,
 ⟨some 12,.alloc [(.slice none 0 0)],none⟩,
 ⟨none,.avo [(.s 50)] (.s 12),none⟩,
 oS 1 12 48,
 ⟨some 53,.mk 1 8 [(.int .i64 0)] (.s 52) (.s 52),none⟩,
 oM 13 53,
 oK 14 1])
 (.seq (.seq (rg [oM 54 1,
 oE 55 54,
 oD 56 .sub 55 1,
 oM 15 56])
 (.scope (.block 2 (.loop (.seq (.seq (rg [oM 57 15,
 oD 58 .geq 57 0])
 (.cond (.s 58) (.skip)
 (.exit 2)))
 (.seq (.block 3 (.seq (.reg true false [oM 61 13,
 oN 62 4 3,
 oM 63 1,
 oM 64 15,
 oI 65 1 63 64,
 oL 66 65,
 oM 68 14,
 oV 67 96 62 66,
 oI 69 1 61 67,
 oS 1 69 68])
 (rg [oM 70 14,
 oM 71 8,
 oM 72 15,
 oI 73 1 71 72,
 oL 74 73,
 oB 75 .mul 70 74,
 oM 14 75])))
 (rg [oM 59 15,
 oD 60 .sub 59 1,
 oM 15 60])))))))
 (.seq (rg [⟨some 16,.alloc [(.bool false)],none⟩,
 ⟨none,.store 1 (.s 16) (.c (.bool true)),none⟩])
 (.seq (.label 0)
 (.seq (.seq (rg [oF 76 0 3,
 oF 77 1 76,
 oL 78 77,
 oM 79 13,
 oV 80 93 78 79])
 (.scope (.block 4 (.zdH (.s 80) [81,82] (.seq (rg [oM 17 81])
 (rg [oM 18 82]))
 (.block 5 (.seq (.reg true true [oL 84 12,
 oM 85 18,
 oF 86 0 5,
 oL 87 86,
 oL 88 12,
 oM 89 18,
 oI 90 1 88 89,
 oL 91 90,
 oF 92 0 3,
 oF 93 2 92,
 oL 94 93,
 oM 95 17,
 oI 96 1 94 95,
 oL 97 96,
 ⟨some 98,.zbF (.s 87) [(.s 91),(.s 97)],none⟩,
 oM 83 98,
 oX 99 83 0,
 oX 100 83 1,
 oI 101 1 84 85,
 oS 1 101 99,
 oS 1 16 100])
 (.block 6 (.seq (rg [oL 103 16,
 ⟨some 104,.un .not (.s 103),none⟩,
 oM 102 104])
 (.cond (.s 102) (.exit 4)
 (.skip))))))))))
 (.seq (.seq (rg [oL 105 16,
 ⟨some 106,.un .not (.s 105),none⟩])
 (.cond (.s 106) (.seq (rg [⟨some 107,.build [(.slice none 0 0),(.slice none 0 0),(.slice none 0 0)] [],none⟩,
 oS 3 6 107,
 oK 7 6])
 (.ret))
 (.skip)))
 (.seq (rg [oM 108 1,
 oM 109 8,
 oL 110 12,
 ⟨some 111,.build [(.slice none 0 0),(.slice none 0 0),(.slice none 0 0)] [(0,1,(.s 108)),(1,1,(.s 109)),(2,1,(.s 110))],none⟩,
 oS 3 6 111,
 oK 7 0])
 (.ret)))))))))))
theorem zds:zgu mC 106=some (112,zcq,[.cell 6 (some 3),.tmp 7],false):=za5 (by kernel_rfl)
theorem zdI{p0:S_factor_table}{p1:(List Int)}{r:(S_api_Factor×Int)}(h:zbB p0 p1=some r):Lx.FnA mC 106 [(.agg [(fzE false (eI .i64) p0.factor.vars),(fzE false (eI .i64) p0.factor.zad),(fzE false (eI .i64) p0.factor.w),(fzE false (eI .i64) p0.steps)]),(fzE false (eI .i64) p1),(.agg [(.clo 102 [] [])])] (.tup [(.agg [(fzE false (eI .i64) r.1.vars),(fzE false (eI .i64) r.1.zad),(fzE false (eI .i64) r.1.w)]),(dI r.2)]):=by
 refine FnA.of zds (zaW rfl) (qac rfl) ?_;unfold zbB at h;simp only[zcq,zkp];refine zab ?_;try simp only[rnA,Nat.reduceEqDiff,Nat.reduceLT,Nat.reduceAdd,reduceCtorEq]
 refine EvL.scope (zab ?_);obtain⟨y1,g2,h⟩:=bind_some h;try simp only[rnA,Nat.reduceEqDiff,Nat.reduceLT,Nat.reduceAdd,reduceCtorEq,zaY,(zas g2).1.1,(zas g2).1.2,qbv,(show List.replicate (Int.toNat (p1.length:Int)) [(dI 0)]=y1.map ((eI .i64).c true)from zbD g2 ((eI .i64).c true))]
 obtain⟨o8,j8,h⟩:=bind_some h;obtain⟨T8,hT8⟩:=mkT fun a:(Int×(List Int))=>⟨112,[(1,(fzE false (eI .i64) p1)),(3,(.ptr 0 0)),(5,(.ptr 1 0)),(6,(.ptr 2 0)),(8,(.sl 3 0 1 (Int.toNat (p1.length:Int)) (some (Int.toNat (p1.length:Int))) (Int.toNat (p1.length:Int)))),(9,(dI a.1))],[.cells [(fzE false (eI .i64) p0.factor.vars),(fzE false (eI .i64) p0.factor.zad),(fzE false (eI .i64) p0.factor.w),(fzE false (eI .i64) p0.steps)],.cells [(.clo 102 [] [])],.cells [zar,zar,zar],.els 1 (a.2.map ((eI .i64).c true))]⟩
 refine EvL.jn T8 (fun a=>a=o8∧a.2.length=(Int.toNat (p1.length:Int))) ?_ ?_
 ·refine zab ?_;simp only[rnA];obtain⟨T9,hT9⟩:=mkT fun a:(Int×Int×(List Int))=>⟨112,[(1,(fzE false (eI .i64) p1)),(3,(.ptr 0 0)),(5,(.ptr 1 0)),(6,(.ptr 2 0)),(8,(.sl 3 0 1 (Int.toNat (p1.length:Int)) (some (Int.toNat (p1.length:Int))) (Int.toNat (p1.length:Int)))),(9,(dI a.1)),(22,(fzE false (eI .i64) p1)),(23,(dI (p1.length:Int))),(24,(dI a.2.1))],[.cells [(fzE false (eI .i64) p0.factor.vars),(fzE false (eI .i64) p0.factor.zad),(fzE false (eI .i64) p0.factor.w),(fzE false (eI .i64) p0.steps)],.cells [(.clo 102 [] [])],.cells [zar,zar,zar],.els 1 (a.2.2.map ((eI .i64).c true))]⟩
  refine EvL.rounds (α:=(Int×Int×(List Int))) T9 (fun n a=>za4 p1 p0 n a.1 a.2.1 a.2.2=some o8∧a.2.2.length=(Int.toNat (p1.length:Int))) ((p1.length:Int) - 0+2:Int).toNat (1,0,y1) (by rw[hT9]; exact wm0 [.k,.k,.k,.k] ⟨MB.cs ⟨qcf,qcf,qcf,qcf,qcf⟩,⟨MB.cs ⟨⟨qcf,qcf⟩,qcf⟩,⟨MB.cs ⟨qcf,qcf,qcf,qcf⟩,⟨MB.es (eI .i64) true y1,qcf⟩⟩⟩⟩) ⟨j8,zbm g2⟩ (fun _ h=>nomatch (show(none:Option (Int×(List Int)))=some o8 from h.1)) ?_;rintro n ⟨v9,v24,l3⟩ ⟨j8,el3⟩;simp only[za4]at j8;rw[congrFun hT9 (v9,v24,l3)];refine zab ?_;try simp only[rnA,Nat.reduceEqDiff,Nat.reduceLT]
  cases c3:(decide (v24<(p1.length:Int)))
  ·rw[c3,cond_false]at j8;try simp only[rnA]
   replace j8:=qab j8; subst j8;exact⟨_,⟨rfl,el3⟩,by rw[hT8]; exact wm0 [.k,.k,.k,.k] ⟨MB.cs ⟨qcf,qcf,qcf,qcf,qcf⟩,⟨MB.cs ⟨⟨qcf,qcf⟩,qcf⟩,⟨MB.cs ⟨qcf,qcf,qcf,qcf⟩,⟨MB.es (eI .i64) true l3,qcf⟩⟩⟩⟩⟩
  rw[c3,cond_true]at j8;obtain⟨x4,g5,j8⟩:=bind_some j8;obtain⟨r6,g7,j8⟩:=bind_some j8;try simp only[rnA,Nat.reduceEqDiff,Nat.reduceLT,Nat.reduceAdd,Nat.reduceLeDiff,zat (n:=1) (e:=(eI .i64)) rfl g5]
  refine EvL.fn (zam g7) rfl rfl (.cons (.zaS (.cons (zaa _ _ (fun h=>nomatch h)) (.cons (zaa _ _ (fun h=>nomatch h)) (.cons (zaa _ _ (fun h=>nomatch h)) (.cons (zaa _ _ (fun h=>nomatch h)) .nil))))) (.cons (.lit _) .nil)) ?_;obtain⟨x8,g9,j8⟩:=bind_some j8;obtain⟨x10,g11,j8⟩:=bind_some j8;obtain⟨y12,g13,j8⟩:=bind_some j8;try simp only[rnA,Nat.reduceEqDiff,Nat.reduceLT,Nat.reduceLeDiff,zat (n:=1) (e:=(eI .i64)) rfl g9,el3,zbh g11,(show v24<(((Int.toNat (p1.length:Int)):Nat):Int)from el3 ▸ zbe g11),zaH g11 ((eI .i64).c true),(show(l3.map ((eI .i64).c true)).set v24.toNat [(dI x8)]=y12.map ((eI .i64).c true)from zbv g13 ((eI .i64).c true)),(za8 g13).trans el3,zaH (zkm g13) ((eI .i64).c true)]
  exact⟨((w64 (v9 * x8)),(w64 (v24+1)),y12),⟨j8,(za8 g13).trans el3⟩,by rw[hT9]; exact wm0 [.k,.k,.k,.k] ⟨MB.cs ⟨qcf,qcf,qcf,qcf,qcf⟩,⟨MB.cs ⟨⟨qcf,qcf⟩,qcf⟩,⟨MB.cs ⟨qcf,qcf,qcf,qcf⟩,⟨MB.es (eI .i64) true y12,qcf⟩⟩⟩⟩⟩
 rintro⟨v9,l3⟩ ⟨rfl,el3⟩;dsimp only at h;rw[congrFun hT8 (v9,l3)];refine zab ?_;obtain⟨y14,g15,h⟩:=bind_some h;obtain⟨y16,g17,h⟩:=bind_some h;try simp only[rnA,Nat.reduceEqDiff,Nat.reduceLT,Nat.reduceAdd,Nat.reduceLeDiff,Nat.reduceBEq,zaY,(zas g15).1.1,(zas g15).1.2,qbv,(show List.replicate (Int.toNat v9) [(dI 0)]=y14.map ((eI .i64).c true)from zbD g15 ((eI .i64).c true)),(zas g17).1.1,(zas g17).1.2,(show List.replicate (Int.toNat (p0.factor.vars.length:Int)) [(dI 0)]=y16.map ((eI .i64).c true)from zbD g17 ((eI .i64).c true))]
 obtain⟨o10,j10,h⟩:=bind_some h;obtain⟨T10,hT10⟩:=mkT fun a:(List Int)=>⟨112,[(1,(fzE false (eI .i64) p1)),(3,(.ptr 0 0)),(5,(.ptr 1 0)),(6,(.ptr 2 0)),(8,(.sl 3 0 1 (Int.toNat (p1.length:Int)) (some (Int.toNat (p1.length:Int))) (Int.toNat (p1.length:Int)))),(12,(.ptr 5 0)),(13,(.sl 6 0 1 (Int.toNat (p0.factor.vars.length:Int)) (some (Int.toNat (p0.factor.vars.length:Int))) (Int.toNat (p0.factor.vars.length:Int))))],[.cells [(fzE false (eI .i64) p0.factor.vars),(fzE false (eI .i64) p0.factor.zad),(fzE false (eI .i64) p0.factor.w),(fzE false (eI .i64) p0.steps)],.cells [(.clo 102 [] [])],.cells [zar,zar,zar],.els 1 (l3.map ((eI .i64).c true)),.els 1 (y14.map ((eI .i64).c true)),.cells [(.sl 4 0 1 (Int.toNat v9) (some (Int.toNat v9)) (Int.toNat v9))],.els 1 (a.map ((eI .i64).c true))]⟩
 refine EvL.jn T10 (fun a=>a=o10∧a.length=(Int.toNat (p0.factor.vars.length:Int))) ?_ ?_
 ·refine zab ?_;simp only[rnA];obtain⟨T11,hT11⟩:=mkT fun a:(Int×Int×(List Int))=>⟨112,[(1,(fzE false (eI .i64) p1)),(3,(.ptr 0 0)),(5,(.ptr 1 0)),(6,(.ptr 2 0)),(8,(.sl 3 0 1 (Int.toNat (p1.length:Int)) (some (Int.toNat (p1.length:Int))) (Int.toNat (p1.length:Int)))),(12,(.ptr 5 0)),(13,(.sl 6 0 1 (Int.toNat (p0.factor.vars.length:Int)) (some (Int.toNat (p0.factor.vars.length:Int))) (Int.toNat (p0.factor.vars.length:Int)))),(14,(dI a.1)),(15,(dI a.2.1))],[.cells [(fzE false (eI .i64) p0.factor.vars),(fzE false (eI .i64) p0.factor.zad),(fzE false (eI .i64) p0.factor.w),(fzE false (eI .i64) p0.steps)],.cells [(.clo 102 [] [])],.cells [zar,zar,zar],.els 1 (l3.map ((eI .i64).c true)),.els 1 (y14.map ((eI .i64).c true)),.cells [(.sl 4 0 1 (Int.toNat v9) (some (Int.toNat v9)) (Int.toNat v9))],.els 1 (a.2.2.map ((eI .i64).c true))]⟩
  refine EvL.rounds (α:=(Int×Int×(List Int))) T11 (fun n a=>za1 p1 p0 l3 n a.1 a.2.1 a.2.2=some o10∧a.2.2.length=(Int.toNat (p0.factor.vars.length:Int))) ((w64 ((p1.length:Int) - 1)) - 0+2:Int).toNat (1,(w64 ((p1.length:Int) - 1)),y16) (by rw[hT11]; exact wm0 [.k,.k,.k,.k,.k,.k,.k] ⟨MB.cs ⟨qcf,qcf,qcf,qcf,qcf⟩,⟨MB.cs ⟨⟨qcf,qcf⟩,qcf⟩,⟨MB.cs ⟨qcf,qcf,qcf,qcf⟩,⟨MB.es (eI .i64) true l3,⟨MB.es (eI .i64) true y14,⟨MB.cs ⟨rfl,qcf⟩,⟨MB.es (eI .i64) true y16,qcf⟩⟩⟩⟩⟩⟩⟩) ⟨j10,zbm g17⟩ (fun _ h=>nomatch (show(none:Option (List Int))=some o10 from h.1)) ?_;rintro n ⟨v14,v15,l6⟩ ⟨j10,el6⟩;simp only[za1]at j10;rw[congrFun hT11 (v14,v15,l6)];refine zab ?_;try simp only[rnA,Nat.reduceEqDiff,Nat.reduceLT]
  cases c18:(decide (0≤v15))
  ·rw[c18,cond_false]at j10;try simp only[rnA]
   replace j10:=qab j10; subst j10;exact⟨_,⟨rfl,el6⟩,by rw[hT10]; exact wm0 [.k,.k,.k,.k,.k,.k,.k] ⟨MB.cs ⟨qcf,qcf,qcf,qcf,qcf⟩,⟨MB.cs ⟨⟨qcf,qcf⟩,qcf⟩,⟨MB.cs ⟨qcf,qcf,qcf,qcf⟩,⟨MB.es (eI .i64) true l3,⟨MB.es (eI .i64) true y14,⟨MB.cs ⟨rfl,qcf⟩,⟨MB.es (eI .i64) true l6,qcf⟩⟩⟩⟩⟩⟩⟩⟩
  rw[c18,cond_true]at j10;obtain⟨x19,g20,j10⟩:=bind_some j10;obtain⟨r21,g22,j10⟩:=bind_some j10;try simp only[rnA,Nat.reduceEqDiff,Nat.reduceLT,Nat.reduceAdd,Nat.reduceLeDiff,zat (n:=1) (e:=(eI .i64)) rfl g20]
  refine EvL.fn (zam g22) rfl rfl (.cons (.zaS (.cons (zaa _ _ (fun h=>nomatch h)) (.cons (zaa _ _ (fun h=>nomatch h)) (.cons (zaa _ _ (fun h=>nomatch h)) (.cons (zaa _ _ (fun h=>nomatch h)) .nil))))) (.cons (.lit _) .nil)) ?_;obtain⟨x23,g24,j10⟩:=bind_some j10;obtain⟨y25,g26,j10⟩:=bind_some j10;obtain⟨x27,g28,j10⟩:=bind_some j10;try simp only[rnA,Nat.reduceEqDiff,Nat.reduceLT,Nat.reduceLeDiff,el6,zbh g24,(show r21<(((Int.toNat (p0.factor.vars.length:Int)):Nat):Int)from el6 ▸ zbe g24),zaH g24 ((eI .i64).c true),(show(l6.map ((eI .i64).c true)).set r21.toNat [(dI v14)]=y25.map ((eI .i64).c true)from zbv g26 ((eI .i64).c true)),el3,zbh g28,(show v15<(((Int.toNat (p1.length:Int)):Nat):Int)from el3 ▸ zbe g28),zaH g28 ((eI .i64).c true)]
  exact⟨((w64 (v14 * x27)),(w64 (v15 - 1)),y25),⟨j10,(za8 g26).trans el6⟩,by rw[hT11]; exact wm0 [.k,.k,.k,.k,.k,.k,.k] ⟨MB.cs ⟨qcf,qcf,qcf,qcf,qcf⟩,⟨MB.cs ⟨⟨qcf,qcf⟩,qcf⟩,⟨MB.cs ⟨qcf,qcf,qcf,qcf⟩,⟨MB.es (eI .i64) true l3,⟨MB.es (eI .i64) true y14,⟨MB.cs ⟨rfl,qcf⟩,⟨MB.es (eI .i64) true y25,qcf⟩⟩⟩⟩⟩⟩⟩⟩
 rintro l6 ⟨rfl,el6⟩;rw[congrFun hT10 l6];refine zab ?_;try simp only[rnA,Nat.reduceEqDiff,Nat.reduceLT,Nat.reduceAdd,Nat.reduceLeDiff]
 refine EvL.zeV (S':=⟨112,[(1,(fzE false (eI .i64) p1)),(3,(.ptr 0 0)),(5,(.ptr 1 0)),(6,(.ptr 2 0)),(8,(.sl 3 0 1 (Int.toNat (p1.length:Int)) (some (Int.toNat (p1.length:Int))) (Int.toNat (p1.length:Int)))),(12,(.ptr 5 0)),(16,(.ptr 7 0)),(78,(fzE false (eI .i64) p0.factor.zad)),(79,(fzE true (eI .i64) l6))],[.cells [(fzE false (eI .i64) p0.factor.vars),(fzE false (eI .i64) p0.factor.zad),(fzE false (eI .i64) p0.factor.w),(fzE false (eI .i64) p0.steps)],.cells [(.clo 102 [] [])],.cells [zar,zar,zar],.els 1 (l3.map ((eI .i64).c true)),.els 1 (y14.map ((eI .i64).c true)),.cells [(.sl 4 0 1 (Int.toNat v9) (some (Int.toNat v9)) (Int.toNat v9))],.gone,.cells [(dB true)]]⟩) (zbH.m0 [.k,.k,.k,.k,.k,.k,.f,.k] rfl (msq (msq (msq (msq (msq (msq (msq (msq (mf rfl (zaP (e:=(eI .i64)) (t:=true) rfl rfl (.inl rfl) (el6).symm (el6).symm (fun k h=>by cases h; exact qaj _) (fun h=>by cases h<;>rfl)) trivial))))))))) ⟨MB.cs ⟨qcf,qcf,qcf,qcf,qcf⟩,⟨MB.cs ⟨⟨qcf,qcf⟩,qcf⟩,⟨MB.cs ⟨qcf,qcf,qcf,qcf⟩,⟨MB.es (eI .i64) true l3,⟨MB.es (eI .i64) true y14,⟨MB.cs ⟨rfl,qcf⟩,⟨rfl,⟨MB.cs ⟨qcf,qcf⟩,qcf⟩⟩⟩⟩⟩⟩⟩⟩) (zab ?_);obtain⟨r29,g30,h⟩:=bind_some h;try simp only[rnA]
 refine EvL.fnS (zbd g30) rfl rfl (.cons (zaf _ _ (fun h=>by cases h<;>contradiction)) (.cons (zaf _ _ (fun h=>by cases h<;>contradiction)) .nil)) ⟨(zac _ _),(zac _ _),qcf⟩ ⟨qcf,⟨⟨rfl,zac _ _,qcf⟩,⟨rfl,zac _ _,qcf⟩,qcf⟩⟩ ?_;try simp only[rnA,Nat.reduceLT]
 obtain⟨o13,j13,h⟩:=bind_some h;obtain⟨T13,hT13⟩:=mkT fun a:(Bool×(List Int))=>⟨112,[(1,(fzE false (eI .i64) p1)),(6,(.ptr 2 0)),(8,(.sl 3 0 1 (Int.toNat (p1.length:Int)) (some (Int.toNat (p1.length:Int))) (Int.toNat (p1.length:Int)))),(12,(.ptr 5 0)),(16,(.ptr 7 0))],[.gone,.gone,.cells [zar,zar,zar],.els 1 (l3.map ((eI .i64).c true)),.els 1 (a.2.map ((eI .i64).c true)),.cells [(.sl 4 0 1 (Int.toNat v9) (some (Int.toNat v9)) (Int.toNat v9))],.gone,.cells [(dB a.1)]]⟩
 refine EvL.jn T13 (fun a=>a=o13∧a.2.length=(Int.toNat v9)) ?_ ?_
 ·refine zab ?_;try simp only[rnA]
  obtain⟨u31,g32,j13⟩:=bind_some j13;obtain⟨o14,j14,j13⟩:=bind_some j13;obtain⟨T14,hT14⟩:∃ T:(List Int)→List LB,T=(fun a=>[.cells [(fzE false (eI .i64) p0.factor.vars),(fzE false (eI .i64) p0.factor.zad),(fzE false (eI .i64) p0.factor.w),(fzE false (eI .i64) p0.steps)],.cells [(.clo 102 [] [])],.cells [zar,zar,zar],.els 1 (l3.map ((eI .i64).c true)),.els 1 (a.map ((eI .i64).c true)),.cells [(.sl 4 0 1 (Int.toNat v9) (some (Int.toNat v9)) (Int.toNat v9))],.gone,.cells [(dB true)]]):=⟨_,rfl⟩;obtain⟨TX14,hTX14⟩:∃ T:(List Int)→List LB,T=(fun a=>[.cells [(fzE false (eI .i64) p0.factor.vars),(fzE false (eI .i64) p0.factor.zad),(fzE false (eI .i64) p0.factor.w),(fzE false (eI .i64) p0.steps)],.cells [(.clo 102 [] [])],.cells [zar,zar,zar],.els 1 (l3.map ((eI .i64).c true)),.els 1 (a.map ((eI .i64).c true)),.cells [(.sl 4 0 1 (Int.toNat v9) (some (Int.toNat v9)) (Int.toNat v9))],.gone,.cells [(dB false)]]):=⟨_,rfl⟩;refine EvL.zeV (S':=⟨112,[(1,(fzE false (eI .i64) p1)),(3,(.ptr 0 0)),(5,(.ptr 1 0)),(6,(.ptr 2 0)),(8,(.sl 3 0 1 (Int.toNat (p1.length:Int)) (some (Int.toNat (p1.length:Int))) (Int.toNat (p1.length:Int)))),(12,(.ptr 5 0)),(16,(.ptr 7 0)),(80,(.clo 135 [] [(.fptr false ((eL (eI .i64)).c false r29.1)),(.fptr false ((eL (eI .i64)).c false r29.2))]))],T14 y14⟩) (by rw[hT14]; exact wm0 [.k,.k,.k,.k,.k,.k,.k,.k] ⟨MB.cs ⟨qcf,qcf,qcf,qcf,qcf⟩,⟨MB.cs ⟨⟨qcf,qcf⟩,qcf⟩,⟨MB.cs ⟨qcf,qcf,qcf,qcf⟩,⟨MB.es (eI .i64) true l3,⟨MB.es (eI .i64) true y14,⟨MB.cs ⟨rfl,qcf⟩,⟨MB.same trivial,⟨MB.cs ⟨qcf,qcf⟩,qcf⟩⟩⟩⟩⟩⟩⟩⟩) ?_;refine EvL.zjd (n0:=8) (za9 g32) rfl (bm:=.block 5 (.seq (.reg true true [⟨some 84,.load none (.s 12),none⟩,⟨some 85,.mov (.s 18),none⟩,⟨some 86,.fld 0 (.s 5),none⟩,⟨some 87,.load none (.s 86),none⟩,⟨some 88,.load none (.s 12),none⟩,⟨some 89,.mov (.s 18),none⟩,⟨some 90,.idxS 1 (.s 88) (.s 89),none⟩,⟨some 91,.load none (.s 90),none⟩,⟨some 92,.fld 0 (.s 3),none⟩,⟨some 93,.fld 2 (.s 92),none⟩,⟨some 94,.load none (.s 93),none⟩,⟨some 95,.mov (.s 17),none⟩,⟨some 96,.idxS 1 (.s 94) (.s 95),none⟩,⟨some 97,.load none (.s 96),none⟩,⟨some 98,.zbF (.s 87) [(.s 91),(.s 97)],none⟩,⟨some 83,.mov (.s 98),none⟩,⟨some 99,.ext (.s 83) 0,none⟩,⟨some 100,.ext (.s 83) 1,none⟩,⟨some 101,.idxS 1 (.s 84) (.s 85),none⟩,⟨none,.store 1 (.s 101) (.s 99),none⟩,⟨none,.store 1 (.s 16) (.s 100),none⟩]) (.block 6 (.seq (.reg false false [⟨some 103,.load none (.s 16),none⟩,⟨some 104,.un .not (.s 103),none⟩,⟨some 102,.mov (.s 104),none⟩]) (.cond (.s 102) (.exit 4) (.skip)))))) rfl T14 (fun i a=>zaJ p0 v9 (u31.drop i) a=some o14∧a.length=(Int.toNat v9)) (fun x L1=>match x with | .normal=>∃ a,o14=.go a∧a.length=(Int.toNat v9)∧L1=T14 a | .exit id=>∃ a,o14=.brk a∧a.length=(Int.toNat v9)∧id=4∧L1=TX14 a | .ret=>L1.length=8∧zee (8+1) L1∧(ze4 [.cell 6 (some 3),.tmp 7] ((.tup [(.agg [(fzE false (eI .i64) r.1.vars),(fzE false (eI .i64) r.1.zad),(fzE false (eI .i64) r.1.w)]),(dI r.2)]))) .ret ⟨112,[(1,(fzE false (eI .i64) p1)),(3,(.ptr 0 0)),(5,(.ptr 1 0)),(6,(.ptr 2 0)),(8,(.sl 3 0 1 (Int.toNat (p1.length:Int)) (some (Int.toNat (p1.length:Int))) (Int.toNat (p1.length:Int)))),(12,(.ptr 5 0)),(16,(.ptr 7 0)),(80,(.clo 135 [] [(.fptr false ((eL (eI .i64)).c false r29.1)),(.fptr false ((eL (eI .i64)).c false r29.2))]))],L1 ++ [.lost]⟩| _=>False) y14 ?_ (qaV _) ?_ ?_ ?_ (fun d L1 hx=>hx.elim) ?_ ?_ ?_ ?_ ?_ ?_
  ·intro a; rw[hT14]; rfl
  ·exact⟨qcf,(qac rfl),(qac rfl),(qac rfl),(qac rfl),(qac rfl),(qac rfl),⟨qcf,⟨qcf,qcf,qcf⟩⟩,qcf⟩
  ·intro a; rw[hT14]; exact⟨⟨qcf,qcf,qcf,qcf,qcf⟩,⟨⟨qcf,qcf⟩,qcf⟩,⟨qcf,qcf,qcf,qcf⟩,(zca (eI .i64) _ _ _),(zca (eI .i64) _ _ _),⟨(qac rfl),qcf⟩,qcf,⟨qcf,qcf⟩,qcf⟩
  ·intro x L1 hx;cases x with
   | normal=>obtain⟨a,_,_,rfl⟩:=hx; exact⟨by rw[hT14]; rfl,by rw[hT14]; exact⟨⟨qcf,qcf,qcf,qcf,qcf⟩,⟨⟨qcf,qcf⟩,qcf⟩,⟨qcf,qcf,qcf,qcf⟩,(zca (eI .i64) _ _ _),(zca (eI .i64) _ _ _),⟨(qac rfl),qcf⟩,qcf,⟨qcf,qcf⟩,qcf⟩⟩
   | ret=>exact⟨hx.1,hx.2.1⟩
   | exit id=>obtain⟨a,_,_,_,rfl⟩:=hx; exact⟨by rw[hTX14]; rfl,by rw[hTX14]; exact⟨⟨qcf,qcf,qcf,qcf,qcf⟩,⟨⟨qcf,qcf⟩,qcf⟩,⟨qcf,qcf,qcf,qcf⟩,(zca (eI .i64) _ _ _),(zca (eI .i64) _ _ _),⟨(qac rfl),qcf⟩,qcf,⟨qcf,qcf⟩,qcf⟩⟩
   | panic d=>exact hx.elim
  ·exact⟨j14,zbm g15⟩
  ·rintro i l4 y33 args G lpF hy ⟨hi14,el4⟩ ⟨rfl,rfl⟩ hkin;rw[zeN hy]at hi14;simp only[zaJ]at hi14;refine⟨_,_,rfl,rfl,?_⟩;rw[congrFun hT14 l4];refine zab ?_;obtain⟨x34,g35,hi14⟩:=bind_some hi14;obtain⟨x36,g37,hi14⟩:=bind_some hi14;obtain⟨r38,g39,hi14⟩:=bind_some hi14;try simp only[rnA,Nat.reduceEqDiff,Nat.reduceLT,Nat.reduceAdd,el4,zbh g35,(show y33.2.1<(((Int.toNat v9):Nat):Int)from el4 ▸ zbe g35),zaH g35 ((eI .i64).c true),zat (n:=1) (e:=(eI .i64)) rfl g37]
   refine EvL.fnv rfl rfl (zfp g39) rfl (.cons (.lit _) (.cons (.lit _) .nil)) ?_;obtain⟨y40,g41,hi14⟩:=bind_some hi14;try simp only[rnA,Nat.reduceEqDiff,Nat.reduceLT,Nat.reduceLeDiff,el4,zbh g35,(show y33.2.1<(((Int.toNat v9):Nat):Int)from el4 ▸ zbe g35),zaH g35 ((eI .i64).c true),(show(l4.map ((eI .i64).c true)).set y33.2.1.toNat [(dI r38.1)]=y40.map ((eI .i64).c true)from zbv g41 ((eI .i64).c true))]
   cases c42:r38.2
   ·rw[c42,cond_false]at hi14;try simp only[rnA,Nat.reduceEqDiff]
    replace hi14:=qab hi14; subst hi14;exact⟨TX14 y40,by rw[hTX14]; rfl,by rw[hTX14]; exact zbH.mK [.k,.k,.k,.k,.k,.k,.k,.k,.k,.k] rfl rfl qcf ⟨MB.cs ⟨qcf,qcf,qcf,qcf,qcf⟩,⟨MB.cs ⟨⟨qcf,qcf⟩,qcf⟩,⟨MB.cs ⟨qcf,qcf,qcf,qcf⟩,⟨MB.es (eI .i64) true l3,⟨MB.es (eI .i64) true y40,⟨MB.cs ⟨rfl,qcf⟩,⟨MB.same trivial,⟨MB.cs ⟨qcf,qcf⟩,⟨.same (hkin _ (by decide)),⟨MB.same (zcE _ _ _ _),qcf⟩⟩⟩⟩⟩⟩⟩⟩⟩⟩,y40,rfl,(za8 g41).trans el4,rfl⟩
   rw[c42,cond_true]at hi14;try simp only[rnA]
   exact⟨T14 y40,by rw[hT14]; rfl,by rw[hT14]; exact zbH.mK [.k,.k,.k,.k,.k,.k,.k,.k,.k,.k] rfl rfl qcf ⟨MB.cs ⟨qcf,qcf,qcf,qcf,qcf⟩,⟨MB.cs ⟨⟨qcf,qcf⟩,qcf⟩,⟨MB.cs ⟨qcf,qcf,qcf,qcf⟩,⟨MB.es (eI .i64) true l3,⟨MB.es (eI .i64) true y40,⟨MB.cs ⟨rfl,qcf⟩,⟨MB.same trivial,⟨MB.cs ⟨qcf,qcf⟩,⟨.same (hkin _ (by decide)),⟨MB.same (zcE _ _ _ _),qcf⟩⟩⟩⟩⟩⟩⟩⟩⟩⟩,y40,⟨hi14,(za8 g41).trans el4⟩,rfl⟩
  ·rintro l4 ⟨hi14,el4⟩;rw[qaW]at hi14;simp only[zaJ]at hi14;exact⟨l4,(qab hi14).symm,el4,rfl⟩
  ·rintro _ ⟨l4,oeq,el4,rfl⟩;have oeq2:=oeq.symm;subst oeq2;dsimp only at j13;rw[congrFun hT14 l4];refine zab ?_;try simp only[rnA]
   replace j13:=qab j13; subst j13;exact⟨_,⟨rfl,el4⟩,by rw[hT13]; exact wm0 [.d,.d,.k,.k,.k,.k,.d,.k] ⟨rfl,⟨rfl,⟨MB.cs ⟨qcf,qcf,qcf,qcf⟩,⟨MB.es (eI .i64) true l3,⟨MB.es (eI .i64) true l4,⟨MB.cs ⟨rfl,qcf⟩,⟨rfl,⟨MB.cs ⟨qcf,qcf⟩,qcf⟩⟩⟩⟩⟩⟩⟩⟩⟩
  ·rintro id _ ⟨l4,oeq,el4,rfl,rfl⟩;rw[oeq]at j13;dsimp only at j13;rw[congrFun hTX14 l4];refine zab ?_;try simp only[rnA]
   replace j13:=qab j13; subst j13;exact⟨_,⟨rfl,el4⟩,by rw[hT13]; exact wm0 [.d,.d,.k,.k,.k,.k,.d,.k] ⟨rfl,⟨rfl,⟨MB.cs ⟨qcf,qcf,qcf,qcf⟩,⟨MB.es (eI .i64) true l3,⟨MB.es (eI .i64) true l4,⟨MB.cs ⟨rfl,qcf⟩,⟨rfl,⟨MB.cs ⟨qcf,qcf⟩,qcf⟩⟩⟩⟩⟩⟩⟩⟩⟩
  intro L1 hx; exact hx.2.2
 rintro⟨b7_0,l4⟩ ⟨rfl,el4⟩;dsimp only at h;rw[congrFun hT13 (b7_0,l4)];refine zab ?_;try simp only[rnA,Nat.reduceEqDiff,Nat.reduceLT]
 cases c43:b7_0
 ·rw[c43,cond_false]at h;try simp only[rnA,Nat.reduceEqDiff,Nat.reduceLT,Nat.reduceAdd,Nat.reduceLeDiff]
  replace h:=qab h; subst h;exact ze4.ret rfl (Snp.zdf (.cons (.zaS (.cons (zai (eI .i64)) (.cons (zai (eI .i64)) (.cons (zai (eI .i64)) .nil)))) (.cons (.lit _) .nil)))
 rw[c43,cond_true]at h;try simp only[rnA,Nat.reduceEqDiff,Nat.reduceLT,Nat.reduceAdd,Nat.reduceLeDiff]
 replace h:=qab h; subst h;exact ze4.ret rfl (Snp.zdf (.cons (.zaS (.cons (zaa _ _ (fun h=>nomatch h)) (.cons (zb2 (e:=(eI .i64)) (t:=true) rfl (.inl rfl) (el3).symm (el3).symm (fun k h=>by cases h; exact qaj _) (fun h=>nomatch h)) (.cons (zb2 (e:=(eI .i64)) (t:=true) rfl (.inl rfl) (el4).symm (el4).symm (fun k h=>by cases h; exact qaj _) (fun h=>nomatch h)) .nil)))) (.cons (.lit _) .nil)))
def zcM(p0:S_api_Factor)(p1:Int):Option (S_api_Factor×Int):=
(zaw p0).bind fun r1=>
bif (r1.2 == 0)then(
(zak r1.1 p1).bind fun r4=>
bif (decide (r4<0))then(
some ((S_api_Factor.mk [] [] []),4))
else(
(zc6 8 r1.1.factor.vars).bind fun y7=>
(zpw y7 r4 (w64 (r4+1))).bind fun y9=>
(zbB r1.1 y9).bind fun r11=>
some (r11.1,r11.2)))
else(
some ((S_api_Factor.mk [] [] []),r1.2))
def zdS:C:=
 .seq (rg [oW 3 0,
 oW 5 2,
 ⟨some 6,.alloc [(.slice none 0 0),(.slice none 0 0),(.slice none 0 0)],none⟩,
 oK 7 0])
 (.seq (rg [oN 12 3 3,
 oU 13 89 12,
 oM 11 13,
 oX 14 11 0,
 oX 15 11 1,
 ⟨some 8,.alloc [(.slice none 0 0),(.slice none 0 0),(.slice none 0 0),(.slice none 0 0)],none⟩,
 oS 4 8 14,
 oM 9 15])
 (.seq (.seq (rg [oM 16 9,
 oD 17 .neq 16 0])
 (.cond (.s 17) (.seq (rg [⟨some 18,.build [(.slice none 0 0),(.slice none 0 0),(.slice none 0 0)] [],none⟩,
 oM 19 9,
 oS 3 6 18,
 oM 7 19])
 (.ret))
 (.skip)))
 (.seq (rg [oN 20 4 8,
 oM 21 1,
 oV 22 96 20 21,
 oM 10 22])
 (.seq (.seq (rg [oM 23 10,
 oD 24 .lss 23 0])
 (.cond (.s 24) (.seq (rg [⟨some 25,.build [(.slice none 0 0),(.slice none 0 0),(.slice none 0 0)] [],none⟩,
 oS 3 6 25,
 oK 7 4])
 (.ret))
 (.skip)))
 (.seq (.reg true false [oN 26 4 8,
 oF 27 0 8,
 oF 28 0 27,
 oL 29 28,
 oM 31 10,
 oM 32 10,
 oD 33 .add 32 1,
 oN 35 1 5,
 oU 30 49 29,
 ⟨none,.avo [(.s 8),(.s 5)] (.s 30),none⟩,
 ⟨some 34,.call 103 [(.s 30),(.s 31),(.s 33)],none⟩,
 ⟨some 36,.call 106 [(.s 26),(.s 34),(.s 35)],none⟩,
 oX 37 36 0,
 oX 38 36 1,
 oS 3 6 37,
 oM 7 38])
 (.ret))))))
theorem zfa:zgu mC 100=some (39,zdS,[.cell 6 (some 3),.tmp 7],false):=za5 (by kernel_rfl)
theorem zfj{p0:S_api_Factor}{p1:Int}{r:(S_api_Factor×Int)}(h:zcM p0 p1=some r):Lx.FnA mC 100 [(.agg [(fzE false (eI .i64) p0.vars),(fzE false (eI .i64) p0.zad),(fzE false (eI .i64) p0.w)]),(dI p1),(.agg [(.clo 102 [] [])])] (.tup [(.agg [(fzE false (eI .i64) r.1.vars),(fzE false (eI .i64) r.1.zad),(fzE false (eI .i64) r.1.w)]),(dI r.2)]):=by
 refine FnA.of zfa (zaW rfl) (qac rfl) ?_;unfold zcM at h;simp only[zdS,zkp];refine zab ?_;obtain⟨r1,g2,h⟩:=bind_some h;try simp only[rnA,Nat.reduceEqDiff,Nat.reduceLT,Nat.reduceAdd,Nat.reduceLeDiff,reduceCtorEq]
 refine EvL.fnS (zaR g2) rfl rfl (.cons (Mzs.agg (.cons (zaf _ _ (fun h=>by cases h<;>contradiction)) (.cons (zaf _ _ (fun h=>by cases h<;>contradiction)) (.cons (zaf _ _ (fun h=>by cases h<;>contradiction)) .nil)))) .nil) ⟨⟨(zac _ _),(zac _ _),(zac _ _),qcf⟩,qcf⟩ ⟨⟨(zac _ _),(zac _ _),(zac _ _),(zac _ _),qcf⟩,qcf,qcf⟩ ?_;try simp only[rnA,Nat.reduceEqDiff,Nat.reduceLT,Nat.reduceAdd,Nat.reduceLeDiff,reduceCtorEq]
 cases c3:(r1.2 == 0)
 ·rw[c3,cond_false]at h;try simp only[rnA,Nat.reduceEqDiff,Nat.reduceLT,Nat.reduceAdd,Nat.reduceLeDiff,reduceCtorEq]
  replace h:=qab h; subst h;exact ze4.ret rfl (Snp.zdf (.cons (.zaS (.cons (zai (eI .i64)) (.cons (zai (eI .i64)) (.cons (zai (eI .i64)) .nil)))) (.cons (.lit _) .nil)))
 rw[c3,cond_true]at h;obtain⟨r4,g5,h⟩:=bind_some h;try simp only[rnA,Nat.reduceEqDiff,Nat.reduceLT,Nat.reduceAdd,Nat.reduceLeDiff,reduceCtorEq]
 refine EvL.fn (zam g5) rfl rfl (.cons (.zaS (.cons (zaa _ _ (fun h=>nomatch h)) (.cons (zaa _ _ (fun h=>nomatch h)) (.cons (zaa _ _ (fun h=>nomatch h)) (.cons (zaa _ _ (fun h=>nomatch h)) .nil))))) (.cons (.lit _) .nil)) ?_;try simp only[rnA,Nat.reduceEqDiff,Nat.reduceLT,reduceCtorEq]
 cases c6:(decide (r4<0))
 ·rw[c6,cond_false]at h;obtain⟨y7,g8,h⟩:=bind_some h;try simp only[rnA,Nat.reduceEqDiff,Nat.reduceLT,Nat.reduceAdd,Nat.reduceLeDiff,reduceCtorEq]
  refine EvL.clone (t:=false) (zs:=r1.1.factor.vars) g8 rfl rfl ?_;obtain⟨y9,g10,h⟩:=bind_some h;try simp only[rnA,Nat.reduceEqDiff,Nat.reduceLT,Nat.reduceAdd,Nat.reduceBEq,reduceCtorEq]
  refine EvL.delete (zs:=y7) (t:=true) g10 rfl rfl rfl rfl rfl rfl ?_;refine EvL.zeV (S':=⟨39,[(6,(.ptr 2 0)),(26,(.agg [(fzE false (eI .i64) r1.1.factor.vars),(fzE false (eI .i64) r1.1.factor.zad),(fzE false (eI .i64) r1.1.factor.w),(fzE false (eI .i64) r1.1.steps)])),(34,(fzE true (eI .i64) y9)),(35,(.agg [(.clo 102 [] [])]))],[.gone,.gone,.cells [zar,zar,zar]]⟩) (zbH.m0 [.d,.d,.k,.d,.f] rfl (msq (ms rfl ⟨qcf,qcf,qcf,qcf,qcf⟩ (mf rfl (zg5 (xs:=y7) (ys:=y9) (t:=true) (ziX g10) rfl rfl rfl (fun _=>rfl)) (ms rfl ⟨⟨qcf,qcf⟩,qcf⟩ trivial)))) ⟨rfl,⟨rfl,⟨MB.cs ⟨qcf,qcf,qcf,qcf⟩,qcf⟩⟩⟩) (zab ?_);obtain⟨r11,g12,h⟩:=bind_some h;try simp only[rnA]
  refine EvL.fnS (zdI g12) rfl rfl (.cons (Mzs.agg (.cons (zaf _ _ (fun h=>by cases h<;>contradiction)) (.cons (zaf _ _ (fun h=>by cases h<;>contradiction)) (.cons (zaf _ _ (fun h=>by cases h<;>contradiction)) (.cons (zaf _ _ (fun h=>by cases h<;>contradiction)) .nil))))) (.cons (zaf _ _ (fun h=>by cases h<;>contradiction)) (.cons (Mzs.agg (.cons zf0 .nil)) .nil))) ⟨⟨(zac _ _),(zac _ _),(zac _ _),(zac _ _),qcf⟩,(zac _ _),⟨⟨qcf,qcf⟩,qcf⟩,qcf⟩ ⟨⟨(zac _ _),(zac _ _),(zac _ _),qcf⟩,qcf,qcf⟩ ?_;try simp only[rnA,Nat.reduceEqDiff,Nat.reduceLT,Nat.reduceAdd,Nat.reduceLeDiff]
  replace h:=qab h; subst h;exact ze4.ret rfl (Snp.zdf (.cons (.zaS (.cons (zaa _ _ (fun h=>nomatch h)) (.cons (zaa _ _ (fun h=>nomatch h)) (.cons (zaa _ _ (fun h=>nomatch h)) .nil)))) (.cons (.lit _) .nil)))
 rw[c6,cond_true]at h;try simp only[rnA,Nat.reduceEqDiff,Nat.reduceLT,Nat.reduceAdd,Nat.reduceLeDiff,reduceCtorEq]
 replace h:=qab h; subst h;exact ze4.ret rfl (Snp.zdf (.cons (.zaS (.cons (zai (eI .i64)) (.cons (zai (eI .i64)) (.cons (zai (eI .i64)) .nil)))) (.cons (.lit _) .nil)))
end Go.Dc
