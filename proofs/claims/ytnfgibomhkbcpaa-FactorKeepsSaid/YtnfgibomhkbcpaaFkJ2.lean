/-
 What r02_Size computes. Conditions: none.
-/
import Derived.Test.YtnfgibomhkbcpaaFkJ1
set_option linter.unusedSimpArgs false
set_option linter.unusedVariables false
set_option maxRecDepth 100000
set_option maxHeartbeats 4000000
namespace Go.Dc
open Go Go.Mx Go.Lx Go.Proofs
def zc9(p0:(List Int)):Nat→Int→Int→Option Int
 | 0,_,_=>none
 | n+1,v3,v4=>(
bif (decide (v4<(p0.length:Int)))then(
(za4 p0 v4).bind fun x2=>
zc9 p0 n (w64 (v3 * x2)) (w64 (v4+1)))
else(
some v3))
def zcJ(p0:(List Int)):Option Int:=
((zc9 p0 ((p0.length:Int) - 0+2:Int).toNat 1 0:Option Int)).bind fun v3=>
some v3
theorem zfJ{p0:(List Int)}{r:Int}(h:zcJ p0=some r):Lx.Fn mC 82 [(fzE false (eI .i64) p0)] (dI r):=by
 refine fnO (by conv=>lhs; cbv) ?_;unfold zcJ at h;refine zaa ?_;try simp only[rnA,Nat.reduceEqDiff,reduceIte,Nat.reduceLT,Nat.reduceAdd,Nat.reduceLeDiff,Nat.reduceMul,Nat.reduceSub,Int.reduceLE,Int.reduceLT,Int.reduceBEq,Nat.reduceBEq,reduceCtorEq]
 obtain⟨o1,j1,h⟩:=bind_some h;obtain⟨T1,hT1⟩:=mkT fun a:Int=>⟨18,[(3,(dI a))],[]⟩
 refine EvL.jn T1 (fun a=>a=o1) ?_ ?_
 ·refine zaa ?_;simp only[rnA,Nat.reduceEqDiff,reduceIte,Nat.reduceLT,Nat.reduceAdd,Nat.reduceLeDiff,Nat.reduceMul,Nat.reduceSub,Int.reduceLE,Int.reduceLT,Int.reduceBEq,Nat.reduceBEq,reduceCtorEq];obtain⟨T2,hT2⟩:=mkT fun a:(Int×Int)=>⟨18,[(0,(fzE false (eI .i64) p0)),(3,(dI a.1)),(4,(dI a.2))],[]⟩
  refine EvL.rounds (α:=(Int×Int)) T2 (fun n a=>zc9 p0 n a.1 a.2=some o1) ((p0.length:Int) - 0+2:Int).toNat (1,0) (by rw[hT2]; exact wm0 [] (by exact trivial)) j1 (fun _ h=>nomatch (show(none:Option Int)=some o1 from h)) ?_;rintro n ⟨v3,v4⟩ j1;simp only[zc9]at j1;rw[congrFun hT2 (v3,v4)];refine zaa ?_;try simp only[rnA,Nat.reduceEqDiff,reduceIte,Nat.reduceLT,Nat.reduceAdd,Nat.reduceLeDiff,Nat.reduceMul,Nat.reduceSub,Int.reduceLE,Int.reduceLT,Int.reduceBEq,Nat.reduceBEq,reduceCtorEq,zav]
  cases c1:(decide (v4<(p0.length:Int)))
  ·rw[c1,cond_false]at j1;try simp only[rnA,Nat.reduceEqDiff,reduceIte,Nat.reduceLT,Nat.reduceAdd,Nat.reduceLeDiff,Nat.reduceMul,Nat.reduceSub,Int.reduceLE,Int.reduceLT,Int.reduceBEq,Nat.reduceBEq,reduceCtorEq,c1]
   replace j1:=qaa j1; subst j1;exact lfj hT1 rfl (wm0 [] (by exact trivial))
  rw[c1,cond_true]at j1;obtain⟨x2,g3,j1⟩:=bind_some j1;try simp only[rnA,Nat.reduceEqDiff,reduceIte,Nat.reduceLT,Nat.reduceAdd,Nat.reduceLeDiff,Nat.reduceMul,Nat.reduceSub,Int.reduceLE,Int.reduceLT,Int.reduceBEq,Nat.reduceBEq,reduceCtorEq,zam (n:=1) (e:=(eI .i64)) rfl g3,c1]
  exact⟨((w64 (v3 * x2)),(w64 (v4+1))),j1,by rw[hT2]; exact wm0 [] (by exact trivial)⟩
 rintro v3 rfl;rw[congrFun hT1 v3];refine zaa ?_;try simp only[rnA,Nat.reduceEqDiff,reduceIte,Nat.reduceLT,Nat.reduceAdd,Nat.reduceLeDiff,Nat.reduceMul,Nat.reduceSub,Int.reduceLE,Int.reduceLT,Int.reduceBEq,Nat.reduceBEq,reduceCtorEq]
 replace h:=qaa h; subst h;exact zbK.ret rfl (.lit _)
def zdM(p1:(List Int))(p0:(List Int)):Nat→Int→(List Int)→Option (List Int)
 | 0,_,_=>none
 | n+1,v6,l0=>(
bif (decide (v6<(p1.length:Int)))then(
(za4 p1 v6).bind fun x2=>
(za4 p0 x2).bind fun x4=>
(zfB 8 l0 [x4]).bind fun y6=>
zdM p1 p0 n (w64 (v6+1)) y6)
else(
some l0))
def zex(p0:(List Int))(p1:(List Int)):Option (List Int):=
((zdM p1 p0 ((p1.length:Int) - 0+2:Int).toNat 0 []:Option (List Int))).bind fun l0=>
some l0
theorem zhu{p0:(List Int)}{p1:(List Int)}{r:(List Int)}(h:zex p0 p1=some r):Lx.Fn mC 129 [(fzE false (eI .i64) p0),(fzE false (eI .i64) p1)] (fzE true (eI .i64) r):=by
 refine fnO (by conv=>lhs; cbv) ?_;unfold zex at h;refine zaa ?_;try simp only[rnA,Nat.reduceLT,Nat.reduceAdd]
 obtain⟨o1,j1,h⟩:=bind_some h;obtain⟨T1,hT1⟩:=mkT fun a:(List Int)=>⟨24,[(5,(.sl 0 0 1 a.length none a.length))],[.grow 1 (a.map ((eI .i64).c true))]⟩
 refine EvL.jn T1 (fun a=>a=o1) ?_ ?_
 ·refine zaa ?_;simp only[rnA];obtain⟨T2,hT2⟩:=mkT fun a:(Int×(List Int))=>⟨24,[(0,(fzE false (eI .i64) p0)),(1,(fzE false (eI .i64) p1)),(5,(.sl 0 0 1 a.2.length none a.2.length)),(6,(dI a.1))],[.grow 1 (a.2.map ((eI .i64).c true))]⟩
  refine EvL.zeI (zbx.ghost (n:=1) (k:=5) (by decide) rfl) ?_;refine EvL.rounds (α:=(Int×(List Int))) T2 (fun n a=>zdM p1 p0 n a.1 a.2=some o1) ((p1.length:Int) - 0+2:Int).toNat (0,[]) (by rw[hT2]; exact wm0 [.k] ⟨MB.gs (eI .i64) true [],qca⟩) j1 (fun _ h=>nomatch (show(none:Option (List Int))=some o1 from h)) ?_;rintro n ⟨v6,l0⟩ j1;simp only[zdM]at j1;rw[congrFun hT2 (v6,l0)];refine zaa ?_;try simp only[rnA,Nat.reduceEqDiff,Nat.reduceLT,reduceCtorEq,zav]
  cases c1:(decide (v6<(p1.length:Int)))
  ·rw[c1,cond_false]at j1;try simp only[rnA]
   replace j1:=qaa j1; subst j1;exact lfj hT1 rfl (wm0 [.k] ⟨MB.gs (eI .i64) true l0,qca⟩)
  rw[c1,cond_true]at j1;obtain⟨x2,g3,j1⟩:=bind_some j1;obtain⟨x4,g5,j1⟩:=bind_some j1;obtain⟨y6,g7,j1⟩:=bind_some j1;try simp only[rnA,Nat.reduceEqDiff,Nat.reduceLT,Nat.reduceLeDiff,reduceCtorEq,zam (n:=1) (e:=(eI .i64)) rfl g3,zam (n:=1) (e:=(eI .i64)) rfl g5,zev g7,(show l0.length+1=y6.length from zdf g7),(show l0.map ((eI .i64).c true)++ [[(dI x4)]]=y6.map ((eI .i64).c true)from zdQ g7 ((eI .i64).c true))]
  exact⟨((w64 (v6+1)),y6),j1,by rw[hT2]; exact wm0 [.k] ⟨MB.gs (eI .i64) true y6,qca⟩⟩
 rintro l0 rfl;rw[congrFun hT1 l0];refine zaa ?_;try simp only[rnA,Nat.reduceEqDiff,Nat.reduceLT]
 replace h:=qaa h; subst h;exact zbK.ret rfl (zbr (e:=(eI .i64)) (t:=true) rfl (.inr rfl) rfl rfl (fun k h=>nomatch h) (fun _=>rfl))
def zcO(p0:S_factor_table)(p1:S_factor_table):Nat→Int→Option (Out Unit Bool)
 | 0,_=>none
 | n+1,v12=>(
bif (decide (v12<(p0.factor.vars.length:Int)))then(
(za4 p0.factor.vars v12).bind fun x2=>
(zaj p1 x2).bind fun r4=>
((bif (decide (0≤r4))then(
(za4 p1.factor.cards r4).bind fun x7=>
(za4 p0.factor.cards v12).bind fun x9=>
some (!(x7 == x9)))
else(
some false):Option Bool)).bind fun v36=>
bif v36 then(
some (.ret false))
else(
zcO p0 p1 n (w64 (v12+1))))
else(
some (.go ())))
def zdd(p0:S_factor_table)(p1:S_factor_table):Option Bool:=
((zcO p0 p1 ((p0.factor.vars.length:Int) - 0+2:Int).toNat 0:Option (Out Unit Bool))).bind fun o=>match o with
| .go _=>(
some true)
| .ret r=>some r
def zfm:C:=
 .seq (rg [oW 2 0,
 oW 3 1,
 oJ 4 false])
 (.seq (.seq (rg [oF 8 0 2,
 oF 9 0 8,
 oL 10 9,
 oE 11 10,
 oK 12 0])
 (.scope (.block 0 (.loop (.seq (rg [oB 13 .lss 12 11])
 (.seq (.cond (.s 13) (.skip)
 (.exit 0))
 (.seq (.block 1 (.seq (rg [oM 14 12,
 oI 15 1 10 12,
 oL 16 15,
 oM 5 14,
 oM 6 16])
 (.seq (rg [oN 17 4 3,
 oM 18 6,
 oV 19 96 17 18,
 oM 7 19])
 (.seq (.scope (.reg true false [oM 20 7,
 oD 21 .geq 20 0,
 oM 22 21,
 oFg 23 0 3 22 true,
 oFg 24 1 23 22 true,
 oLg 25 24 22 true,
 oMg 26 7 22 true,
 ⟨some 27,.idxS 1 (.s 25) (.s 26),some (22,true)⟩,
 oLg 28 27 22 true,
 oFg 29 0 2 22 true,
 oFg 30 1 29 22 true,
 oLg 31 30 22 true,
 oMg 32 5 22 true,
 ⟨some 33,.idxS 1 (.s 31) (.s 32),some (22,true)⟩,
 oLg 34 33 22 true,
 ⟨some 35,.bin .neq (.s 28) (.s 34),some (22,true)⟩,
 ⟨some 36,.pick (.s 22) (.s 35) (.c (.bool false)),none⟩]))
 (.cond (.s 36) (.seq (rg [oJ 4 false])
 (.ret))
 (.skip))))))
 (rg [oD 37 .add 12 1,
 oM 12 37]))))))))
 (.seq (rg [oJ 4 true])
 (.ret)))
theorem zgU:zgx mC 90=some (38,zfm,[.tmp 4],false):=zaV (by kernel_rfl)
theorem zeX{p0:S_factor_table}{p1:S_factor_table}{r:Bool}(h:zdd p0 p1=some r):Lx.Fn mC 90 [(.agg [(fzE false (eI .i64) p0.factor.vars),(fzE false (eI .i64) p0.factor.cards),(fzE false (eI .i64) p0.factor.w),(fzE false (eI .i64) p0.steps)]),(.agg [(fzE false (eI .i64) p1.factor.vars),(fzE false (eI .i64) p1.factor.cards),(fzE false (eI .i64) p1.factor.w),(fzE false (eI .i64) p1.steps)])] (dB r):=by
 refine Fn.of zgU (zaR rfl) (qad rfl) ?_;unfold zdd at h;simp only[zfm,zi4];refine zaa ?_;try simp only[rnA,Nat.reduceEqDiff,Nat.reduceLT,Nat.reduceAdd,reduceCtorEq,zav]
 obtain⟨o4,j4,h⟩:=bind_some h;obtain⟨T4,hT4⟩:=mkT fun a:Unit=>⟨38,[],[]⟩
 refine EvL.jn T4 (fun a=>o4=.go a) ?_ ?_
 ·refine zaa ?_;simp only[rnA];obtain⟨T7,hT7⟩:=mkT fun a:Int=>⟨38,[(2,(.ptr 0 0)),(3,(.ptr 1 0)),(10,(fzE false (eI .i64) p0.factor.vars)),(11,(dI (p0.factor.vars.length:Int))),(12,(dI a))],[.cells [(fzE false (eI .i64) p0.factor.vars),(fzE false (eI .i64) p0.factor.cards),(fzE false (eI .i64) p0.factor.w),(fzE false (eI .i64) p0.steps)],.cells [(fzE false (eI .i64) p1.factor.vars),(fzE false (eI .i64) p1.factor.cards),(fzE false (eI .i64) p1.factor.w),(fzE false (eI .i64) p1.steps)]]⟩
  refine EvL.rounds (α:=Int) T7 (fun n a=>zcO p0 p1 n a=some o4) ((p0.factor.vars.length:Int) - 0+2:Int).toNat 0 (by rw[hT7]; exact wm0 [.k,.k] ⟨MB.cs ⟨qca,qca,qca,qca,qca⟩,⟨MB.cs ⟨qca,qca,qca,qca,qca⟩,qca⟩⟩) j4 (fun _ h=>nomatch (show(none:Option (Out Unit Bool))=some o4 from h)) ?_;rintro n v12 j4;simp only[zcO]at j4;rw[congrFun hT7 v12];refine zaa ?_;try simp only[rnA,Nat.reduceEqDiff,Nat.reduceLT]
  cases c1:(decide (v12<(p0.factor.vars.length:Int)))
  ·rw[c1,cond_false]at j4;try simp only[rnA]
   replace j4:=qaa j4; subst j4;exact lfj hT4 rfl (wm0 [] (by exact trivial))
  rw[c1,cond_true]at j4;obtain⟨x2,g3,j4⟩:=bind_some j4;obtain⟨r4,g5,j4⟩:=bind_some j4;try simp only[rnA,Nat.reduceEqDiff,Nat.reduceLT,Nat.reduceAdd,Nat.reduceLeDiff,zam (n:=1) (e:=(eI .i64)) rfl g3]
  refine EvL.fn (zan g5) rfl rfl (.cons (.za5 (.cons (zab _ _ (fun h=>nomatch h)) (.cons (zab _ _ (fun h=>nomatch h)) (.cons (zab _ _ (fun h=>nomatch h)) (.cons (zab _ _ (fun h=>nomatch h)) .nil))))) (.cons (.lit _) .nil)) ?_;try simp only[rnA,Nat.reduceEqDiff,Nat.reduceLT]
  obtain⟨o8,j8,j4⟩:=bind_some j4;obtain⟨T8,hT8⟩:=mkT fun a:Bool=>⟨38,[(2,(.ptr 0 0)),(3,(.ptr 1 0)),(10,(fzE false (eI .i64) p0.factor.vars)),(11,(dI (p0.factor.vars.length:Int))),(12,(dI v12)),(36,(dB a))],[.cells [(fzE false (eI .i64) p0.factor.vars),(fzE false (eI .i64) p0.factor.cards),(fzE false (eI .i64) p0.factor.w),(fzE false (eI .i64) p0.steps)],.cells [(fzE false (eI .i64) p1.factor.vars),(fzE false (eI .i64) p1.factor.cards),(fzE false (eI .i64) p1.factor.w),(fzE false (eI .i64) p1.steps)]]⟩
  refine EvL.jn T8 (fun a=>a=o8) ?_ ?_
  ·refine zaa ?_;try simp only[rnA,Nat.reduceEqDiff,Nat.reduceLT]
   cases c6:(decide (0≤r4))
   ·rw[c6,cond_false]at j8;try simp only[rnA,Nat.reduceEqDiff,Nat.reduceLT]
    replace j8:=qaa j8; subst j8;exact lfj hT8 rfl (wm0 [.k,.k] ⟨MB.cs ⟨qca,qca,qca,qca,qca⟩,⟨MB.cs ⟨qca,qca,qca,qca,qca⟩,qca⟩⟩)
   rw[c6,cond_true]at j8;obtain⟨x7,g8,j8⟩:=bind_some j8;obtain⟨x9,g10,j8⟩:=bind_some j8;try simp only[rnA,Nat.reduceEqDiff,Nat.reduceLT,zam (n:=1) (e:=(eI .i64)) rfl g8,zam (n:=1) (e:=(eI .i64)) rfl g10]
   replace j8:=qaa j8; subst j8;exact lfj hT8 rfl (wm0 [.k,.k] ⟨MB.cs ⟨qca,qca,qca,qca,qca⟩,⟨MB.cs ⟨qca,qca,qca,qca,qca⟩,qca⟩⟩)
  rintro v36 rfl;rw[congrFun hT8 v36];refine zaa ?_;try simp only[rnA,Nat.reduceEqDiff]
  cases c11:v36
  ·rw[c11,cond_false]at j4;try simp only[rnA,Nat.reduceEqDiff,Nat.reduceLT]
   exact⟨(w64 (v12+1)),j4,by rw[hT7]; exact wm0 [.k,.k] ⟨MB.cs ⟨qca,qca,qca,qca,qca⟩,⟨MB.cs ⟨qca,qca,qca,qca,qca⟩,qca⟩⟩⟩
  rw[c11,cond_true]at j4;try simp only[rnA,Nat.reduceLT]
  replace j4:=qaa j4; subst j4;dsimp only at h;replace h:=qaa h; subst h;exact zbK.ret rfl (.lit _)
 rintro⟨⟩ rfl;dsimp only at h;rw[congrFun hT4 ()];refine zaa ?_;try simp only[rnA,Nat.reduceLT]
 replace h:=qaa h; subst h;exact zbK.ret rfl (.lit _)
def zcG(p0:S_api_Factor)(p1:Int):Nat→Int→Option (Out Unit Int)
 | 0,_=>none
 | n+1,v5=>(
bif (decide (v5<(p0.vars.length:Int)))then(
(za4 p0.vars v5).bind fun x2=>
bif (x2 == p1)then(
some (.ret v5))
else(
zcG p0 p1 n (w64 (v5+1))))
else(
some (.go ())))
def zcr(p0:S_api_Factor)(p1:Int):Option Int:=
((zcG p0 p1 ((p0.vars.length:Int) - 0+2:Int).toNat 0:Option (Out Unit Int))).bind fun o=>match o with
| .go _=>(
some (-1))
| .ret r=>some r
theorem zgK{p0:S_api_Factor}{p1:Int}{r:Int}(h:zcr p0 p1=some r):Lx.Fn mC 35 [(.agg [(fzE false (eI .i64) p0.vars),(fzE false (eI .i64) p0.cards),(fzE false (eI .i64) p0.w)]),(dI p1)] (dI r):=by
 refine fnO (by conv=>lhs; cbv) ?_;unfold zcr at h;refine zaa ?_;try simp only[rnA,Nat.reduceLT,Nat.reduceAdd,reduceCtorEq]
 obtain⟨o1,j1,h⟩:=bind_some h;obtain⟨T1,hT1⟩:=mkT fun a:Unit=>⟨21,[],[]⟩
 refine EvL.jn T1 (fun a=>o1=.go a) ?_ ?_
 ·refine zaa ?_;simp only[rnA];obtain⟨T2,hT2⟩:=mkT fun a:Int=>⟨21,[(1,(dI p1)),(2,(.ptr 0 0)),(5,(dI a))],[.cells [(fzE false (eI .i64) p0.vars),(fzE false (eI .i64) p0.cards),(fzE false (eI .i64) p0.w)]]⟩
  refine EvL.rounds (α:=Int) T2 (fun n a=>zcG p0 p1 n a=some o1) ((p0.vars.length:Int) - 0+2:Int).toNat 0 (by rw[hT2]; exact wm0 [.k] ⟨MB.cs ⟨qca,qca,qca,qca⟩,qca⟩) j1 (fun _ h=>nomatch (show(none:Option (Out Unit Int))=some o1 from h)) ?_;rintro n v5 j1;simp only[zcG]at j1;rw[congrFun hT2 v5];refine zaa ?_;try simp only[rnA,Nat.reduceEqDiff,Nat.reduceLT,zav]
  cases c1:(decide (v5<(p0.vars.length:Int)))
  ·rw[c1,cond_false]at j1;try simp only[rnA]
   replace j1:=qaa j1; subst j1;exact lfj hT1 rfl (wm0 [] (by exact trivial))
  rw[c1,cond_true]at j1;obtain⟨x2,g3,j1⟩:=bind_some j1;try simp only[rnA,Nat.reduceEqDiff,Nat.reduceLT,zam (n:=1) (e:=(eI .i64)) rfl g3]
  cases c4:(x2 == p1)
  ·rw[c4,cond_false]at j1;try simp only[rnA,Nat.reduceEqDiff,Nat.reduceLT]
   exact⟨(w64 (v5+1)),j1,by rw[hT2]; exact wm0 [.k] ⟨MB.cs ⟨qca,qca,qca,qca⟩,qca⟩⟩
  rw[c4,cond_true]at j1;try simp only[rnA,Nat.reduceEqDiff,Nat.reduceLT]
  replace j1:=qaa j1; subst j1;dsimp only at h;replace h:=qaa h; subst h;exact zbK.ret rfl (.lit _)
 rintro⟨⟩ rfl;dsimp only at h;rw[congrFun hT1 ()];refine zaa ?_;try simp only[rnA,Nat.reduceLT]
 replace h:=qaa h; subst h;exact zbK.ret rfl (.lit _)
def zca(p1:(List Int))(p0:(List Int)):Nat→Int→Int→Int→Option Int
 | 0,_,_,_=>none
 | n+1,v5,v6,v7=>(
bif (decide (0≤v7))then(
(za4 p1 v7).bind fun x2=>
(za4 p0 v7).bind fun x4=>
zca p1 p0 n (w64 (v5+(w64 (x2 * v6)))) (w64 (v6 * x4)) (w64 (v7 - 1)))
else(
some v5))
def zc5(p0:(List Int))(p1:(List Int)):Option Int:=
((zca p1 p0 ((w64 ((p0.length:Int) - 1)) - 0+2:Int).toNat 0 1 (w64 ((p0.length:Int) - 1)):Option Int)).bind fun v5=>
some v5
theorem zj6{p0:(List Int)}{p1:(List Int)}{r:Int}(h:zc5 p0 p1=some r):Lx.Fn mC 132 [(fzE false (eI .i64) p0),(fzE false (eI .i64) p1)] (dI r):=by
 refine fnO (by conv=>lhs; cbv) ?_;unfold zc5 at h;refine zaa ?_;try simp only[rnA,Nat.reduceEqDiff,reduceIte,Nat.reduceLT,Nat.reduceAdd,Nat.reduceLeDiff,Nat.reduceMul,Nat.reduceSub,Int.reduceLE,Int.reduceLT,Int.reduceBEq,Nat.reduceBEq,reduceCtorEq,zav]
 obtain⟨o1,j1,h⟩:=bind_some h;obtain⟨T1,hT1⟩:=mkT fun a:Int=>⟨30,[(5,(dI a))],[]⟩
 refine EvL.jn T1 (fun a=>a=o1) ?_ ?_
 ·refine zaa ?_;simp only[rnA,Nat.reduceEqDiff,reduceIte,Nat.reduceLT,Nat.reduceAdd,Nat.reduceLeDiff,Nat.reduceMul,Nat.reduceSub,Int.reduceLE,Int.reduceLT,Int.reduceBEq,Nat.reduceBEq,reduceCtorEq];obtain⟨T2,hT2⟩:=mkT fun a:(Int×Int×Int)=>⟨30,[(0,(fzE false (eI .i64) p0)),(1,(fzE false (eI .i64) p1)),(5,(dI a.1)),(6,(dI a.2.1)),(7,(dI a.2.2))],[]⟩
  refine EvL.rounds (α:=(Int×Int×Int)) T2 (fun n a=>zca p1 p0 n a.1 a.2.1 a.2.2=some o1) ((w64 ((p0.length:Int) - 1)) - 0+2:Int).toNat (0,1,(w64 ((p0.length:Int) - 1))) (by rw[hT2]; exact wm0 [] (by exact trivial)) j1 (fun _ h=>nomatch (show(none:Option Int)=some o1 from h)) ?_;rintro n ⟨v5,v6,v7⟩ j1;simp only[zca]at j1;rw[congrFun hT2 (v5,v6,v7)];refine zaa ?_;try simp only[rnA,Nat.reduceEqDiff,reduceIte,Nat.reduceLT,Nat.reduceAdd,Nat.reduceLeDiff,Nat.reduceMul,Nat.reduceSub,Int.reduceLE,Int.reduceLT,Int.reduceBEq,Nat.reduceBEq,reduceCtorEq]
  cases c1:(decide (0≤v7))
  ·rw[c1,cond_false]at j1;try simp only[rnA,Nat.reduceEqDiff,reduceIte,Nat.reduceLT,Nat.reduceAdd,Nat.reduceLeDiff,Nat.reduceMul,Nat.reduceSub,Int.reduceLE,Int.reduceLT,Int.reduceBEq,Nat.reduceBEq,reduceCtorEq,c1]
   replace j1:=qaa j1; subst j1;exact lfj hT1 rfl (wm0 [] (by exact trivial))
  rw[c1,cond_true]at j1;obtain⟨x2,g3,j1⟩:=bind_some j1;obtain⟨x4,g5,j1⟩:=bind_some j1;try simp only[rnA,Nat.reduceEqDiff,reduceIte,Nat.reduceLT,Nat.reduceAdd,Nat.reduceLeDiff,Nat.reduceMul,Nat.reduceSub,Int.reduceLE,Int.reduceLT,Int.reduceBEq,Nat.reduceBEq,reduceCtorEq,zam (n:=1) (e:=(eI .i64)) rfl g3,zam (n:=1) (e:=(eI .i64)) rfl g5,c1]
  exact⟨((w64 (v5+(w64 (x2 * v6)))),(w64 (v6 * x4)),(w64 (v7 - 1))),j1,by rw[hT2]; exact wm0 [] (by exact trivial)⟩
 rintro v5 rfl;rw[congrFun hT1 v5];refine zaa ?_;try simp only[rnA,Nat.reduceEqDiff,reduceIte,Nat.reduceLT,Nat.reduceAdd,Nat.reduceLeDiff,Nat.reduceMul,Nat.reduceSub,Int.reduceLE,Int.reduceLT,Int.reduceBEq,Nat.reduceBEq,reduceCtorEq]
 replace h:=qaa h; subst h;exact zbK.ret rfl (.lit _)
def zcs(p0:(List Int))(p1:(List Int)):Nat→Int→Option (Out Unit Bool)
 | 0,_=>none
 | n+1,v5=>(
bif (decide (v5<(p0.length:Int)))then(
(za4 p0 v5).bind fun x3=>
(za4 p1 v5).bind fun x5=>
bif (x3 == x5)then(
zcs p0 p1 n (w64 (v5+1)))
else(
some (.ret false)))
else(
some (.go ())))
def zc2(p0:(List Int))(p1:(List Int)):Option Bool:=
bif ((p0.length:Int)==(p1.length:Int))then(
((zcs p0 p1 ((p0.length:Int) - 0+2:Int).toNat 0:Option (Out Unit Bool))).bind fun o=>match o with
| .go _=>(
some true)
| .ret r=>some r)
else(
some false)
theorem zfH{p0:(List Int)}{p1:(List Int)}{r:Bool}(h:zc2 p0 p1=some r):Lx.Fn mC 87 [(fzE false (eI .i64) p0),(fzE false (eI .i64) p1)] (dB r):=by
 refine fnO (by conv=>lhs; cbv) ?_;unfold zc2 at h;refine zaa ?_;try simp only[rnA,Nat.reduceEqDiff,Nat.reduceLT,Nat.reduceAdd,reduceCtorEq,zav]
 cases c1:((p0.length:Int)==(p1.length:Int))
 ·rw[c1,cond_false]at h;try simp only[rnA,Nat.reduceLT]
  replace h:=qaa h; subst h;exact zbK.ret rfl (.lit _)
 rw[c1,cond_true]at h;try simp only[rnA,Nat.reduceLT]
 obtain⟨o1,j1,h⟩:=bind_some h;obtain⟨T1,hT1⟩:=mkT fun a:Unit=>⟨26,[],[]⟩
 refine EvL.jn T1 (fun a=>o1=.go a) ?_ ?_
 ·refine zaa ?_;simp only[rnA];obtain⟨T2,hT2⟩:=mkT fun a:Int=>⟨26,[(0,(fzE false (eI .i64) p0)),(1,(fzE false (eI .i64) p1)),(5,(dI a))],[]⟩
  refine EvL.rounds (α:=Int) T2 (fun n a=>zcs p0 p1 n a=some o1) ((p0.length:Int) - 0+2:Int).toNat 0 (by rw[hT2]; exact wm0 [] (by exact trivial)) j1 (fun _ h=>nomatch (show(none:Option (Out Unit Bool))=some o1 from h)) ?_;rintro n v5 j1;simp only[zcs]at j1;rw[congrFun hT2 v5];refine zaa ?_;try simp only[rnA,Nat.reduceEqDiff,Nat.reduceLT,reduceCtorEq,zav]
  cases c2:(decide (v5<(p0.length:Int)))
  ·rw[c2,cond_false]at j1;try simp only[rnA]
   replace j1:=qaa j1; subst j1;exact lfj hT1 rfl (wm0 [] (by exact trivial))
  rw[c2,cond_true]at j1;obtain⟨x3,g4,j1⟩:=bind_some j1;obtain⟨x5,g6,j1⟩:=bind_some j1;try simp only[rnA,Nat.reduceEqDiff,Nat.reduceLT,reduceCtorEq,zam (n:=1) (e:=(eI .i64)) rfl g4,zam (n:=1) (e:=(eI .i64)) rfl g6]
  cases c7:(x3 == x5)
  ·rw[c7,cond_false]at j1;try simp only[rnA,Nat.reduceLT]
   replace j1:=qaa j1; subst j1;dsimp only at h;replace h:=qaa h; subst h;exact zbK.ret rfl (.lit _)
  rw[c7,cond_true]at j1;try simp only[rnA,Nat.reduceEqDiff,Nat.reduceLT,reduceCtorEq]
  exact⟨(w64 (v5+1)),j1,by rw[hT2]; exact wm0 [] (by exact trivial)⟩
 rintro⟨⟩ rfl;dsimp only at h;rw[congrFun hT1 ()];refine zaa ?_;try simp only[rnA,Nat.reduceLT]
 replace h:=qaa h; subst h;exact zbK.ret rfl (.lit _)
def zc0(p0:S_api_Factor)(p1:S_api_Factor):Option Bool:=
(((zc2 p0.vars p1.vars).bind fun r1=>
bif r1 then(
(zc2 p0.cards p1.cards).bind fun r4=>
bif r4 then(
(zc2 p0.w p1.w).bind fun r7=>
some r7)
else(
some false))
else(
some false):Option Bool)).bind fun v4=>
some v4
theorem zfI{p0:S_api_Factor}{p1:S_api_Factor}{r:Bool}(h:zc0 p0 p1=some r):Lx.Fn mC 19 [(.agg [(fzE false (eI .i64) p0.vars),(fzE false (eI .i64) p0.cards),(fzE false (eI .i64) p0.w)]),(.agg [(fzE false (eI .i64) p1.vars),(fzE false (eI .i64) p1.cards),(fzE false (eI .i64) p1.w)])] (dB r):=by
 refine fnO (by conv=>lhs; cbv) ?_;unfold zc0 at h;refine zaa ?_;try simp only[rnA,Nat.reduceEqDiff,Nat.reduceLT,Nat.reduceAdd,reduceCtorEq]
 obtain⟨o1,j1,h⟩:=bind_some h;obtain⟨T1,hT1⟩:=mkT fun a:Bool=>⟨24,[(4,(dB a))],[]⟩
 refine EvL.jn T1 (fun a=>a=o1) ?_ ?_
 ·refine zaa ?_;obtain⟨r1,g2,j1⟩:=bind_some j1;try simp only[rnA,Nat.reduceEqDiff,Nat.reduceLT,reduceCtorEq]
  refine EvL.fn (zfH g2) rfl rfl (.cons (zab _ _ (fun h=>nomatch h)) (.cons (zab _ _ (fun h=>nomatch h)) .nil)) ?_;try simp only[rnA,Nat.reduceEqDiff,Nat.reduceLT,reduceCtorEq]
  cases c3:r1
  ·rw[c3,cond_false]at j1;try simp only[rnA,Nat.reduceEqDiff,Nat.reduceLT,reduceCtorEq]
   refine EvL.skip rfl ?_;try simp only[rnA,Nat.reduceEqDiff,Nat.reduceLT,reduceCtorEq]
   refine EvL.skip rfl ?_;try simp only[rnA,Nat.reduceEqDiff,Nat.reduceLT,reduceCtorEq]
   replace j1:=qaa j1; subst j1;exact lfj hT1 rfl (wm0 [] (by exact trivial))
  rw[c3,cond_true]at j1;obtain⟨r4,g5,j1⟩:=bind_some j1;try simp only[rnA,Nat.reduceEqDiff,Nat.reduceLT,reduceCtorEq]
  refine EvL.fn (zfH g5) rfl rfl (.cons (zab _ _ (fun h=>nomatch h)) (.cons (zab _ _ (fun h=>nomatch h)) .nil)) ?_;try simp only[rnA,Nat.reduceEqDiff,Nat.reduceLT,reduceCtorEq]
  cases c6:r4
  ·rw[c6,cond_false]at j1;try simp only[rnA,Nat.reduceEqDiff,Nat.reduceLT,reduceCtorEq]
   refine EvL.skip rfl ?_;try simp only[rnA,Nat.reduceEqDiff,Nat.reduceLT,reduceCtorEq]
   replace j1:=qaa j1; subst j1;exact lfj hT1 rfl (wm0 [] (by exact trivial))
  rw[c6,cond_true]at j1;obtain⟨r7,g8,j1⟩:=bind_some j1;try simp only[rnA,Nat.reduceEqDiff,Nat.reduceLT,reduceCtorEq]
  refine EvL.fn (zfH g8) rfl rfl (.cons (zab _ _ (fun h=>nomatch h)) (.cons (zab _ _ (fun h=>nomatch h)) .nil)) ?_;try simp only[rnA,Nat.reduceEqDiff,Nat.reduceLT,reduceCtorEq]
  replace j1:=qaa j1; subst j1;exact lfj hT1 rfl (wm0 [] (by exact trivial))
 rintro v4 rfl;rw[congrFun hT1 v4];refine zaa ?_;try simp only[rnA]
 replace h:=qaa h; subst h;exact zbK.ret rfl (.lit _)
def zco(p0:S_api_Factor):Option Int:=
(zay p0).bind fun r1=>
some r1.2
theorem zdD{p0:S_api_Factor}{r:Int}(h:zco p0=some r):Lx.Fn mC 24 [(.agg [(fzE false (eI .i64) p0.vars),(fzE false (eI .i64) p0.cards),(fzE false (eI .i64) p0.w)])] (dI r):=by
 refine fnO (by conv=>lhs; cbv) ?_;unfold zco at h;refine zaa ?_;obtain⟨r1,g2,h⟩:=bind_some h;try simp only[rnA,Nat.reduceEqDiff,reduceIte,Nat.reduceLT,Nat.reduceAdd,Nat.reduceLeDiff,Nat.reduceMul,Nat.reduceSub,Int.reduceLE,Int.reduceLT,Int.reduceBEq,Nat.reduceBEq,reduceCtorEq,zad,zb9]
 refine EvL.fnS (zaY g2) rfl rfl (.cons (Mzs.agg (.cons (zae _ _ (fun h=>by cases h<;>contradiction)) (.cons (zae _ _ (fun h=>by cases h<;>contradiction)) (.cons (zae _ _ (fun h=>by cases h<;>contradiction)) .nil)))) .nil) ⟨⟨(zac _ _),(zac _ _),(zac _ _),qca⟩,qca⟩ ⟨⟨(zac _ _),(zac _ _),(zac _ _),(zac _ _),qca⟩,qca,qca⟩ ?_;try simp only[rnA,Nat.reduceEqDiff,reduceIte,Nat.reduceLT,Nat.reduceAdd,Nat.reduceLeDiff,Nat.reduceMul,Nat.reduceSub,Int.reduceLE,Int.reduceLT,Int.reduceBEq,Nat.reduceBEq,reduceCtorEq,zad]
 replace h:=qaa h; subst h;exact zbK.ret rfl (.lit _)
def zbX(p0:S_api_Factor)(p1:Int)(p2:S_api_Factor):Option Bool:=
((bif (p1 == 0)then(
(zc0 p0 p2).bind fun r2=>
some r2)
else(
some false):Option Bool)).bind fun v5=>
some v5
theorem zb8{p0:S_api_Factor}{p1:Int}{p2:S_api_Factor}{r:Bool}(h:zbX p0 p1 p2=some r):Lx.Fn mC 107 [(.agg [(fzE false (eI .i64) p0.vars),(fzE false (eI .i64) p0.cards),(fzE false (eI .i64) p0.w)]),(dI p1),(.fptr false (zak.c false p2))] (dB r):=by
 refine fnO (by conv=>lhs; cbv) ?_;unfold zbX at h;refine zaa ?_;try simp only[rnA,Nat.reduceEqDiff,reduceIte,Nat.reduceLT,Nat.reduceAdd,Nat.reduceLeDiff,Nat.reduceMul,Nat.reduceSub,Int.reduceLE,Int.reduceLT,Int.reduceBEq,Nat.reduceBEq,reduceCtorEq,zad,zb9]
 obtain⟨o1,j1,h⟩:=bind_some h;obtain⟨T1,hT1⟩:=mkT fun a:Bool=>⟨13,[(5,(dB a))],[]⟩
 refine EvL.jn T1 (fun a=>a=o1) ?_ ?_
 ·refine zaa ?_;try simp only[rnA,Nat.reduceEqDiff,reduceIte,Nat.reduceLT,Nat.reduceAdd,Nat.reduceLeDiff,Nat.reduceMul,Nat.reduceSub,Int.reduceLE,Int.reduceLT,Int.reduceBEq,Nat.reduceBEq,reduceCtorEq,zad]
  cases c1:(p1 == 0)
  ·rw[c1,cond_false]at j1;try simp only[rnA,Nat.reduceEqDiff,reduceIte,Nat.reduceLT,Nat.reduceAdd,Nat.reduceLeDiff,Nat.reduceMul,Nat.reduceSub,Int.reduceLE,Int.reduceLT,Int.reduceBEq,Nat.reduceBEq,reduceCtorEq,zad,c1]
   refine EvL.skip rfl ?_;try simp only[rnA,Nat.reduceEqDiff,reduceIte,Nat.reduceLT,Nat.reduceAdd,Nat.reduceLeDiff,Nat.reduceMul,Nat.reduceSub,Int.reduceLE,Int.reduceLT,Int.reduceBEq,Nat.reduceBEq,reduceCtorEq,zad,c1]
   replace j1:=qaa j1; subst j1;exact lfj hT1 rfl (wm0 [] (by exact trivial))
  rw[c1,cond_true]at j1;obtain⟨r2,g3,j1⟩:=bind_some j1;try simp only[rnA,Nat.reduceEqDiff,reduceIte,Nat.reduceLT,Nat.reduceAdd,Nat.reduceLeDiff,Nat.reduceMul,Nat.reduceSub,Int.reduceLE,Int.reduceLT,Int.reduceBEq,Nat.reduceBEq,reduceCtorEq,zad,c1]
  refine EvL.fn (zfI g3) rfl rfl (.cons (.za5 (.cons (zab _ _ (fun h=>nomatch h)) (.cons (zab _ _ (fun h=>nomatch h)) (.cons (zab _ _ (fun h=>nomatch h)) .nil)))) (.cons (.za5 (.cons (zab _ _ (fun h=>nomatch h)) (.cons (zab _ _ (fun h=>nomatch h)) (.cons (zab _ _ (fun h=>nomatch h)) .nil)))) .nil)) ?_;try simp only[rnA,Nat.reduceEqDiff,reduceIte,Nat.reduceLT,Nat.reduceAdd,Nat.reduceLeDiff,Nat.reduceMul,Nat.reduceSub,Int.reduceLE,Int.reduceLT,Int.reduceBEq,Nat.reduceBEq,reduceCtorEq,zad,c1]
  replace j1:=qaa j1; subst j1;exact lfj hT1 rfl (wm0 [] (by exact trivial))
 rintro v5 rfl;rw[congrFun hT1 v5];refine zaa ?_;try simp only[rnA,Nat.reduceEqDiff,reduceIte,Nat.reduceLT,Nat.reduceAdd,Nat.reduceLeDiff,Nat.reduceMul,Nat.reduceSub,Int.reduceLE,Int.reduceLT,Int.reduceBEq,Nat.reduceBEq,reduceCtorEq,zad]
 replace h:=qaa h; subst h;exact zbK.ret rfl (.lit _)
def zbu(p0:S_api_Factor)(p1:Int)(p2:Int):Option Bool:=
((bif (p1 == p2)then(
(zc0 p0 (S_api_Factor.mk [] [] [])).bind fun r2=>
some r2)
else(
some false):Option Bool)).bind fun v5=>
some v5
theorem zbU{p0:S_api_Factor}{p1:Int}{p2:Int}{r:Bool}(h:zbu p0 p1 p2=some r):Lx.Fn mC 108 [(.agg [(fzE false (eI .i64) p0.vars),(fzE false (eI .i64) p0.cards),(fzE false (eI .i64) p0.w)]),(dI p1),(.fptr false ((eI .i64).c false p2))] (dB r):=by
 refine fnO (by conv=>lhs; cbv) ?_;unfold zbu at h;refine zaa ?_;try simp only[rnA,Nat.reduceEqDiff,reduceIte,Nat.reduceLT,Nat.reduceAdd,Nat.reduceLeDiff,Nat.reduceMul,Nat.reduceSub,Int.reduceLE,Int.reduceLT,Int.reduceBEq,Nat.reduceBEq,reduceCtorEq,zad,zb9]
 obtain⟨o1,j1,h⟩:=bind_some h;obtain⟨T1,hT1⟩:=mkT fun a:Bool=>⟨14,[(5,(dB a))],[]⟩
 refine EvL.jn T1 (fun a=>a=o1) ?_ ?_
 ·refine zaa ?_;try simp only[rnA,Nat.reduceEqDiff,reduceIte,Nat.reduceLT,Nat.reduceAdd,Nat.reduceLeDiff,Nat.reduceMul,Nat.reduceSub,Int.reduceLE,Int.reduceLT,Int.reduceBEq,Nat.reduceBEq,reduceCtorEq,zad]
  cases c1:(p1 == p2)
  ·rw[c1,cond_false]at j1;try simp only[rnA,Nat.reduceEqDiff,reduceIte,Nat.reduceLT,Nat.reduceAdd,Nat.reduceLeDiff,Nat.reduceMul,Nat.reduceSub,Int.reduceLE,Int.reduceLT,Int.reduceBEq,Nat.reduceBEq,reduceCtorEq,zad,c1]
   refine EvL.skip rfl ?_;try simp only[rnA,Nat.reduceEqDiff,reduceIte,Nat.reduceLT,Nat.reduceAdd,Nat.reduceLeDiff,Nat.reduceMul,Nat.reduceSub,Int.reduceLE,Int.reduceLT,Int.reduceBEq,Nat.reduceBEq,reduceCtorEq,zad,c1]
   replace j1:=qaa j1; subst j1;exact lfj hT1 rfl (wm0 [] (by exact trivial))
  rw[c1,cond_true]at j1;obtain⟨r2,g3,j1⟩:=bind_some j1;try simp only[rnA,Nat.reduceEqDiff,reduceIte,Nat.reduceLT,Nat.reduceAdd,Nat.reduceLeDiff,Nat.reduceMul,Nat.reduceSub,Int.reduceLE,Int.reduceLT,Int.reduceBEq,Nat.reduceBEq,reduceCtorEq,zad,c1]
  refine EvL.fn (zfI g3) rfl rfl (.cons (.za5 (.cons (zab _ _ (fun h=>nomatch h)) (.cons (zab _ _ (fun h=>nomatch h)) (.cons (zab _ _ (fun h=>nomatch h)) .nil)))) (.cons (.za5 (.cons (zah (eI .i64)) (.cons (zah (eI .i64)) (.cons (zah (eI .i64)) .nil)))) .nil)) ?_;try simp only[rnA,Nat.reduceEqDiff,reduceIte,Nat.reduceLT,Nat.reduceAdd,Nat.reduceLeDiff,Nat.reduceMul,Nat.reduceSub,Int.reduceLE,Int.reduceLT,Int.reduceBEq,Nat.reduceBEq,reduceCtorEq,zad,c1]
  replace j1:=qaa j1; subst j1;exact lfj hT1 rfl (wm0 [] (by exact trivial))
 rintro v5 rfl;rw[congrFun hT1 v5];refine zaa ?_;try simp only[rnA,Nat.reduceEqDiff,reduceIte,Nat.reduceLT,Nat.reduceAdd,Nat.reduceLeDiff,Nat.reduceMul,Nat.reduceSub,Int.reduceLE,Int.reduceLT,Int.reduceBEq,Nat.reduceBEq,reduceCtorEq,zad]
 replace h:=qaa h; subst h;exact zbK.ret rfl (.lit _)
def zbc(p1:(List Int))(p0:S_factor_table):Nat→Int→Int→(List Int)→Option (Int×(List Int))
 | 0,_,_,_=>none
 | n+1,v9,v24,l3=>(
bif (decide (v24<(p1.length:Int)))then(
(za4 p1 v24).bind fun x4=>
(zaj p0 x4).bind fun r6=>
(za4 p0.factor.cards r6).bind fun x8=>
(za4 l3 v24).bind fun x10=>
(zfD l3 v24 x8).bind fun y12=>
zbc p1 p0 n (w64 (v9 * x8)) (w64 (v24+1)) y12)
else(
some (v9,l3)))
def zba(p1:(List Int))(p0:S_factor_table)(l3:(List Int)):Nat→Int→Int→(List Int)→Option (List Int)
 | 0,_,_,_=>none
 | n+1,v14,v15,l6=>(
bif (decide (0≤v15))then(
(za4 p1 v15).bind fun x19=>
(zaj p0 x19).bind fun r21=>
(za4 l6 r21).bind fun x23=>
(zfD l6 r21 v14).bind fun y25=>
(za4 l3 v15).bind fun x27=>
zba p1 p0 l3 n (w64 (v14 * x27)) (w64 (v15 - 1)) y25)
else(
some l6))
def zaQ(p0:S_factor_table)(v9:Int):List (Int×Int×(List Int))→(List Int)→Option (Out3 (List Int) (List Int) Empty)
 | [],l4=>some (.go l4)
 | y33 :: ys,l4=>(
(za4 l4 y33.2.1).bind fun x34=>
(za4 p0.factor.w y33.1).bind fun x36=>
(zc7 x34 x36).bind fun r38=>
(zfD l4 y33.2.1 r38.1).bind fun y40=>
bif r38.2 then(
zaQ p0 v9 ys y40)
else(
some (.brk y40)))
def zbE(p0:S_factor_table)(p1:(List Int)):Option (S_api_Factor×Int):=
(zd2 8 (p1.length:Int) 0).bind fun y1=>
((zbc p1 p0 ((p1.length:Int) - 0+2:Int).toNat 1 0 y1:Option ((Int×(List Int))))).bind fun o=>match o with
|(v9,l3)=>(
(zd2 8 v9 0).bind fun y14=>
(zd2 8 (p0.factor.vars.length:Int) 0).bind fun y16=>
((zba p1 p0 l3 ((w64 ((p1.length:Int) - 1)) - 0+2:Int).toNat 1 (w64 ((p1.length:Int) - 1)) y16:Option (List Int))).bind fun l6=>
(za6 p0.factor.cards l6).bind fun r29=>
(((zqk r29.1 r29.2).bind fun u31=>
((zaQ p0 v9 u31 y14:Option (Out3 (List Int) (List Int) Empty))).bind fun o=>match o with
| .go l4=>(
some (true,l4))
| .brk l4=>(
some (false,l4))
| .ret r=>nomatch r:Option ((Bool×(List Int))))).bind fun o=>match o with
|(b7_0,l4)=>(
bif b7_0 then(
some ((S_api_Factor.mk p1 l3 l4),0))
else(
some ((S_api_Factor.mk [] [] []),6))))
def zcC:C:=
 .seq (rg [oW 3 0,
 oW 5 2,
 ⟨some 6,.alloc [(.slice none 0 0),(.slice none 0 0),(.slice none 0 0)],none⟩,
 oK 7 0])
 (.scope (.seq (rg [oM 19 1,
 oE 20 19,
 ⟨some 21,.mk 1 8 [(.int .i64 0)] (.s 20) (.s 20),none⟩,
 oM 8 21,
 oK 9 1])
 (.seq (.seq (rg [oM 22 1,
 oE 23 22,
 oK 24 0])
 (.scope (.block 0 (.loop (.seq (rg [oB 25 .lss 24 23])
 (.seq (.cond (.s 25) (.skip)
 (.exit 0))
 (.seq (.block 1 (.seq (rg [oM 26 24,
 oI 27 1 22 24,
 oL 28 27,
 oM 10 26,
 oM 11 28])
 (.seq (.reg true true [oM 29 8,
 oM 30 10,
 oF 31 0 3,
 oF 32 1 31,
 oL 33 32,
 oN 34 4 3,
 oM 35 11,
 oV 36 96 34 35,
 oI 37 1 33 36,
 oL 38 37,
 oI 39 1 29 30,
 oS 1 39 38])
 (rg [oM 40 9,
 oM 41 8,
 oM 42 10,
 oI 43 1 41 42,
 oL 44 43,
 oB 45 .mul 40 44,
 oM 9 45]))))
 (rg [oD 46 .add 24 1,
 oM 24 46]))))))))
 (.seq (.reg true false [oM 47 9,
 oF 49 0 3,
 oF 50 0 49,
 oL 51 50,
 oE 52 51,
 ⟨some 48,.mk 1 8 [(.int .i64 0)] (.s 47) (.s 47),none⟩,
 ⟨some 12,.alloc [(.slice none 0 0)],none⟩,
 ⟨none,.avo [(.s 50)] (.s 12),none⟩,
 oS 1 12 48,
 ⟨some 53,.mk 1 8 [(.int .i64 0)] (.s 52) (.s 52),none⟩,
 oM 13 53,
 oK 14 1])
 (.seq (.seq (rg [oM 54 1,
 oE 55 54,
 oD 56 .sub 55 1,
 oM 15 56])
 (.scope (.block 2 (.loop (.seq (.seq (rg [oM 57 15,
 oD 58 .geq 57 0])
 (.cond (.s 58) (.skip)
 (.exit 2)))
 (.seq (.block 3 (.seq (.reg true false [oM 61 13,
 oN 62 4 3,
 oM 63 1,
 oM 64 15,
 oI 65 1 63 64,
 oL 66 65,
 oM 68 14,
 oV 67 96 62 66,
 oI 69 1 61 67,
 oS 1 69 68])
 (rg [oM 70 14,
 oM 71 8,
 oM 72 15,
 oI 73 1 71 72,
 oL 74 73,
 oB 75 .mul 70 74,
 oM 14 75])))
 (rg [oM 59 15,
 oD 60 .sub 59 1,
 oM 15 60])))))))
 (.seq (rg [⟨some 16,.alloc [(.bool false)],none⟩,
 ⟨none,.store 1 (.s 16) (.c (.bool true)),none⟩])
 (.seq (.label 0)
 (.seq (.seq (rg [oF 76 0 3,
 oF 77 1 76,
 oL 78 77,
 oM 79 13,
 oV 80 93 78 79])
 (.scope (.block 4 (.zd4 (.s 80) [81,82] (.seq (rg [oM 17 81])
 (rg [oM 18 82]))
 (.block 5 (.seq (.reg true true [oL 84 12,
 oM 85 18,
 oF 86 0 5,
 oL 87 86,
 oL 88 12,
 oM 89 18,
 oI 90 1 88 89,
 oL 91 90,
 oF 92 0 3,
 oF 93 2 92,
 oL 94 93,
 oM 95 17,
 oI 96 1 94 95,
 oL 97 96,
 ⟨some 98,.zbZ (.s 87) [(.s 91),(.s 97)],none⟩,
 oM 83 98,
 oX 99 83 0,
 oX 100 83 1,
 oI 101 1 84 85,
 oS 1 101 99,
 oS 1 16 100])
 (.block 6 (.seq (rg [oL 103 16,
 ⟨some 104,.un .not (.s 103),none⟩,
 oM 102 104])
 (.cond (.s 102) (.exit 4)
 (.skip))))))))))
 (.seq (.seq (rg [oL 105 16,
 ⟨some 106,.un .not (.s 105),none⟩])
 (.cond (.s 106) (.seq (rg [⟨some 107,.build [(.slice none 0 0),(.slice none 0 0),(.slice none 0 0)] [],none⟩,
 oS 3 6 107,
 oK 7 6])
 (.ret))
 (.skip)))
 (.seq (rg [oM 108 1,
 oM 109 8,
 oL 110 12,
 ⟨some 111,.build [(.slice none 0 0),(.slice none 0 0),(.slice none 0 0)] [(0,1,(.s 108)),(1,1,(.s 109)),(2,1,(.s 110))],none⟩,
 oS 3 6 111,
 oK 7 0])
 (.ret)))))))))))
theorem zdS:zgx mC 106=some (112,zcC,[.cell 6 (some 3),.tmp 7],false):=zaV (by kernel_rfl)
theorem zd3{p0:S_factor_table}{p1:(List Int)}{r:(S_api_Factor×Int)}(h:zbE p0 p1=some r):Lx.FnA mC 106 [(.agg [(fzE false (eI .i64) p0.factor.vars),(fzE false (eI .i64) p0.factor.cards),(fzE false (eI .i64) p0.factor.w),(fzE false (eI .i64) p0.steps)]),(fzE false (eI .i64) p1),(.agg [(.clo 102 [] [])])] (.tup [(.agg [(fzE false (eI .i64) r.1.vars),(fzE false (eI .i64) r.1.cards),(fzE false (eI .i64) r.1.w)]),(dI r.2)]):=by
 refine FnA.of zdS (zaR rfl) (qad rfl) ?_;unfold zbE at h;simp only[zcC,zi4];refine zaa ?_;try simp only[rnA,Nat.reduceEqDiff,Nat.reduceLT,Nat.reduceAdd,reduceCtorEq]
 refine EvL.scope (zaa ?_);obtain⟨y1,g2,h⟩:=bind_some h;try simp only[rnA,Nat.reduceEqDiff,Nat.reduceLT,Nat.reduceAdd,reduceCtorEq,zav,(zaq g2).1.1,(zaq g2).1.2,qbo,(show List.replicate (Int.toNat (p1.length:Int)) [(dI 0)]=y1.map ((eI .i64).c true)from zbo g2 ((eI .i64).c true))]
 obtain⟨o8,j8,h⟩:=bind_some h;obtain⟨T8,hT8⟩:=mkT fun a:(Int×(List Int))=>⟨112,[(1,(fzE false (eI .i64) p1)),(3,(.ptr 0 0)),(5,(.ptr 1 0)),(6,(.ptr 2 0)),(8,(.sl 3 0 1 (Int.toNat (p1.length:Int)) (some (Int.toNat (p1.length:Int))) (Int.toNat (p1.length:Int)))),(9,(dI a.1))],[.cells [(fzE false (eI .i64) p0.factor.vars),(fzE false (eI .i64) p0.factor.cards),(fzE false (eI .i64) p0.factor.w),(fzE false (eI .i64) p0.steps)],.cells [(.clo 102 [] [])],.cells [zat,zat,zat],.els 1 (a.2.map ((eI .i64).c true))]⟩
 refine EvL.jn T8 (fun a=>a=o8∧a.2.length=(Int.toNat (p1.length:Int))) ?_ ?_
 ·refine zaa ?_;simp only[rnA];obtain⟨T9,hT9⟩:=mkT fun a:(Int×Int×(List Int))=>⟨112,[(1,(fzE false (eI .i64) p1)),(3,(.ptr 0 0)),(5,(.ptr 1 0)),(6,(.ptr 2 0)),(8,(.sl 3 0 1 (Int.toNat (p1.length:Int)) (some (Int.toNat (p1.length:Int))) (Int.toNat (p1.length:Int)))),(9,(dI a.1)),(22,(fzE false (eI .i64) p1)),(23,(dI (p1.length:Int))),(24,(dI a.2.1))],[.cells [(fzE false (eI .i64) p0.factor.vars),(fzE false (eI .i64) p0.factor.cards),(fzE false (eI .i64) p0.factor.w),(fzE false (eI .i64) p0.steps)],.cells [(.clo 102 [] [])],.cells [zat,zat,zat],.els 1 (a.2.2.map ((eI .i64).c true))]⟩
  refine EvL.rounds (α:=(Int×Int×(List Int))) T9 (fun n a=>zbc p1 p0 n a.1 a.2.1 a.2.2=some o8∧a.2.2.length=(Int.toNat (p1.length:Int))) ((p1.length:Int) - 0+2:Int).toNat (1,0,y1) (by rw[hT9]; exact wm0 [.k,.k,.k,.k] ⟨MB.cs ⟨qca,qca,qca,qca,qca⟩,⟨MB.cs ⟨⟨qca,qca⟩,qca⟩,⟨MB.cs ⟨qca,qca,qca,qca⟩,⟨MB.es (eI .i64) true y1,qca⟩⟩⟩⟩) ⟨j8,zbk g2⟩ (fun _ h=>nomatch (show(none:Option (Int×(List Int)))=some o8 from h.1)) ?_;rintro n ⟨v9,v24,l3⟩ ⟨j8,el3⟩;simp only[zbc]at j8;rw[congrFun hT9 (v9,v24,l3)];refine zaa ?_;try simp only[rnA,Nat.reduceEqDiff,Nat.reduceLT]
  cases c3:(decide (v24<(p1.length:Int)))
  ·rw[c3,cond_false]at j8;try simp only[rnA]
   replace j8:=qaa j8; subst j8;exact⟨_,⟨rfl,el3⟩,by rw[hT8]; exact wm0 [.k,.k,.k,.k] ⟨MB.cs ⟨qca,qca,qca,qca,qca⟩,⟨MB.cs ⟨⟨qca,qca⟩,qca⟩,⟨MB.cs ⟨qca,qca,qca,qca⟩,⟨MB.es (eI .i64) true l3,qca⟩⟩⟩⟩⟩
  rw[c3,cond_true]at j8;obtain⟨x4,g5,j8⟩:=bind_some j8;obtain⟨r6,g7,j8⟩:=bind_some j8;try simp only[rnA,Nat.reduceEqDiff,Nat.reduceLT,Nat.reduceAdd,Nat.reduceLeDiff,zam (n:=1) (e:=(eI .i64)) rfl g5]
  refine EvL.fn (zan g7) rfl rfl (.cons (.za5 (.cons (zab _ _ (fun h=>nomatch h)) (.cons (zab _ _ (fun h=>nomatch h)) (.cons (zab _ _ (fun h=>nomatch h)) (.cons (zab _ _ (fun h=>nomatch h)) .nil))))) (.cons (.lit _) .nil)) ?_;obtain⟨x8,g9,j8⟩:=bind_some j8;obtain⟨x10,g11,j8⟩:=bind_some j8;obtain⟨y12,g13,j8⟩:=bind_some j8;try simp only[rnA,Nat.reduceEqDiff,Nat.reduceLT,Nat.reduceLeDiff,zam (n:=1) (e:=(eI .i64)) rfl g9,el3,za0 g11,(show v24<(((Int.toNat (p1.length:Int)):Nat):Int)from el3 ▸ za2 g11),zaD g11 ((eI .i64).c true),(show(l3.map ((eI .i64).c true)).set v24.toNat [(dI x8)]=y12.map ((eI .i64).c true)from zbl g13 ((eI .i64).c true)),(za1 g13).trans el3,zaD (zkA g13) ((eI .i64).c true)]
  exact⟨((w64 (v9 * x8)),(w64 (v24+1)),y12),⟨j8,(za1 g13).trans el3⟩,by rw[hT9]; exact wm0 [.k,.k,.k,.k] ⟨MB.cs ⟨qca,qca,qca,qca,qca⟩,⟨MB.cs ⟨⟨qca,qca⟩,qca⟩,⟨MB.cs ⟨qca,qca,qca,qca⟩,⟨MB.es (eI .i64) true y12,qca⟩⟩⟩⟩⟩
 rintro⟨v9,l3⟩ ⟨rfl,el3⟩;dsimp only at h;rw[congrFun hT8 (v9,l3)];refine zaa ?_;obtain⟨y14,g15,h⟩:=bind_some h;obtain⟨y16,g17,h⟩:=bind_some h;try simp only[rnA,Nat.reduceEqDiff,Nat.reduceLT,Nat.reduceAdd,Nat.reduceLeDiff,Nat.reduceBEq,zav,(zaq g15).1.1,(zaq g15).1.2,qbo,(show List.replicate (Int.toNat v9) [(dI 0)]=y14.map ((eI .i64).c true)from zbo g15 ((eI .i64).c true)),(zaq g17).1.1,(zaq g17).1.2,(show List.replicate (Int.toNat (p0.factor.vars.length:Int)) [(dI 0)]=y16.map ((eI .i64).c true)from zbo g17 ((eI .i64).c true))]
 obtain⟨o10,j10,h⟩:=bind_some h;obtain⟨T10,hT10⟩:=mkT fun a:(List Int)=>⟨112,[(1,(fzE false (eI .i64) p1)),(3,(.ptr 0 0)),(5,(.ptr 1 0)),(6,(.ptr 2 0)),(8,(.sl 3 0 1 (Int.toNat (p1.length:Int)) (some (Int.toNat (p1.length:Int))) (Int.toNat (p1.length:Int)))),(12,(.ptr 5 0)),(13,(.sl 6 0 1 (Int.toNat (p0.factor.vars.length:Int)) (some (Int.toNat (p0.factor.vars.length:Int))) (Int.toNat (p0.factor.vars.length:Int))))],[.cells [(fzE false (eI .i64) p0.factor.vars),(fzE false (eI .i64) p0.factor.cards),(fzE false (eI .i64) p0.factor.w),(fzE false (eI .i64) p0.steps)],.cells [(.clo 102 [] [])],.cells [zat,zat,zat],.els 1 (l3.map ((eI .i64).c true)),.els 1 (y14.map ((eI .i64).c true)),.cells [(.sl 4 0 1 (Int.toNat v9) (some (Int.toNat v9)) (Int.toNat v9))],.els 1 (a.map ((eI .i64).c true))]⟩
 refine EvL.jn T10 (fun a=>a=o10∧a.length=(Int.toNat (p0.factor.vars.length:Int))) ?_ ?_
 ·refine zaa ?_;simp only[rnA];obtain⟨T11,hT11⟩:=mkT fun a:(Int×Int×(List Int))=>⟨112,[(1,(fzE false (eI .i64) p1)),(3,(.ptr 0 0)),(5,(.ptr 1 0)),(6,(.ptr 2 0)),(8,(.sl 3 0 1 (Int.toNat (p1.length:Int)) (some (Int.toNat (p1.length:Int))) (Int.toNat (p1.length:Int)))),(12,(.ptr 5 0)),(13,(.sl 6 0 1 (Int.toNat (p0.factor.vars.length:Int)) (some (Int.toNat (p0.factor.vars.length:Int))) (Int.toNat (p0.factor.vars.length:Int)))),(14,(dI a.1)),(15,(dI a.2.1))],[.cells [(fzE false (eI .i64) p0.factor.vars),(fzE false (eI .i64) p0.factor.cards),(fzE false (eI .i64) p0.factor.w),(fzE false (eI .i64) p0.steps)],.cells [(.clo 102 [] [])],.cells [zat,zat,zat],.els 1 (l3.map ((eI .i64).c true)),.els 1 (y14.map ((eI .i64).c true)),.cells [(.sl 4 0 1 (Int.toNat v9) (some (Int.toNat v9)) (Int.toNat v9))],.els 1 (a.2.2.map ((eI .i64).c true))]⟩
  refine EvL.rounds (α:=(Int×Int×(List Int))) T11 (fun n a=>zba p1 p0 l3 n a.1 a.2.1 a.2.2=some o10∧a.2.2.length=(Int.toNat (p0.factor.vars.length:Int))) ((w64 ((p1.length:Int) - 1)) - 0+2:Int).toNat (1,(w64 ((p1.length:Int) - 1)),y16) (by rw[hT11]; exact wm0 [.k,.k,.k,.k,.k,.k,.k] ⟨MB.cs ⟨qca,qca,qca,qca,qca⟩,⟨MB.cs ⟨⟨qca,qca⟩,qca⟩,⟨MB.cs ⟨qca,qca,qca,qca⟩,⟨MB.es (eI .i64) true l3,⟨MB.es (eI .i64) true y14,⟨MB.cs ⟨rfl,qca⟩,⟨MB.es (eI .i64) true y16,qca⟩⟩⟩⟩⟩⟩⟩) ⟨j10,zbk g17⟩ (fun _ h=>nomatch (show(none:Option (List Int))=some o10 from h.1)) ?_;rintro n ⟨v14,v15,l6⟩ ⟨j10,el6⟩;simp only[zba]at j10;rw[congrFun hT11 (v14,v15,l6)];refine zaa ?_;try simp only[rnA,Nat.reduceEqDiff,Nat.reduceLT]
  cases c18:(decide (0≤v15))
  ·rw[c18,cond_false]at j10;try simp only[rnA]
   replace j10:=qaa j10; subst j10;exact⟨_,⟨rfl,el6⟩,by rw[hT10]; exact wm0 [.k,.k,.k,.k,.k,.k,.k] ⟨MB.cs ⟨qca,qca,qca,qca,qca⟩,⟨MB.cs ⟨⟨qca,qca⟩,qca⟩,⟨MB.cs ⟨qca,qca,qca,qca⟩,⟨MB.es (eI .i64) true l3,⟨MB.es (eI .i64) true y14,⟨MB.cs ⟨rfl,qca⟩,⟨MB.es (eI .i64) true l6,qca⟩⟩⟩⟩⟩⟩⟩⟩
  rw[c18,cond_true]at j10;obtain⟨x19,g20,j10⟩:=bind_some j10;obtain⟨r21,g22,j10⟩:=bind_some j10;try simp only[rnA,Nat.reduceEqDiff,Nat.reduceLT,Nat.reduceAdd,Nat.reduceLeDiff,zam (n:=1) (e:=(eI .i64)) rfl g20]
  refine EvL.fn (zan g22) rfl rfl (.cons (.za5 (.cons (zab _ _ (fun h=>nomatch h)) (.cons (zab _ _ (fun h=>nomatch h)) (.cons (zab _ _ (fun h=>nomatch h)) (.cons (zab _ _ (fun h=>nomatch h)) .nil))))) (.cons (.lit _) .nil)) ?_;obtain⟨x23,g24,j10⟩:=bind_some j10;obtain⟨y25,g26,j10⟩:=bind_some j10;obtain⟨x27,g28,j10⟩:=bind_some j10;try simp only[rnA,Nat.reduceEqDiff,Nat.reduceLT,Nat.reduceLeDiff,el6,za0 g24,(show r21<(((Int.toNat (p0.factor.vars.length:Int)):Nat):Int)from el6 ▸ za2 g24),zaD g24 ((eI .i64).c true),(show(l6.map ((eI .i64).c true)).set r21.toNat [(dI v14)]=y25.map ((eI .i64).c true)from zbl g26 ((eI .i64).c true)),el3,za0 g28,(show v15<(((Int.toNat (p1.length:Int)):Nat):Int)from el3 ▸ za2 g28),zaD g28 ((eI .i64).c true)]
  exact⟨((w64 (v14 * x27)),(w64 (v15 - 1)),y25),⟨j10,(za1 g26).trans el6⟩,by rw[hT11]; exact wm0 [.k,.k,.k,.k,.k,.k,.k] ⟨MB.cs ⟨qca,qca,qca,qca,qca⟩,⟨MB.cs ⟨⟨qca,qca⟩,qca⟩,⟨MB.cs ⟨qca,qca,qca,qca⟩,⟨MB.es (eI .i64) true l3,⟨MB.es (eI .i64) true y14,⟨MB.cs ⟨rfl,qca⟩,⟨MB.es (eI .i64) true y25,qca⟩⟩⟩⟩⟩⟩⟩⟩
 rintro l6 ⟨rfl,el6⟩;rw[congrFun hT10 l6];refine zaa ?_;try simp only[rnA,Nat.reduceEqDiff,Nat.reduceLT,Nat.reduceAdd,Nat.reduceLeDiff]
 refine EvL.zeI (S':=⟨112,[(1,(fzE false (eI .i64) p1)),(3,(.ptr 0 0)),(5,(.ptr 1 0)),(6,(.ptr 2 0)),(8,(.sl 3 0 1 (Int.toNat (p1.length:Int)) (some (Int.toNat (p1.length:Int))) (Int.toNat (p1.length:Int)))),(12,(.ptr 5 0)),(16,(.ptr 7 0)),(78,(fzE false (eI .i64) p0.factor.cards)),(79,(fzE true (eI .i64) l6))],[.cells [(fzE false (eI .i64) p0.factor.vars),(fzE false (eI .i64) p0.factor.cards),(fzE false (eI .i64) p0.factor.w),(fzE false (eI .i64) p0.steps)],.cells [(.clo 102 [] [])],.cells [zat,zat,zat],.els 1 (l3.map ((eI .i64).c true)),.els 1 (y14.map ((eI .i64).c true)),.cells [(.sl 4 0 1 (Int.toNat v9) (some (Int.toNat v9)) (Int.toNat v9))],.gone,.cells [(dB true)]]⟩) (zbx.m0 [.k,.k,.k,.k,.k,.k,.f,.k] rfl (msq (msq (msq (msq (msq (msq (msq (msq (mf rfl (zaU (e:=(eI .i64)) (t:=true) rfl rfl (.inl rfl) (el6).symm (el6).symm (fun k h=>by cases h; exact qai _) (fun h=>by cases h<;>rfl)) trivial))))))))) ⟨MB.cs ⟨qca,qca,qca,qca,qca⟩,⟨MB.cs ⟨⟨qca,qca⟩,qca⟩,⟨MB.cs ⟨qca,qca,qca,qca⟩,⟨MB.es (eI .i64) true l3,⟨MB.es (eI .i64) true y14,⟨MB.cs ⟨rfl,qca⟩,⟨rfl,⟨MB.cs ⟨qca,qca⟩,qca⟩⟩⟩⟩⟩⟩⟩⟩) (zaa ?_);obtain⟨r29,g30,h⟩:=bind_some h;try simp only[rnA]
 refine EvL.fnS (zbn g30) rfl rfl (.cons (zae _ _ (fun h=>by cases h<;>contradiction)) (.cons (zae _ _ (fun h=>by cases h<;>contradiction)) .nil)) ⟨(zac _ _),(zac _ _),qca⟩ ⟨qca,⟨⟨rfl,zac _ _,qca⟩,⟨rfl,zac _ _,qca⟩,qca⟩⟩ ?_;try simp only[rnA,Nat.reduceLT]
 obtain⟨o13,j13,h⟩:=bind_some h;obtain⟨T13,hT13⟩:=mkT fun a:(Bool×(List Int))=>⟨112,[(1,(fzE false (eI .i64) p1)),(6,(.ptr 2 0)),(8,(.sl 3 0 1 (Int.toNat (p1.length:Int)) (some (Int.toNat (p1.length:Int))) (Int.toNat (p1.length:Int)))),(12,(.ptr 5 0)),(16,(.ptr 7 0))],[.gone,.gone,.cells [zat,zat,zat],.els 1 (l3.map ((eI .i64).c true)),.els 1 (a.2.map ((eI .i64).c true)),.cells [(.sl 4 0 1 (Int.toNat v9) (some (Int.toNat v9)) (Int.toNat v9))],.gone,.cells [(dB a.1)]]⟩
 refine EvL.jn T13 (fun a=>a=o13∧a.2.length=(Int.toNat v9)) ?_ ?_
 ·refine zaa ?_;try simp only[rnA]
  obtain⟨u31,g32,j13⟩:=bind_some j13;obtain⟨o14,j14,j13⟩:=bind_some j13;obtain⟨T14,hT14⟩:∃ T:(List Int)→List LB,T=(fun a=>[.cells [(fzE false (eI .i64) p0.factor.vars),(fzE false (eI .i64) p0.factor.cards),(fzE false (eI .i64) p0.factor.w),(fzE false (eI .i64) p0.steps)],.cells [(.clo 102 [] [])],.cells [zat,zat,zat],.els 1 (l3.map ((eI .i64).c true)),.els 1 (a.map ((eI .i64).c true)),.cells [(.sl 4 0 1 (Int.toNat v9) (some (Int.toNat v9)) (Int.toNat v9))],.gone,.cells [(dB true)]]):=⟨_,rfl⟩;obtain⟨TX14,hTX14⟩:∃ T:(List Int)→List LB,T=(fun a=>[.cells [(fzE false (eI .i64) p0.factor.vars),(fzE false (eI .i64) p0.factor.cards),(fzE false (eI .i64) p0.factor.w),(fzE false (eI .i64) p0.steps)],.cells [(.clo 102 [] [])],.cells [zat,zat,zat],.els 1 (l3.map ((eI .i64).c true)),.els 1 (a.map ((eI .i64).c true)),.cells [(.sl 4 0 1 (Int.toNat v9) (some (Int.toNat v9)) (Int.toNat v9))],.gone,.cells [(dB false)]]):=⟨_,rfl⟩;refine EvL.zeI (S':=⟨112,[(1,(fzE false (eI .i64) p1)),(3,(.ptr 0 0)),(5,(.ptr 1 0)),(6,(.ptr 2 0)),(8,(.sl 3 0 1 (Int.toNat (p1.length:Int)) (some (Int.toNat (p1.length:Int))) (Int.toNat (p1.length:Int)))),(12,(.ptr 5 0)),(16,(.ptr 7 0)),(80,(.clo 135 [] [(.fptr false ((eL (eI .i64)).c false r29.1)),(.fptr false ((eL (eI .i64)).c false r29.2))]))],T14 y14⟩) (by rw[hT14]; exact wm0 [.k,.k,.k,.k,.k,.k,.k,.k] ⟨MB.cs ⟨qca,qca,qca,qca,qca⟩,⟨MB.cs ⟨⟨qca,qca⟩,qca⟩,⟨MB.cs ⟨qca,qca,qca,qca⟩,⟨MB.es (eI .i64) true l3,⟨MB.es (eI .i64) true y14,⟨MB.cs ⟨rfl,qca⟩,⟨MB.same trivial,⟨MB.cs ⟨qca,qca⟩,qca⟩⟩⟩⟩⟩⟩⟩⟩) ?_;refine EvL.zjO (n0:=8) (zbi g32) rfl (bm:=.block 5 (.seq (.reg true true [⟨some 84,.load none (.s 12),none⟩,⟨some 85,.mov (.s 18),none⟩,⟨some 86,.fld 0 (.s 5),none⟩,⟨some 87,.load none (.s 86),none⟩,⟨some 88,.load none (.s 12),none⟩,⟨some 89,.mov (.s 18),none⟩,⟨some 90,.idxS 1 (.s 88) (.s 89),none⟩,⟨some 91,.load none (.s 90),none⟩,⟨some 92,.fld 0 (.s 3),none⟩,⟨some 93,.fld 2 (.s 92),none⟩,⟨some 94,.load none (.s 93),none⟩,⟨some 95,.mov (.s 17),none⟩,⟨some 96,.idxS 1 (.s 94) (.s 95),none⟩,⟨some 97,.load none (.s 96),none⟩,⟨some 98,.zbZ (.s 87) [(.s 91),(.s 97)],none⟩,⟨some 83,.mov (.s 98),none⟩,⟨some 99,.ext (.s 83) 0,none⟩,⟨some 100,.ext (.s 83) 1,none⟩,⟨some 101,.idxS 1 (.s 84) (.s 85),none⟩,⟨none,.store 1 (.s 101) (.s 99),none⟩,⟨none,.store 1 (.s 16) (.s 100),none⟩]) (.block 6 (.seq (.reg false false [⟨some 103,.load none (.s 16),none⟩,⟨some 104,.un .not (.s 103),none⟩,⟨some 102,.mov (.s 104),none⟩]) (.cond (.s 102) (.exit 4) (.skip)))))) rfl T14 (fun i a=>zaQ p0 v9 (u31.drop i) a=some o14∧a.length=(Int.toNat v9)) (fun x L1=>match x with | .normal=>∃ a,o14=.go a∧a.length=(Int.toNat v9)∧L1=T14 a | .exit id=>∃ a,o14=.brk a∧a.length=(Int.toNat v9)∧id=4∧L1=TX14 a | .ret=>L1.length=8∧zeF (8+1) L1∧(zeQ [.cell 6 (some 3),.tmp 7] ((.tup [(.agg [(fzE false (eI .i64) r.1.vars),(fzE false (eI .i64) r.1.cards),(fzE false (eI .i64) r.1.w)]),(dI r.2)]))) .ret ⟨112,[(1,(fzE false (eI .i64) p1)),(3,(.ptr 0 0)),(5,(.ptr 1 0)),(6,(.ptr 2 0)),(8,(.sl 3 0 1 (Int.toNat (p1.length:Int)) (some (Int.toNat (p1.length:Int))) (Int.toNat (p1.length:Int)))),(12,(.ptr 5 0)),(16,(.ptr 7 0)),(80,(.clo 135 [] [(.fptr false ((eL (eI .i64)).c false r29.1)),(.fptr false ((eL (eI .i64)).c false r29.2))]))],L1 ++ [.lost]⟩| _=>False) y14 ?_ (qaQ _) ?_ ?_ ?_ (fun d L1 hx=>hx.elim) ?_ ?_ ?_ ?_ ?_ ?_
  ·intro a; rw[hT14]; rfl
  ·exact⟨qca,(qad rfl),(qad rfl),(qad rfl),(qad rfl),(qad rfl),(qad rfl),⟨qca,⟨qca,qca,qca⟩⟩,qca⟩
  ·intro a; rw[hT14]; exact⟨⟨qca,qca,qca,qca,qca⟩,⟨⟨qca,qca⟩,qca⟩,⟨qca,qca,qca,qca⟩,(zch (eI .i64) _ _ _),(zch (eI .i64) _ _ _),⟨(qad rfl),qca⟩,qca,⟨qca,qca⟩,qca⟩
  ·intro x L1 hx;cases x with
   | normal=>obtain⟨a,_,_,rfl⟩:=hx; exact⟨by rw[hT14]; rfl,by rw[hT14]; exact⟨⟨qca,qca,qca,qca,qca⟩,⟨⟨qca,qca⟩,qca⟩,⟨qca,qca,qca,qca⟩,(zch (eI .i64) _ _ _),(zch (eI .i64) _ _ _),⟨(qad rfl),qca⟩,qca,⟨qca,qca⟩,qca⟩⟩
   | ret=>exact⟨hx.1,hx.2.1⟩
   | exit id=>obtain⟨a,_,_,_,rfl⟩:=hx; exact⟨by rw[hTX14]; rfl,by rw[hTX14]; exact⟨⟨qca,qca,qca,qca,qca⟩,⟨⟨qca,qca⟩,qca⟩,⟨qca,qca,qca,qca⟩,(zch (eI .i64) _ _ _),(zch (eI .i64) _ _ _),⟨(qad rfl),qca⟩,qca,⟨qca,qca⟩,qca⟩⟩
   | panic d=>exact hx.elim
  ·exact⟨j14,zbk g15⟩
  ·rintro i l4 y33 args G lpF hy ⟨hi14,el4⟩ ⟨rfl,rfl⟩ hkin;rw[ze8 hy]at hi14;simp only[zaQ]at hi14;refine⟨_,_,rfl,rfl,?_⟩;rw[congrFun hT14 l4];refine zaa ?_;obtain⟨x34,g35,hi14⟩:=bind_some hi14;obtain⟨x36,g37,hi14⟩:=bind_some hi14;obtain⟨r38,g39,hi14⟩:=bind_some hi14;try simp only[rnA,Nat.reduceEqDiff,Nat.reduceLT,Nat.reduceAdd,el4,za0 g35,(show y33.2.1<(((Int.toNat v9):Nat):Int)from el4 ▸ za2 g35),zaD g35 ((eI .i64).c true),zam (n:=1) (e:=(eI .i64)) rfl g37]
   refine EvL.fnv rfl rfl (zfX g39) rfl (.cons (.lit _) (.cons (.lit _) .nil)) ?_;obtain⟨y40,g41,hi14⟩:=bind_some hi14;try simp only[rnA,Nat.reduceEqDiff,Nat.reduceLT,Nat.reduceLeDiff,el4,za0 g35,(show y33.2.1<(((Int.toNat v9):Nat):Int)from el4 ▸ za2 g35),zaD g35 ((eI .i64).c true),(show(l4.map ((eI .i64).c true)).set y33.2.1.toNat [(dI r38.1)]=y40.map ((eI .i64).c true)from zbl g41 ((eI .i64).c true))]
   cases c42:r38.2
   ·rw[c42,cond_false]at hi14;try simp only[rnA,Nat.reduceEqDiff]
    replace hi14:=qaa hi14; subst hi14;exact⟨TX14 y40,by rw[hTX14]; rfl,by rw[hTX14]; exact zbx.mK [.k,.k,.k,.k,.k,.k,.k,.k,.k,.k] rfl rfl qca ⟨MB.cs ⟨qca,qca,qca,qca,qca⟩,⟨MB.cs ⟨⟨qca,qca⟩,qca⟩,⟨MB.cs ⟨qca,qca,qca,qca⟩,⟨MB.es (eI .i64) true l3,⟨MB.es (eI .i64) true y40,⟨MB.cs ⟨rfl,qca⟩,⟨MB.same trivial,⟨MB.cs ⟨qca,qca⟩,⟨.same (hkin _ (by decide)),⟨MB.same (zcP _ _ _ _),qca⟩⟩⟩⟩⟩⟩⟩⟩⟩⟩,y40,rfl,(za1 g41).trans el4,rfl⟩
   rw[c42,cond_true]at hi14;try simp only[rnA]
   exact⟨T14 y40,by rw[hT14]; rfl,by rw[hT14]; exact zbx.mK [.k,.k,.k,.k,.k,.k,.k,.k,.k,.k] rfl rfl qca ⟨MB.cs ⟨qca,qca,qca,qca,qca⟩,⟨MB.cs ⟨⟨qca,qca⟩,qca⟩,⟨MB.cs ⟨qca,qca,qca,qca⟩,⟨MB.es (eI .i64) true l3,⟨MB.es (eI .i64) true y40,⟨MB.cs ⟨rfl,qca⟩,⟨MB.same trivial,⟨MB.cs ⟨qca,qca⟩,⟨.same (hkin _ (by decide)),⟨MB.same (zcP _ _ _ _),qca⟩⟩⟩⟩⟩⟩⟩⟩⟩⟩,y40,⟨hi14,(za1 g41).trans el4⟩,rfl⟩
  ·rintro l4 ⟨hi14,el4⟩;rw[qaC]at hi14;simp only[zaQ]at hi14;exact⟨l4,(qaa hi14).symm,el4,rfl⟩
  ·rintro _ ⟨l4,oeq,el4,rfl⟩;have oeq2:=oeq.symm;subst oeq2;dsimp only at j13;rw[congrFun hT14 l4];refine zaa ?_;try simp only[rnA]
   replace j13:=qaa j13; subst j13;exact⟨_,⟨rfl,el4⟩,by rw[hT13]; exact wm0 [.d,.d,.k,.k,.k,.k,.d,.k] ⟨rfl,⟨rfl,⟨MB.cs ⟨qca,qca,qca,qca⟩,⟨MB.es (eI .i64) true l3,⟨MB.es (eI .i64) true l4,⟨MB.cs ⟨rfl,qca⟩,⟨rfl,⟨MB.cs ⟨qca,qca⟩,qca⟩⟩⟩⟩⟩⟩⟩⟩⟩
  ·rintro id _ ⟨l4,oeq,el4,rfl,rfl⟩;rw[oeq]at j13;dsimp only at j13;rw[congrFun hTX14 l4];refine zaa ?_;try simp only[rnA]
   replace j13:=qaa j13; subst j13;exact⟨_,⟨rfl,el4⟩,by rw[hT13]; exact wm0 [.d,.d,.k,.k,.k,.k,.d,.k] ⟨rfl,⟨rfl,⟨MB.cs ⟨qca,qca,qca,qca⟩,⟨MB.es (eI .i64) true l3,⟨MB.es (eI .i64) true l4,⟨MB.cs ⟨rfl,qca⟩,⟨rfl,⟨MB.cs ⟨qca,qca⟩,qca⟩⟩⟩⟩⟩⟩⟩⟩⟩
  intro L1 hx; exact hx.2.2
 rintro⟨b7_0,l4⟩ ⟨rfl,el4⟩;dsimp only at h;rw[congrFun hT13 (b7_0,l4)];refine zaa ?_;try simp only[rnA,Nat.reduceEqDiff,Nat.reduceLT]
 cases c43:b7_0
 ·rw[c43,cond_false]at h;try simp only[rnA,Nat.reduceEqDiff,Nat.reduceLT,Nat.reduceAdd,Nat.reduceLeDiff]
  replace h:=qaa h; subst h;exact zeQ.ret rfl (Snp.zdn (.cons (.za5 (.cons (zah (eI .i64)) (.cons (zah (eI .i64)) (.cons (zah (eI .i64)) .nil)))) (.cons (.lit _) .nil)))
 rw[c43,cond_true]at h;try simp only[rnA,Nat.reduceEqDiff,Nat.reduceLT,Nat.reduceAdd,Nat.reduceLeDiff]
 replace h:=qaa h; subst h;exact zeQ.ret rfl (Snp.zdn (.cons (.za5 (.cons (zab _ _ (fun h=>nomatch h)) (.cons (zbr (e:=(eI .i64)) (t:=true) rfl (.inl rfl) (el3).symm (el3).symm (fun k h=>by cases h; exact qai _) (fun h=>nomatch h)) (.cons (zbr (e:=(eI .i64)) (t:=true) rfl (.inl rfl) (el4).symm (el4).symm (fun k h=>by cases h; exact qai _) (fun h=>nomatch h)) .nil)))) (.cons (.lit _) .nil)))
def zc1(p0:S_api_Factor)(p1:Int):Option (S_api_Factor×Int):=
(zay p0).bind fun r1=>
bif (r1.2 == 0)then(
(zaj r1.1 p1).bind fun r4=>
bif (decide (r4<0))then(
some ((S_api_Factor.mk [] [] []),4))
else(
(zdg 8 r1.1.factor.vars).bind fun y7=>
(zqN y7 r4 (w64 (r4+1))).bind fun y9=>
(zbE r1.1 y9).bind fun r11=>
some (r11.1,r11.2)))
else(
some ((S_api_Factor.mk [] [] []),r1.2))
def zd9:C:=
 .seq (rg [oW 3 0,
 oW 5 2,
 ⟨some 6,.alloc [(.slice none 0 0),(.slice none 0 0),(.slice none 0 0)],none⟩,
 oK 7 0])
 (.seq (rg [oN 12 3 3,
 oU 13 89 12,
 oM 11 13,
 oX 14 11 0,
 oX 15 11 1,
 ⟨some 8,.alloc [(.slice none 0 0),(.slice none 0 0),(.slice none 0 0),(.slice none 0 0)],none⟩,
 oS 4 8 14,
 oM 9 15])
 (.seq (.seq (rg [oM 16 9,
 oD 17 .neq 16 0])
 (.cond (.s 17) (.seq (rg [⟨some 18,.build [(.slice none 0 0),(.slice none 0 0),(.slice none 0 0)] [],none⟩,
 oM 19 9,
 oS 3 6 18,
 oM 7 19])
 (.ret))
 (.skip)))
 (.seq (rg [oN 20 4 8,
 oM 21 1,
 oV 22 96 20 21,
 oM 10 22])
 (.seq (.seq (rg [oM 23 10,
 oD 24 .lss 23 0])
 (.cond (.s 24) (.seq (rg [⟨some 25,.build [(.slice none 0 0),(.slice none 0 0),(.slice none 0 0)] [],none⟩,
 oS 3 6 25,
 oK 7 4])
 (.ret))
 (.skip)))
 (.seq (.reg true false [oN 26 4 8,
 oF 27 0 8,
 oF 28 0 27,
 oL 29 28,
 oM 31 10,
 oM 32 10,
 oD 33 .add 32 1,
 oN 35 1 5,
 oU 30 49 29,
 ⟨none,.avo [(.s 8),(.s 5)] (.s 30),none⟩,
 ⟨some 34,.call 103 [(.s 30),(.s 31),(.s 33)],none⟩,
 ⟨some 36,.call 106 [(.s 26),(.s 34),(.s 35)],none⟩,
 oX 37 36 0,
 oX 38 36 1,
 oS 3 6 37,
 oM 7 38])
 (.ret))))))
theorem zfK:zgx mC 100=some (39,zd9,[.cell 6 (some 3),.tmp 7],false):=zaV (by kernel_rfl)
theorem zgm{p0:S_api_Factor}{p1:Int}{r:(S_api_Factor×Int)}(h:zc1 p0 p1=some r):Lx.FnA mC 100 [(.agg [(fzE false (eI .i64) p0.vars),(fzE false (eI .i64) p0.cards),(fzE false (eI .i64) p0.w)]),(dI p1),(.agg [(.clo 102 [] [])])] (.tup [(.agg [(fzE false (eI .i64) r.1.vars),(fzE false (eI .i64) r.1.cards),(fzE false (eI .i64) r.1.w)]),(dI r.2)]):=by
 refine FnA.of zfK (zaR rfl) (qad rfl) ?_;unfold zc1 at h;simp only[zd9,zi4];refine zaa ?_;obtain⟨r1,g2,h⟩:=bind_some h;try simp only[rnA,Nat.reduceEqDiff,Nat.reduceLT,Nat.reduceAdd,Nat.reduceLeDiff,reduceCtorEq]
 refine EvL.fnS (zaY g2) rfl rfl (.cons (Mzs.agg (.cons (zae _ _ (fun h=>by cases h<;>contradiction)) (.cons (zae _ _ (fun h=>by cases h<;>contradiction)) (.cons (zae _ _ (fun h=>by cases h<;>contradiction)) .nil)))) .nil) ⟨⟨(zac _ _),(zac _ _),(zac _ _),qca⟩,qca⟩ ⟨⟨(zac _ _),(zac _ _),(zac _ _),(zac _ _),qca⟩,qca,qca⟩ ?_;try simp only[rnA,Nat.reduceEqDiff,Nat.reduceLT,Nat.reduceAdd,Nat.reduceLeDiff,reduceCtorEq]
 cases c3:(r1.2 == 0)
 ·rw[c3,cond_false]at h;try simp only[rnA,Nat.reduceEqDiff,Nat.reduceLT,Nat.reduceAdd,Nat.reduceLeDiff,reduceCtorEq]
  replace h:=qaa h; subst h;exact zeQ.ret rfl (Snp.zdn (.cons (.za5 (.cons (zah (eI .i64)) (.cons (zah (eI .i64)) (.cons (zah (eI .i64)) .nil)))) (.cons (.lit _) .nil)))
 rw[c3,cond_true]at h;obtain⟨r4,g5,h⟩:=bind_some h;try simp only[rnA,Nat.reduceEqDiff,Nat.reduceLT,Nat.reduceAdd,Nat.reduceLeDiff,reduceCtorEq]
 refine EvL.fn (zan g5) rfl rfl (.cons (.za5 (.cons (zab _ _ (fun h=>nomatch h)) (.cons (zab _ _ (fun h=>nomatch h)) (.cons (zab _ _ (fun h=>nomatch h)) (.cons (zab _ _ (fun h=>nomatch h)) .nil))))) (.cons (.lit _) .nil)) ?_;try simp only[rnA,Nat.reduceEqDiff,Nat.reduceLT,reduceCtorEq]
 cases c6:(decide (r4<0))
 ·rw[c6,cond_false]at h;obtain⟨y7,g8,h⟩:=bind_some h;try simp only[rnA,Nat.reduceEqDiff,Nat.reduceLT,Nat.reduceAdd,Nat.reduceLeDiff,reduceCtorEq]
  refine EvL.clone (t:=false) (zs:=r1.1.factor.vars) g8 rfl rfl ?_;obtain⟨y9,g10,h⟩:=bind_some h;try simp only[rnA,Nat.reduceEqDiff,Nat.reduceLT,Nat.reduceAdd,Nat.reduceBEq,reduceCtorEq]
  refine EvL.delete (zs:=y7) (t:=true) g10 rfl rfl rfl rfl rfl rfl ?_;refine EvL.zeI (S':=⟨39,[(6,(.ptr 2 0)),(26,(.agg [(fzE false (eI .i64) r1.1.factor.vars),(fzE false (eI .i64) r1.1.factor.cards),(fzE false (eI .i64) r1.1.factor.w),(fzE false (eI .i64) r1.1.steps)])),(34,(fzE true (eI .i64) y9)),(35,(.agg [(.clo 102 [] [])]))],[.gone,.gone,.cells [zat,zat,zat]]⟩) (zbx.m0 [.d,.d,.k,.d,.f] rfl (msq (ms rfl ⟨qca,qca,qca,qca,qca⟩ (mf rfl (zhc (xs:=y7) (ys:=y9) (t:=true) (zjF g10) rfl rfl rfl (fun _=>rfl)) (ms rfl ⟨⟨qca,qca⟩,qca⟩ trivial)))) ⟨rfl,⟨rfl,⟨MB.cs ⟨qca,qca,qca,qca⟩,qca⟩⟩⟩) (zaa ?_);obtain⟨r11,g12,h⟩:=bind_some h;try simp only[rnA]
  refine EvL.fnS (zd3 g12) rfl rfl (.cons (Mzs.agg (.cons (zae _ _ (fun h=>by cases h<;>contradiction)) (.cons (zae _ _ (fun h=>by cases h<;>contradiction)) (.cons (zae _ _ (fun h=>by cases h<;>contradiction)) (.cons (zae _ _ (fun h=>by cases h<;>contradiction)) .nil))))) (.cons (zae _ _ (fun h=>by cases h<;>contradiction)) (.cons (Mzs.agg (.cons zgu .nil)) .nil))) ⟨⟨(zac _ _),(zac _ _),(zac _ _),(zac _ _),qca⟩,(zac _ _),⟨⟨qca,qca⟩,qca⟩,qca⟩ ⟨⟨(zac _ _),(zac _ _),(zac _ _),qca⟩,qca,qca⟩ ?_;try simp only[rnA,Nat.reduceEqDiff,Nat.reduceLT,Nat.reduceAdd,Nat.reduceLeDiff]
  replace h:=qaa h; subst h;exact zeQ.ret rfl (Snp.zdn (.cons (.za5 (.cons (zab _ _ (fun h=>nomatch h)) (.cons (zab _ _ (fun h=>nomatch h)) (.cons (zab _ _ (fun h=>nomatch h)) .nil)))) (.cons (.lit _) .nil)))
 rw[c6,cond_true]at h;try simp only[rnA,Nat.reduceEqDiff,Nat.reduceLT,Nat.reduceAdd,Nat.reduceLeDiff,reduceCtorEq]
 replace h:=qaa h; subst h;exact zeQ.ret rfl (Snp.zdn (.cons (.za5 (.cons (zah (eI .i64)) (.cons (zah (eI .i64)) (.cons (zah (eI .i64)) .nil)))) (.cons (.lit _) .nil)))
def zbO(p0:(List Int)):Nat→Int→Int→(List Int)→Option (List Int)
 | 0,_,_,_=>none
 | n+1,v1,v6,l0=>(
bif (decide (0≤v6))then(
(za4 p0 v6).bind fun x4=>
(zpY v1 x4).bind fun q6=>
(za4 l0 v6).bind fun x8=>
(zfD l0 v6 q6).bind fun y10=>
(zqs .i64 v1 x4).bind fun q12=>
zbO p0 n q12 (w64 (v6 - 1)) y10)
else(
some l0))
def zdk(p0:(List Int))(p1:Int):Option (List Int):=
(zd2 8 (p0.length:Int) 0).bind fun y1=>
((zbO p0 ((w64 ((p0.length:Int) - 1)) - 0+2:Int).toNat p1 (w64 ((p0.length:Int) - 1)) y1:Option (List Int))).bind fun l0=>
some l0
theorem zjB{p0:(List Int)}{p1:Int}{r:(List Int)}(h:zdk p0 p1=some r):Lx.Fn mC 157 [(fzE false (eI .i64) p0),(dI p1)] (fzE true (eI .i64) r):=by
 refine fnO (by conv=>lhs; cbv) ?_;unfold zdk at h;refine zaa ?_;obtain⟨y1,g2,h⟩:=bind_some h;try simp only[rnA,Nat.reduceEqDiff,Nat.reduceLT,Nat.reduceAdd,reduceCtorEq,zav,(zaq g2).1.1,(zaq g2).1.2,qbo,(show List.replicate (Int.toNat (p0.length:Int)) [(dI 0)]=y1.map ((eI .i64).c true)from zbo g2 ((eI .i64).c true))]
 obtain⟨o1,j1,h⟩:=bind_some h;obtain⟨T1,hT1⟩:=mkT fun a:(List Int)=>⟨33,[(5,(.sl 0 0 1 (Int.toNat (p0.length:Int)) (some (Int.toNat (p0.length:Int))) (Int.toNat (p0.length:Int))))],[.els 1 (a.map ((eI .i64).c true))]⟩
 refine EvL.jn T1 (fun a=>a=o1∧a.length=(Int.toNat (p0.length:Int))) ?_ ?_
 ·refine zaa ?_;simp only[rnA];obtain⟨T2,hT2⟩:=mkT fun a:(Int×Int×(List Int))=>⟨33,[(0,(fzE false (eI .i64) p0)),(1,(dI a.1)),(5,(.sl 0 0 1 (Int.toNat (p0.length:Int)) (some (Int.toNat (p0.length:Int))) (Int.toNat (p0.length:Int)))),(6,(dI a.2.1))],[.els 1 (a.2.2.map ((eI .i64).c true))]⟩
  refine EvL.rounds (α:=(Int×Int×(List Int))) T2 (fun n a=>zbO p0 n a.1 a.2.1 a.2.2=some o1∧a.2.2.length=(Int.toNat (p0.length:Int))) ((w64 ((p0.length:Int) - 1)) - 0+2:Int).toNat (p1,(w64 ((p0.length:Int) - 1)),y1) (by rw[hT2]; exact wm0 [.k] ⟨MB.es (eI .i64) true y1,qca⟩) ⟨j1,zbk g2⟩ (fun _ h=>nomatch (show(none:Option (List Int))=some o1 from h.1)) ?_;rintro n ⟨v1,v6,l0⟩ ⟨j1,el0⟩;simp only[zbO]at j1;rw[congrFun hT2 (v1,v6,l0)];refine zaa ?_;try simp only[rnA,Nat.reduceEqDiff,Nat.reduceLT,reduceCtorEq]
  cases c3:(decide (0≤v6))
  ·rw[c3,cond_false]at j1;try simp only[rnA]
   replace j1:=qaa j1; subst j1;exact⟨_,⟨rfl,el0⟩,by rw[hT1]; exact wm0 [.k] ⟨MB.es (eI .i64) true l0,qca⟩⟩
  rw[c3,cond_true]at j1;obtain⟨x4,g5,j1⟩:=bind_some j1;obtain⟨q6,g7,j1⟩:=bind_some j1;obtain⟨x8,g9,j1⟩:=bind_some j1;obtain⟨y10,g11,j1⟩:=bind_some j1;obtain⟨q12,g13,j1⟩:=bind_some j1;try simp only[rnA,Nat.reduceEqDiff,Nat.reduceLT,Nat.reduceLeDiff,reduceCtorEq,zam (n:=1) (e:=(eI .i64)) rfl g5,ziN g7,zlx g7,el0,za0 g9,(show v6<(((Int.toNat (p0.length:Int)):Nat):Int)from el0 ▸ za2 g9),zaD g9 ((eI .i64).c true),(show(l0.map ((eI .i64).c true)).set v6.toNat [(dI q6)]=y10.map ((eI .i64).c true)from zbl g11 ((eI .i64).c true)),zl5 g13]
  exact⟨(q12,(w64 (v6 - 1)),y10),⟨j1,(za1 g11).trans el0⟩,by rw[hT2]; exact wm0 [.k] ⟨MB.es (eI .i64) true y10,qca⟩⟩
 rintro l0 ⟨rfl,el0⟩;rw[congrFun hT1 l0];refine zaa ?_;try simp only[rnA,Nat.reduceEqDiff,Nat.reduceLT]
 replace h:=qaa h; subst h;exact zbK.ret rfl (zbr (e:=(eI .i64)) (t:=true) rfl (.inl rfl) (el0).symm (el0).symm (fun k h=>by cases h; exact qai _) (fun _=>rfl))
def zd7(p0:(List Int))(p1:(List Int))(p2:Int):Option Int:=
(zex p0 p1).bind fun r1=>
(zdk p0 p2).bind fun r3=>
(zex r3 p1).bind fun r5=>
(zc5 r1 r5).bind fun r7=>
some r7
theorem zlF{p0:(List Int)}{p1:(List Int)}{p2:Int}{r:Int}(h:zd7 p0 p1 p2=some r):Lx.Fn mC 137 [(fzE false (eI .i64) p0),(fzE false (eI .i64) p1),(dI p2)] (dI r):=by
 refine fnO (by conv=>lhs; cbv) ?_;unfold zd7 at h;refine zaa ?_;obtain⟨r1,g2,h⟩:=bind_some h;try simp only[rnA,Nat.reduceEqDiff,reduceIte,Nat.reduceLT,Nat.reduceAdd,Nat.reduceLeDiff,Nat.reduceMul,Nat.reduceSub,Int.reduceLE,Int.reduceLT,Int.reduceBEq,Nat.reduceBEq,reduceCtorEq]
 refine EvL.fn (zhu g2) rfl rfl (.cons (zab _ _ (fun h=>nomatch h)) (.cons (zab _ _ (fun h=>nomatch h)) .nil)) ?_;obtain⟨r3,g4,h⟩:=bind_some h;try simp only[rnA,Nat.reduceEqDiff,reduceIte,Nat.reduceLT,Nat.reduceAdd,Nat.reduceLeDiff,Nat.reduceMul,Nat.reduceSub,Int.reduceLE,Int.reduceLT,Int.reduceBEq,Nat.reduceBEq,reduceCtorEq]
 refine EvL.fn (zjB g4) rfl rfl (.cons (zab _ _ (fun h=>nomatch h)) (.cons (.lit _) .nil)) ?_;obtain⟨r5,g6,h⟩:=bind_some h;try simp only[rnA,Nat.reduceEqDiff,reduceIte,Nat.reduceLT,Nat.reduceAdd,Nat.reduceLeDiff,Nat.reduceMul,Nat.reduceSub,Int.reduceLE,Int.reduceLT,Int.reduceBEq,Nat.reduceBEq,reduceCtorEq]
 refine EvL.fn (zhu g6) rfl rfl (.cons (zab _ _ (fun h=>nomatch h)) (.cons (zab _ _ (fun h=>nomatch h)) .nil)) ?_;obtain⟨r7,g8,h⟩:=bind_some h;try simp only[rnA,Nat.reduceEqDiff,reduceIte,Nat.reduceLT,Nat.reduceAdd,Nat.reduceLeDiff,Nat.reduceMul,Nat.reduceSub,Int.reduceLE,Int.reduceLT,Int.reduceBEq,Nat.reduceBEq,reduceCtorEq]
 refine EvL.fn (zj6 g8) rfl rfl (.cons (zab _ _ (fun h=>nomatch h)) (.cons (zab _ _ (fun h=>nomatch h)) .nil)) ?_;try simp only[rnA,Nat.reduceEqDiff,reduceIte,Nat.reduceLT,Nat.reduceAdd,Nat.reduceLeDiff,Nat.reduceMul,Nat.reduceSub,Int.reduceLE,Int.reduceLT,Int.reduceBEq,Nat.reduceBEq,reduceCtorEq]
 replace h:=qaa h; subst h;exact zbK.ret rfl (.lit _)
def zcu(p1:(List Int))(p0:S_api_Factor):Nat→Int→(List Int)→Option (List Int)
 | 0,_,_=>none
 | n+1,v10,l3=>(
bif (decide (v10<(p1.length:Int)))then(
(za4 p1 v10).bind fun x2=>
(zcr p0 x2).bind fun r4=>
(zfB 8 l3 [r4]).bind fun y6=>
zcu p1 p0 n (w64 (v10+1)) y6)
else(
some l3))
def zce(p0:S_api_Factor)(l3:(List Int))(r10:Int):Nat→Bool→Int→(List Int)→Option (Out (List Int) (S_api_Factor×Bool))
 | 0,_,_,_=>none
 | n+1,v2,v11,l4=>(
bif (decide (v11<(p0.w.length:Int)))then(
(zd7 p0.cards l3 v11).bind fun r15=>
((bif v2 then(
(za4 l4 r15).bind fun x24=>
(za4 p0.w v11).bind fun x26=>
(zfD l4 r15 (zry x24 x26)).bind fun y28=>
some (true,y28))
else(
(za4 l4 r15).bind fun x18=>
(za4 p0.w v11).bind fun x20=>
(zfD l4 r15 (w64 (x18+x20))).bind fun y22=>
some (false,y22)):Option ((Bool×(List Int))))).bind fun o=>match o with
|(v2',l4')=>(
(za4 l4' r15).bind fun x30=>
bif (decide (4611686018427387903<x30))then(
some (.ret ((S_api_Factor.mk [] [] []),false)))
else(
zce p0 l3 r10 n v2' (w64 (v11+1)) l4')))
else(
some (.go l4)))
def zei(p0:S_api_Factor)(p1:(List Int))(p2:Bool):Option (S_api_Factor×Bool):=
((zcu p1 p0 ((p1.length:Int) - 0+2:Int).toNat 0 []:Option (List Int))).bind fun l3=>
(zex p0.cards l3).bind fun r8=>
(zcJ r8).bind fun r10=>
(zd2 8 r10 0).bind fun y12=>
((zce p0 l3 r10 ((p0.w.length:Int) - 0+2:Int).toNat p2 0 y12:Option (Out (List Int) (S_api_Factor×Bool)))).bind fun o=>match o with
| .go l4=>(
some ((S_api_Factor.mk p1 r8 l4),true))
| .ret r=>some r
def ziI:C:=
 .seq (rg [oW 3 0,
 ⟨some 6,.alloc [(.slice none 0 0),(.slice none 0 0),(.slice none 0 0)],none⟩,
 oJ 7 false])
 (.seq (rg [oM 13 1,
 ⟨some 14,.build [(.slice none 0 0),(.slice none 0 0),(.slice none 0 0)] [(0,1,(.s 13))],none⟩,
 ⟨some 8,.alloc [(.slice none 0 0),(.slice none 0 0),(.slice none 0 0)],none⟩,
 oS 3 8 14])
 (.seq (rg [⟨some 9,.mov (.c (.slice none 0 0)),none⟩])
 (.seq (.seq (rg [oK 10 0])
 (.scope (.block 0 (.loop (.seq (.seq (rg [oM 15 10,
 oM 16 1,
 oE 17 16,
 oB 18 .lss 15 17])
 (.cond (.s 18) (.skip)
 (.exit 0)))
 (.seq (.block 1 (.reg true false [oM 21 9,
 oN 22 3 3,
 oM 23 1,
 oM 24 10,
 oI 25 1 23 24,
 oL 26 25,
 oV 27 35 22 26,
 ⟨some 28,.bsl 1 1 [(.int .i64 0)] [(0,(.s 27))],none⟩,
 oT 29 1 8 21 28,
 oM 9 29]))
 (rg [oM 19 10,
 oD 20 .add 19 1,
 oM 10 20])))))))
 (.seq (rg [oF 30 1 3,
 oL 31 30,
 oM 32 9,
 oV 33 129 31 32,
 oF 34 1 8,
 oS 1 34 33])
 (.seq (rg [oF 35 1 8,
 oL 36 35,
 oU 37 82 36,
 ⟨some 38,.mk 1 8 [(.int .i64 0)] (.s 37) (.s 37),none⟩,
 oF 39 2 8,
 oS 1 39 38])
 (.seq (.seq (rg [oK 11 0])
 (.scope (.block 2 (.loop (.seq (.seq (rg [oM 40 11,
 oF 41 2 3,
 oL 42 41,
 oE 43 42,
 oB 44 .lss 40 43])
 (.cond (.s 44) (.skip)
 (.exit 2)))
 (.seq (.block 3 (.seq (rg [oF 47 1 3,
 oL 48 47,
 oM 49 9,
 oM 50 11,
 ⟨some 51,.call 137 [(.s 48),(.s 49),(.s 50)],none⟩,
 oM 12 51])
 (.seq (.seq (rg [oM 52 2])
 (.scope (.cond (.s 52) (.reg true false [oF 53 2 8,
 oL 54 53,
 oM 55 12,
 oF 56 2 8,
 oL 57 56,
 oM 58 12,
 oI 59 1 57 58,
 oL 60 59,
 oF 61 2 3,
 oL 62 61,
 oM 63 11,
 oI 64 1 62 63,
 oL 65 64,
 ⟨some 66,.mm true [(.s 60),(.s 65)],none⟩,
 oI 67 1 54 55,
 oS 1 67 66])
 (.reg true false [oF 68 2 8,
 oL 69 68,
 oM 70 12,
 oF 71 2 8,
 oL 72 71,
 oM 73 12,
 oI 74 1 72 73,
 oL 75 74,
 oF 76 2 3,
 oL 77 76,
 oM 78 11,
 oI 79 1 77 78,
 oL 80 79,
 oB 81 .add 75 80,
 oI 82 1 69 70,
 oS 1 82 81]))))
 (.seq (rg [oF 83 2 8,
 oL 84 83,
 oM 85 12,
 oI 86 1 84 85,
 oL 87 86,
 oD 88 .gtr 87 4611686018427387903])
 (.cond (.s 88) (.seq (rg [⟨some 89,.build [(.slice none 0 0),(.slice none 0 0),(.slice none 0 0)] [],none⟩,
 oS 3 6 89,
 oJ 7 false])
 (.ret))
 (.skip))))))
 (rg [oM 45 11,
 oD 46 .add 45 1,
 oM 11 46])))))))
 (.seq (rg [oN 90 3 8,
 oS 3 6 90,
 oJ 7 true])
 (.ret))))))))
theorem zkz:zgx mC 104=some (91,ziI,[.cell 6 (some 3),.tmp 7],false):=zaV (by kernel_rfl)
theorem zly{p0:S_api_Factor}{p1:(List Int)}{p2:Bool}{r:(S_api_Factor×Bool)}(h:zei p0 p1 p2=some r):Lx.FnA mC 104 [(.agg [(fzE false (eI .i64) p0.vars),(fzE false (eI .i64) p0.cards),(fzE false (eI .i64) p0.w)]),(fzE false (eI .i64) p1),(dB p2)] (.tup [(.agg [(fzE false (eI .i64) r.1.vars),(fzE false (eI .i64) r.1.cards),(fzE false (eI .i64) r.1.w)]),(dB r.2)]):=by
 refine FnA.of zkz (zaR rfl) (qad rfl) ?_;unfold zei at h;simp only[ziI,zi4];refine zaa ?_;try simp only[rnA,Nat.reduceEqDiff,Nat.reduceLT,Nat.reduceAdd,Nat.reduceLeDiff,reduceCtorEq]
 obtain⟨o1,j1,h⟩:=bind_some h;obtain⟨T1,hT1⟩:=mkT fun a:(List Int)=>⟨91,[(2,(dB p2)),(3,(.ptr 0 0)),(6,(.ptr 1 0)),(8,(.ptr 2 0)),(9,(.sl 3 0 1 a.length none a.length))],[.cells [(fzE false (eI .i64) p0.vars),(fzE false (eI .i64) p0.cards),(fzE false (eI .i64) p0.w)],.cells [zat,zat,zat],.cells [(fzE false (eI .i64) p1),zat,zat],.grow 1 (a.map ((eI .i64).c true))]⟩
 refine EvL.jn T1 (fun a=>a=o1) ?_ ?_
 ·refine zaa ?_;simp only[rnA];obtain⟨T2,hT2⟩:=mkT fun a:(Int×(List Int))=>⟨91,[(1,(fzE false (eI .i64) p1)),(2,(dB p2)),(3,(.ptr 0 0)),(6,(.ptr 1 0)),(8,(.ptr 2 0)),(9,(.sl 3 0 1 a.2.length none a.2.length)),(10,(dI a.1))],[.cells [(fzE false (eI .i64) p0.vars),(fzE false (eI .i64) p0.cards),(fzE false (eI .i64) p0.w)],.cells [zat,zat,zat],.cells [(fzE false (eI .i64) p1),zat,zat],.grow 1 (a.2.map ((eI .i64).c true))]⟩
  refine EvL.zeI (zbx.ghost (n:=1) (k:=9) (by decide) rfl) ?_;refine EvL.rounds (α:=(Int×(List Int))) T2 (fun n a=>zcu p1 p0 n a.1 a.2=some o1) ((p1.length:Int) - 0+2:Int).toNat (0,[]) (by rw[hT2]; exact wm0 [.k,.k,.k,.k] ⟨MB.cs ⟨qca,qca,qca,qca⟩,⟨MB.cs ⟨qca,qca,qca,qca⟩,⟨MB.cs ⟨qca,qca,qca,qca⟩,⟨MB.gs (eI .i64) true [],qca⟩⟩⟩⟩) j1 (fun _ h=>nomatch (show(none:Option (List Int))=some o1 from h)) ?_;rintro n ⟨v10,l3⟩ j1;simp only[zcu]at j1;rw[congrFun hT2 (v10,l3)];refine zaa ?_;try simp only[rnA,Nat.reduceEqDiff,Nat.reduceLT,zav]
  cases c1:(decide (v10<(p1.length:Int)))
  ·rw[c1,cond_false]at j1;try simp only[rnA]
   replace j1:=qaa j1; subst j1;exact lfj hT1 rfl (wm0 [.k,.k,.k,.k] ⟨MB.cs ⟨qca,qca,qca,qca⟩,⟨MB.cs ⟨qca,qca,qca,qca⟩,⟨MB.cs ⟨qca,qca,qca,qca⟩,⟨MB.gs (eI .i64) true l3,qca⟩⟩⟩⟩)
  rw[c1,cond_true]at j1;obtain⟨x2,g3,j1⟩:=bind_some j1;obtain⟨r4,g5,j1⟩:=bind_some j1;try simp only[rnA,Nat.reduceEqDiff,Nat.reduceLT,Nat.reduceAdd,Nat.reduceLeDiff,zam (n:=1) (e:=(eI .i64)) rfl g3]
  refine EvL.fn (zgK g5) rfl rfl (.cons (.za5 (.cons (zab _ _ (fun h=>nomatch h)) (.cons (zab _ _ (fun h=>nomatch h)) (.cons (zab _ _ (fun h=>nomatch h)) .nil)))) (.cons (.lit _) .nil)) ?_;obtain⟨y6,g7,j1⟩:=bind_some j1;try simp only[rnA,Nat.reduceEqDiff,Nat.reduceLT,Nat.reduceAdd,Nat.reduceLeDiff,zev g7,(show l3.length+1=y6.length from zdf g7),(show l3.map ((eI .i64).c true)++ [[(dI r4)]]=y6.map ((eI .i64).c true)from zdQ g7 ((eI .i64).c true))]
  exact⟨((w64 (v10+1)),y6),j1,by rw[hT2]; exact wm0 [.k,.k,.k,.k] ⟨MB.cs ⟨qca,qca,qca,qca⟩,⟨MB.cs ⟨qca,qca,qca,qca⟩,⟨MB.cs ⟨qca,qca,qca,qca⟩,⟨MB.gs (eI .i64) true y6,qca⟩⟩⟩⟩⟩
 rintro l3 rfl;rw[congrFun hT1 l3];refine zaa ?_;obtain⟨r8,g9,h⟩:=bind_some h;try simp only[rnA,Nat.reduceEqDiff,Nat.reduceLT]
 refine EvL.fn (zhu g9) rfl rfl (.cons (zab _ _ (fun h=>nomatch h)) (.cons (zbr (e:=(eI .i64)) (t:=true) rfl (.inr rfl) rfl rfl (fun k h=>nomatch h) (fun h=>nomatch h)) .nil)) ?_;obtain⟨r10,g11,h⟩:=bind_some h;try simp only[rnA,Nat.reduceEqDiff,Nat.reduceLT,Nat.reduceAdd,Nat.reduceLeDiff]
 refine EvL.fn (zfJ g11) rfl rfl (.cons (zab _ _ (fun h=>nomatch h)) .nil) ?_;obtain⟨y12,g13,h⟩:=bind_some h;try simp only[rnA,Nat.reduceEqDiff,Nat.reduceLT,Nat.reduceAdd,Nat.reduceLeDiff,(zaq g13).1.1,(zaq g13).1.2,qbo,(show List.replicate (Int.toNat r10) [(dI 0)]=y12.map ((eI .i64).c true)from zbo g13 ((eI .i64).c true))]
 obtain⟨o6,j6,h⟩:=bind_some h;obtain⟨T6,hT6⟩:=mkT fun a:(List Int)=>⟨91,[(6,(.ptr 1 0)),(8,(.ptr 2 0))],[.gone,.cells [zat,zat,zat],.cells [(fzE false (eI .i64) p1),(fzE true (eI .i64) r8),(.sl 4 0 1 (Int.toNat r10) (some (Int.toNat r10)) (Int.toNat r10))],.gone,.els 1 (a.map ((eI .i64).c true))]⟩
 refine EvL.jn T6 (fun a=>o6=.go a∧a.length=(Int.toNat r10)) ?_ ?_
 ·refine zaa ?_;simp only[rnA];obtain⟨T9,hT9⟩:=mkT fun a:(Bool×Int×(List Int))=>⟨91,[(2,(dB a.1)),(3,(.ptr 0 0)),(6,(.ptr 1 0)),(8,(.ptr 2 0)),(9,(.sl 3 0 1 l3.length none l3.length)),(11,(dI a.2.1))],[.cells [(fzE false (eI .i64) p0.vars),(fzE false (eI .i64) p0.cards),(fzE false (eI .i64) p0.w)],.cells [zat,zat,zat],.cells [(fzE false (eI .i64) p1),(fzE true (eI .i64) r8),(.sl 4 0 1 (Int.toNat r10) (some (Int.toNat r10)) (Int.toNat r10))],.grow 1 (l3.map ((eI .i64).c true)),.els 1 (a.2.2.map ((eI .i64).c true))]⟩
  refine EvL.rounds (α:=(Bool×Int×(List Int))) T9 (fun n a=>zce p0 l3 r10 n a.1 a.2.1 a.2.2=some o6∧a.2.2.length=(Int.toNat r10)) ((p0.w.length:Int) - 0+2:Int).toNat (p2,0,y12) (by rw[hT9]; exact wm0 [.k,.k,.k,.k,.k] ⟨MB.cs ⟨qca,qca,qca,qca⟩,⟨MB.cs ⟨qca,qca,qca,qca⟩,⟨MB.cs ⟨qca,qca,rfl,qca⟩,⟨MB.gs (eI .i64) true l3,⟨MB.es (eI .i64) true y12,qca⟩⟩⟩⟩⟩) ⟨j6,zbk g13⟩ (fun _ h=>nomatch (show(none:Option (Out (List Int) (S_api_Factor×Bool)))=some o6 from h.1)) ?_;rintro n ⟨v2,v11,l4⟩ ⟨j6,el4⟩;simp only[zce]at j6;rw[congrFun hT9 (v2,v11,l4)];refine zaa ?_;try simp only[rnA,Nat.reduceEqDiff,Nat.reduceLT,zav]
  cases c14:(decide (v11<(p0.w.length:Int)))
  ·rw[c14,cond_false]at j6;try simp only[rnA]
   replace j6:=qaa j6; subst j6;exact⟨_,⟨rfl,el4⟩,by rw[hT6]; exact wm0 [.d,.k,.k,.d,.k] ⟨rfl,⟨MB.cs ⟨qca,qca,qca,qca⟩,⟨MB.cs ⟨qca,qca,rfl,qca⟩,⟨rfl,⟨MB.es (eI .i64) true l4,qca⟩⟩⟩⟩⟩⟩
  rw[c14,cond_true]at j6;obtain⟨r15,g16,j6⟩:=bind_some j6;try simp only[rnA,Nat.reduceEqDiff,Nat.reduceLT]
  refine EvL.fn (zlF g16) rfl rfl (.cons (zab _ _ (fun h=>nomatch h)) (.cons (zbr (e:=(eI .i64)) (t:=true) rfl (.inr rfl) rfl rfl (fun k h=>nomatch h) (fun h=>nomatch h)) (.cons (.lit _) .nil))) ?_;try simp only[rnA,Nat.reduceEqDiff,Nat.reduceLT]
  obtain⟨o10,j10,j6⟩:=bind_some j6;obtain⟨T10,hT10⟩:=mkT fun a:(Bool×(List Int))=>⟨91,[(2,(dB a.1)),(3,(.ptr 0 0)),(6,(.ptr 1 0)),(8,(.ptr 2 0)),(9,(.sl 3 0 1 l3.length none l3.length)),(11,(dI v11)),(12,(dI r15))],[.cells [(fzE false (eI .i64) p0.vars),(fzE false (eI .i64) p0.cards),(fzE false (eI .i64) p0.w)],.cells [zat,zat,zat],.cells [(fzE false (eI .i64) p1),(fzE true (eI .i64) r8),(.sl 4 0 1 (Int.toNat r10) (some (Int.toNat r10)) (Int.toNat r10))],.grow 1 (l3.map ((eI .i64).c true)),.els 1 (a.2.map ((eI .i64).c true))]⟩
  refine EvL.jn T10 (fun a=>a=o10∧a.2.length=(Int.toNat r10)) ?_ ?_
  ·refine zaa ?_;try simp only[rnA,Nat.reduceEqDiff]
   cases c17:v2
   ·rw[c17,cond_false]at j10;obtain⟨x18,g19,j10⟩:=bind_some j10;obtain⟨x20,g21,j10⟩:=bind_some j10;obtain⟨y22,g23,j10⟩:=bind_some j10;try simp only[rnA,Nat.reduceEqDiff,Nat.reduceLT,Nat.reduceLeDiff,el4,za0 g19,(show r15<(((Int.toNat r10):Nat):Int)from el4 ▸ za2 g19),zaD g19 ((eI .i64).c true),zam (n:=1) (e:=(eI .i64)) rfl g21,(show(l4.map ((eI .i64).c true)).set r15.toNat [(dI (w64 (x18+x20)))]=y22.map ((eI .i64).c true)from zbl g23 ((eI .i64).c true))]
    replace j10:=qaa j10; subst j10;exact⟨_,⟨rfl,(za1 g23).trans el4⟩,by rw[hT10]; exact wm0 [.k,.k,.k,.k,.k] ⟨MB.cs ⟨qca,qca,qca,qca⟩,⟨MB.cs ⟨qca,qca,qca,qca⟩,⟨MB.cs ⟨qca,qca,rfl,qca⟩,⟨MB.gs (eI .i64) true l3,⟨MB.es (eI .i64) true y22,qca⟩⟩⟩⟩⟩⟩
   rw[c17,cond_true]at j10;obtain⟨x24,g25,j10⟩:=bind_some j10;obtain⟨x26,g27,j10⟩:=bind_some j10;obtain⟨y28,g29,j10⟩:=bind_some j10;try simp only[rnA,Nat.reduceEqDiff,Nat.reduceLT,Nat.reduceLeDiff,el4,za0 g25,(show r15<(((Int.toNat r10):Nat):Int)from el4 ▸ za2 g25),zaD g25 ((eI .i64).c true),zam (n:=1) (e:=(eI .i64)) rfl g27,(show(l4.map ((eI .i64).c true)).set r15.toNat [(dI (zry x24 x26))]=y28.map ((eI .i64).c true)from zbl g29 ((eI .i64).c true))]
   replace j10:=qaa j10; subst j10;exact⟨_,⟨rfl,(za1 g29).trans el4⟩,by rw[hT10]; exact wm0 [.k,.k,.k,.k,.k] ⟨MB.cs ⟨qca,qca,qca,qca⟩,⟨MB.cs ⟨qca,qca,qca,qca⟩,⟨MB.cs ⟨qca,qca,rfl,qca⟩,⟨MB.gs (eI .i64) true l3,⟨MB.es (eI .i64) true y28,qca⟩⟩⟩⟩⟩⟩
  rintro⟨v2',l4'⟩ ⟨rfl,el4'⟩;dsimp only at j6;rw[congrFun hT10 (v2',l4')];refine zaa ?_;obtain⟨x30,g31,j6⟩:=bind_some j6;try simp only[rnA,Nat.reduceEqDiff,Nat.reduceLT,el4',za0 g31,(show r15<(((Int.toNat r10):Nat):Int)from el4' ▸ za2 g31),zaD g31 ((eI .i64).c true)]
  cases c32:(decide (4611686018427387903<x30))
  ·rw[c32,cond_false]at j6;try simp only[rnA,Nat.reduceEqDiff,Nat.reduceLT]
   exact⟨(v2',(w64 (v11+1)),l4'),⟨j6,el4'⟩,by rw[hT9]; exact wm0 [.k,.k,.k,.k,.k] ⟨MB.cs ⟨qca,qca,qca,qca⟩,⟨MB.cs ⟨qca,qca,qca,qca⟩,⟨MB.cs ⟨qca,qca,rfl,qca⟩,⟨MB.gs (eI .i64) true l3,⟨MB.es (eI .i64) true l4',qca⟩⟩⟩⟩⟩⟩
  rw[c32,cond_true]at j6;try simp only[rnA,Nat.reduceEqDiff,Nat.reduceLT,Nat.reduceAdd,Nat.reduceLeDiff]
  replace j6:=qaa j6; subst j6;dsimp only at h;replace h:=qaa h; subst h;exact zeQ.ret rfl (Snp.zdn (.cons (.za5 (.cons (zah (eI .i64)) (.cons (zah (eI .i64)) (.cons (zah (eI .i64)) .nil)))) (.cons (.lit _) .nil)))
 rintro l4 ⟨rfl,el4⟩;dsimp only at h;rw[congrFun hT6 l4];refine zaa ?_;try simp only[rnA,Nat.reduceEqDiff,Nat.reduceLT,Nat.reduceAdd,Nat.reduceLeDiff]
 replace h:=qaa h; subst h;exact zeQ.ret rfl (Snp.zdn (.cons (.za5 (.cons (zab _ _ (fun h=>nomatch h)) (.cons (zab _ _ (fun h=>nomatch h)) (.cons (zbr (e:=(eI .i64)) (t:=true) rfl (.inl rfl) (el4).symm (el4).symm (fun k h=>by cases h; exact qai _) (fun h=>nomatch h)) .nil)))) (.cons (.lit _) .nil)))
end Go.Dc
