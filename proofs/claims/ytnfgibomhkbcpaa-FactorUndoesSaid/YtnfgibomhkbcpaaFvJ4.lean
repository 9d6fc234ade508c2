/-
 What r02_Size computes. Conditions: none.
-/
import Derived.Test.YtnfgibomhkbcpaaFvJ3
set_option linter.unusedSimpArgs false
set_option linter.unusedVariables false
set_option maxRecDepth 100000
set_option maxHeartbeats 4000000
namespace Go.Dc
open Go Go.Mx Go.Lx Go.Proofs
def zcO(p0:(List Int)):Nat→Int→Int→Option Int
 | 0,_,_=>none
 | n+1,v3,v4=>(
bif (decide (v4<(p0.length:Int)))then(
(zbl p0 v4).bind fun x2=>
zcO p0 n (w64 (v3 * x2)) (w64 (v4+1)))
else(
some v3))
def zdQ(p0:(List Int)):Option Int:=
((zcO p0 ((p0.length:Int) - 0+2:Int).toNat 1 0:Option Int)).bind fun v3=>
some v3
theorem zle{p0:(List Int)}{r:Int}(h:zdQ p0=some r):Lx.Fn mC 82 [(fzE false (eI .i64) p0)] (dI r):=by
 refine fnO (by conv=>lhs; cbv) ?_;unfold zdQ at h;refine zab ?_;try simp only[rnA,Nat.reduceEqDiff,reduceIte,Nat.reduceLT,Nat.reduceAdd,Nat.reduceLeDiff,Nat.reduceMul,Nat.reduceSub,Int.reduceLE,Int.reduceLT,Int.reduceBEq,Nat.reduceBEq,reduceCtorEq]
 obtain⟨o1,j1,h⟩:=bind_some h;obtain⟨T1,hT1⟩:=mkT fun a:Int=>⟨18,[(3,(dI a))],[]⟩
 refine EvL.jn T1 (fun a=>a=o1) ?_ ?_
 ·refine zab ?_;simp only[rnA,Nat.reduceEqDiff,reduceIte,Nat.reduceLT,Nat.reduceAdd,Nat.reduceLeDiff,Nat.reduceMul,Nat.reduceSub,Int.reduceLE,Int.reduceLT,Int.reduceBEq,Nat.reduceBEq,reduceCtorEq];obtain⟨T2,hT2⟩:=mkT fun a:(Int×Int)=>⟨18,[(0,(fzE false (eI .i64) p0)),(3,(dI a.1)),(4,(dI a.2))],[]⟩
  refine EvL.rounds (α:=(Int×Int)) T2 (fun n a=>zcO p0 n a.1 a.2=some o1) ((p0.length:Int) - 0+2:Int).toNat (1,0) (by rw[hT2]; exact wm0 [] (by exact trivial)) j1 (fun _ h=>nomatch (show(none:Option Int)=some o1 from h)) ?_;rintro n ⟨v3,v4⟩ j1;simp only[zcO]at j1;rw[congrFun hT2 (v3,v4)];refine zab ?_;try simp only[rnA,Nat.reduceEqDiff,reduceIte,Nat.reduceLT,Nat.reduceAdd,Nat.reduceLeDiff,Nat.reduceMul,Nat.reduceSub,Int.reduceLE,Int.reduceLT,Int.reduceBEq,Nat.reduceBEq,reduceCtorEq,zaQ]
  cases c1:(decide (v4<(p0.length:Int)))
  ·rw[c1,cond_false]at j1;try simp only[rnA,Nat.reduceEqDiff,reduceIte,Nat.reduceLT,Nat.reduceAdd,Nat.reduceLeDiff,Nat.reduceMul,Nat.reduceSub,Int.reduceLE,Int.reduceLT,Int.reduceBEq,Nat.reduceBEq,reduceCtorEq,c1]
   replace j1:=qab j1; subst j1;exact lfj hT1 rfl (wm0 [] (by exact trivial))
  rw[c1,cond_true]at j1;obtain⟨x2,g3,j1⟩:=bind_some j1;try simp only[rnA,Nat.reduceEqDiff,reduceIte,Nat.reduceLT,Nat.reduceAdd,Nat.reduceLeDiff,Nat.reduceMul,Nat.reduceSub,Int.reduceLE,Int.reduceLT,Int.reduceBEq,Nat.reduceBEq,reduceCtorEq,zaq (n:=1) (e:=(eI .i64)) rfl g3,c1]
  exact⟨((w64 (v3 * x2)),(w64 (v4+1))),j1,by rw[hT2]; exact wm0 [] (by exact trivial)⟩
 rintro v3 rfl;rw[congrFun hT1 v3];refine zab ?_;try simp only[rnA,Nat.reduceEqDiff,reduceIte,Nat.reduceLT,Nat.reduceAdd,Nat.reduceLeDiff,Nat.reduceMul,Nat.reduceSub,Int.reduceLE,Int.reduceLT,Int.reduceBEq,Nat.reduceBEq,reduceCtorEq]
 replace h:=qab h; subst h;exact zcC.ret rfl (.lit _)
def zaD(p0:S_haruspexref03_Draft):Nat→Int→(List Int)→(List Int)→Option ((List Int)×(List Int))
 | 0,_,_,_=>none
 | n+1,v5,l4,l5=>(
bif (decide (v5<5))then(
(zl1 .u8 p0.which (IntKind.u64.wrap v5)).bind fun q2=>
((bif ((zmY .u8 q2 1)== 1)then(
(zgs 8 l4 [v5]).bind fun y5=>
(zbl [2,3,1,2,2] v5).bind fun x7=>
(zgs 8 l5 [x7]).bind fun y9=>
some (y5,y9))
else(
some (l4,l5)):Option (((List Int)×(List Int))))).bind fun o=>match o with
|(l4',l5')=>(
zaD p0 n (w64 (v5+1)) l4' l5'))
else(
some (l4,l5)))
def zaE(l5:(List Int))(p0:S_haruspexref03_Draft)(v6:Int):Nat→Int→(List Int)→Option (List Int)
 | 0,_,_=>none
 | n+1,v7,l6=>(
(zdQ l5).bind fun r12=>
bif (decide (v7<r12))then(
((bif (decide (0<(p0.n.length:Int)))then(
(zo1 v7 (p0.n.length:Int)).bind fun q16=>
(zbl p0.n q16).bind fun x18=>
some (w64 (x18.tmod 10)))
else(
some 1):Option Int)).bind fun v8=>
(zgs 8 l6 [(w64 (v8 * v6))]).bind fun y20=>
zaE l5 p0 v6 n (w64 (v7+1)) y20)
else(
some l6))
def zaB(N:Nat)(p0:S_haruspexref03_Draft):Option S_api_Factor:=
((zaD p0 (5 - 0+2:Int).toNat 0 [] []:Option (((List Int)×(List Int))))).bind fun o=>match o with
|(l4,l5)=>(
((bif p0.large then(
some (1000000000000000,true))
else(
some (1,false)):Option ((Int×Bool)))).bind fun o=>match o with
|(v6,b0_2)=>(
((zaE l5 p0 v6 N 0 []:Option (List Int))).bind fun l6=>
some (S_api_Factor.mk l4 l5 l6)))
def zdy:C:=
 .seq (rg [oW 1 0,
 ⟨some 2,.alloc [(.slice none 0 0),(.slice none 0 0),(.slice none 0 0)],none⟩])
 (.seq (rg [⟨some 9,.build [(.int .i64 0),(.int .i64 0),(.int .i64 0),(.int .i64 0),(.int .i64 0)] [(0,1,(.c (.int .i64 2))),(1,1,(.c (.int .i64 3))),(2,1,(.c (.int .i64 1))),(3,1,(.c (.int .i64 2))),(4,1,(.c (.int .i64 2)))],none⟩,
 ⟨some 3,.alloc [(.int .i64 0),(.int .i64 0),(.int .i64 0),(.int .i64 0),(.int .i64 0)],none⟩,
 oS 5 3 9])
 (.seq (rg [⟨some 4,.alloc [(.slice none 0 0),(.slice none 0 0),(.slice none 0 0)],none⟩])
 (.seq (.seq (rg [oK 5 0])
 (.scope (.block 0 (.loop (.seq (.seq (rg [oM 10 5,
 oD 11 .lss 10 5])
 (.cond (.s 11) (.skip)
 (.exit 0)))
 (.seq (.block 1 (.seq (rg [oF 14 0 1,
 oL 15 14,
 oM 16 5,
 ⟨some 17,.conv .u64 (.s 16),none⟩,
 oB 18 .shr 15 17,
 ⟨some 19,.bin .and (.s 18) (.c (.int .u8 1)),none⟩,
 ⟨some 20,.bin .eql (.s 19) (.c (.int .u8 1)),none⟩])
 (.scope (.cond (.s 20) (.seq (rg [oF 21 0 4,
 oL 22 21,
 oM 23 5,
 ⟨some 24,.bsl 1 1 [(.int .i64 0)] [(0,(.s 23))],none⟩,
 oT 25 1 8 22 24,
 oF 26 0 4,
 oS 1 26 25])
 (.reg true false [oF 27 1 4,
 oL 28 27,
 oM 29 5,
 ⟨some 30,.idxA 1 5 (.s 3) (.s 29),none⟩,
 oL 31 30,
 ⟨some 32,.bsl 1 1 [(.int .i64 0)] [(0,(.s 31))],none⟩,
 oT 33 1 8 28 32,
 oF 34 1 4,
 oS 1 34 33]))
 (.skip)))))
 (rg [oM 12 5,
 oD 13 .add 12 1,
 oM 5 13])))))))
 (.seq (rg [oK 6 1])
 (.seq (.seq (rg [oF 35 2 1,
 oL 36 35])
 (.scope (.cond (.s 36) (rg [oK 6 1000000000000000])
 (.skip))))
 (.seq (.seq (rg [oK 7 0])
 (.scope (.block 2 (.loop (.seq (.seq (rg [oM 37 7,
 oF 38 1 4,
 oL 39 38,
 oU 40 82 39,
 oB 41 .lss 37 40])
 (.cond (.s 41) (.skip)
 (.exit 2)))
 (.seq (.block 3 (.seq (rg [oK 8 1])
 (.seq (.seq (rg [oF 44 1 1,
 oL 45 44,
 oE 46 45,
 oD 47 .gtr 46 0])
 (.scope (.cond (.s 47) (.reg true false [oF 48 1 1,
 oL 49 48,
 oM 50 7,
 oF 51 1 1,
 oL 52 51,
 oE 53 52,
 oB 54 .rem 50 53,
 oI 55 1 49 54,
 oL 56 55,
 ⟨some 57,.bin .rem (.s 56) (.c (.int .u8 10)),none⟩,
 ⟨some 58,.conv .i64 (.s 57),none⟩,
 oM 8 58])
 (.skip))))
 (rg [oF 59 2 4,
 oL 60 59,
 oM 61 8,
 oM 62 6,
 oB 63 .mul 61 62,
 ⟨some 64,.bsl 1 1 [(.int .i64 0)] [(0,(.s 63))],none⟩,
 oT 65 1 8 60 64,
 oF 66 2 4,
 oS 1 66 65]))))
 (rg [oM 42 7,
 oD 43 .add 42 1,
 oM 7 43])))))))
 (.seq (rg [oN 67 3 4,
 oS 3 2 67])
 (.ret))))))))
theorem zeX:zgz mC 22=some (68,zdy,[.cell 2 (some 3)],false):=za6 (by kernel_rfl)
theorem zdk{N:Nat}{p0:S_haruspexref03_Draft}{r:S_api_Factor}(h:zaB N p0=some r):Lx.Fn mC 22 [(.agg [(dU8 p0.which),(fzE false (eI .u8) p0.n),(dB p0.large)])] (.agg [(fzE true (eI .i64) r.vars),(fzE true (eI .i64) r.zad),(fzE true (eI .i64) r.w)]):=by
 refine Fn.of zeX (zaX rfl) (qad rfl) ?_;unfold zaB at h;simp only[zdy,zkA];refine zab ?_;try simp only[rnA,Nat.reduceEqDiff,Nat.reduceLT,Nat.reduceAdd,Nat.reduceLeDiff,reduceCtorEq]
 obtain⟨o5,j5,h⟩:=bind_some h;obtain⟨T5,hT5⟩:=mkT fun a:((List Int)×(List Int))=>⟨68,[(1,(.ptr 0 0)),(2,(.ptr 1 0)),(4,(.ptr 3 0))],[.cells [(dU8 p0.which),(fzE false (eI .u8) p0.n),(dB p0.large)],.cells [zas,zas,zas],.gone,.cells [(.sl 4 0 1 a.1.length none a.1.length),(.sl 5 0 1 a.2.length none a.2.length),zas],.grow 1 (a.1.map ((eI .i64).c true)),.grow 1 (a.2.map ((eI .i64).c true))]⟩
 refine EvL.jn T5 (fun a=>a=o5) ?_ ?_
 ·refine zab ?_;simp only[rnA];obtain⟨T9,hT9⟩:=mkT fun a:(Int×(List Int)×(List Int))=>⟨68,[(1,(.ptr 0 0)),(2,(.ptr 1 0)),(3,(.ptr 2 0)),(4,(.ptr 3 0)),(5,(dI a.1))],[.cells [(dU8 p0.which),(fzE false (eI .u8) p0.n),(dB p0.large)],.cells [zas,zas,zas],.cells [(dI 2),(dI 3),(dI 1),(dI 2),(dI 2)],.cells [(.sl 4 0 1 a.2.1.length none a.2.1.length),(.sl 5 0 1 a.2.2.length none a.2.2.length),zas],.grow 1 (a.2.1.map ((eI .i64).c true)),.grow 1 (a.2.2.map ((eI .i64).c true))]⟩
  refine EvL.zeU (zbE.zn8 (n:=1) (β:=3) (o:=0) (by decide) rfl rfl) ?_;refine EvL.zeU (zbE.zn8 (n:=1) (β:=3) (o:=1) (by decide) rfl rfl) ?_;refine EvL.rounds (α:=(Int×(List Int)×(List Int))) T9 (fun n a=>zaD p0 n a.1 a.2.1 a.2.2=some o5) (5 - 0+2:Int).toNat (0,[],[]) (by rw[hT9]; exact wm0 [.k,.k,.k,.k,.k,.k] ⟨MB.cs ⟨qci,qci,qci,qci⟩,⟨MB.cs ⟨qci,qci,qci,qci⟩,⟨MB.cs ⟨qci,qci,qci,qci,qci,qci⟩,⟨MB.cs ⟨rfl,rfl,qci,qci⟩,⟨MB.gs (eI .i64) true [],⟨MB.gs (eI .i64) true [],qci⟩⟩⟩⟩⟩⟩) j5 (fun _ h=>nomatch (show(none:Option ((List Int)×(List Int)))=some o5 from h)) ?_;rintro n ⟨v5,l4,l5⟩ j5;simp only[zaD]at j5;rw[congrFun hT9 (v5,l4,l5)];refine zab ?_;try simp only[rnA,Nat.reduceEqDiff,Nat.reduceLT]
  cases c1:(decide (v5<5))
  ·rw[c1,cond_false]at j5;try simp only[rnA]
   replace j5:=qab j5; subst j5;exact lfj hT5 rfl (wm0 [.k,.k,.d,.k,.k,.k] ⟨MB.cs ⟨qci,qci,qci,qci⟩,⟨MB.cs ⟨qci,qci,qci,qci⟩,⟨rfl,⟨MB.cs ⟨rfl,rfl,qci,qci⟩,⟨MB.gs (eI .i64) true l4,⟨MB.gs (eI .i64) true l5,qci⟩⟩⟩⟩⟩⟩)
  rw[c1,cond_true]at j5;obtain⟨q2,g3,j5⟩:=bind_some j5;try simp only[rnA,Nat.reduceEqDiff,Nat.reduceLT,(zci g3).1,(zci g3).2]
  obtain⟨o10,j10,j5⟩:=bind_some j5;obtain⟨T10,hT10⟩:=mkT fun a:((List Int)×(List Int))=>⟨68,[(1,(.ptr 0 0)),(2,(.ptr 1 0)),(3,(.ptr 2 0)),(4,(.ptr 3 0)),(5,(dI v5))],[.cells [(dU8 p0.which),(fzE false (eI .u8) p0.n),(dB p0.large)],.cells [zas,zas,zas],.cells [(dI 2),(dI 3),(dI 1),(dI 2),(dI 2)],.cells [(.sl 4 0 1 a.1.length none a.1.length),(.sl 5 0 1 a.2.length none a.2.length),zas],.grow 1 (a.1.map ((eI .i64).c true)),.grow 1 (a.2.map ((eI .i64).c true))]⟩
  refine EvL.jn T10 (fun a=>a=o10) ?_ ?_
  ·refine zab ?_;try simp only[rnA,Nat.reduceEqDiff]
   cases c4:((zmY .u8 q2 1)== 1)
   ·rw[c4,cond_false]at j10;try simp only[rnA]
    replace j10:=qab j10; subst j10;exact lfj hT10 rfl (wm0 [.k,.k,.k,.k,.k,.k] ⟨MB.cs ⟨qci,qci,qci,qci⟩,⟨MB.cs ⟨qci,qci,qci,qci⟩,⟨MB.cs ⟨qci,qci,qci,qci,qci,qci⟩,⟨MB.cs ⟨rfl,rfl,qci,qci⟩,⟨MB.gs (eI .i64) true l4,⟨MB.gs (eI .i64) true l5,qci⟩⟩⟩⟩⟩⟩)
   rw[c4,cond_true]at j10;obtain⟨y5,g6,j10⟩:=bind_some j10;obtain⟨x7,g8,j10⟩:=bind_some j10;obtain⟨y9,g10,j10⟩:=bind_some j10;try simp only[rnA,Nat.reduceEqDiff,Nat.reduceLT,Nat.reduceAdd,Nat.reduceLeDiff,zgD g6,(show l4.length+1=y5.length from zeD g6),(show l4.map ((eI .i64).c true)++ [[(dI v5)]]=y5.map ((eI .i64).c true)from zfr g6 ((eI .i64).c true)),zbi g8,(show v5<((5:Nat):Int)from zbk g8),Nat.mul_one,(show [(dI 2),(dI 3),(dI 1),(dI 2),(dI 2)][v5.toNat]? = some (.lit (.int .i64 x7))from zok g8 (fun x=>(.lit (.int .i64 x):D)) rfl),zgD g10,(show l5.length+1=y9.length from zeD g10),(show l5.map ((eI .i64).c true)++ [[(dI x7)]]=y9.map ((eI .i64).c true)from zfr g10 ((eI .i64).c true))]
   replace j10:=qab j10; subst j10;exact lfj hT10 rfl (wm0 [.k,.k,.k,.k,.k,.k] ⟨MB.cs ⟨qci,qci,qci,qci⟩,⟨MB.cs ⟨qci,qci,qci,qci⟩,⟨MB.cs ⟨qci,qci,qci,qci,qci,qci⟩,⟨MB.cs ⟨rfl,rfl,qci,qci⟩,⟨MB.gs (eI .i64) true y5,⟨MB.gs (eI .i64) true y9,qci⟩⟩⟩⟩⟩⟩)
  rintro⟨l4',l5'⟩ rfl;dsimp only at j5;rw[congrFun hT10 (l4',l5')];refine zab ?_;try simp only[rnA,Nat.reduceEqDiff,Nat.reduceLT]
  exact⟨((w64 (v5+1)),l4',l5'),j5,by rw[hT9]; exact wm0 [.k,.k,.k,.k,.k,.k] ⟨MB.cs ⟨qci,qci,qci,qci⟩,⟨MB.cs ⟨qci,qci,qci,qci⟩,⟨MB.cs ⟨qci,qci,qci,qci,qci,qci⟩,⟨MB.cs ⟨rfl,rfl,qci,qci⟩,⟨MB.gs (eI .i64) true l4',⟨MB.gs (eI .i64) true l5',qci⟩⟩⟩⟩⟩⟩⟩
 rintro⟨l4,l5⟩ rfl;dsimp only at h;rw[congrFun hT5 (l4,l5)];refine zab ?_;try simp only[rnA,Nat.reduceEqDiff,Nat.reduceLT]
 obtain⟨o11,j11,h⟩:=bind_some h;obtain⟨T11,hT11⟩:=mkT fun a:(Int×Bool)=>⟨68,[(1,(.ptr 0 0)),(2,(.ptr 1 0)),(4,(.ptr 3 0)),(6,(dI a.1))],[.cells [(dU8 p0.which),(fzE false (eI .u8) p0.n),(dB a.2)],.cells [zas,zas,zas],.gone,.cells [(.sl 4 0 1 l4.length none l4.length),(.sl 5 0 1 l5.length none l5.length),zas],.grow 1 (l4.map ((eI .i64).c true)),.grow 1 (l5.map ((eI .i64).c true))]⟩
 refine EvL.jn T11 (fun a=>a=o11) ?_ ?_
 ·refine zab ?_;try simp only[rnA,Nat.reduceEqDiff]
  cases c11:p0.large
  ·rw[c11,cond_false]at j11;try simp only[rnA]
   replace j11:=qab j11; subst j11;exact lfj hT11 rfl (wm0 [.k,.k,.d,.k,.k,.k] ⟨MB.cs ⟨qci,qci,qci,qci⟩,⟨MB.cs ⟨qci,qci,qci,qci⟩,⟨rfl,⟨MB.cs ⟨rfl,rfl,qci,qci⟩,⟨MB.gs (eI .i64) true l4,⟨MB.gs (eI .i64) true l5,qci⟩⟩⟩⟩⟩⟩)
  rw[c11,cond_true]at j11;try simp only[rnA,Nat.reduceLT]
  replace j11:=qab j11; subst j11;exact lfj hT11 rfl (wm0 [.k,.k,.d,.k,.k,.k] ⟨MB.cs ⟨qci,qci,qci,qci⟩,⟨MB.cs ⟨qci,qci,qci,qci⟩,⟨rfl,⟨MB.cs ⟨rfl,rfl,qci,qci⟩,⟨MB.gs (eI .i64) true l4,⟨MB.gs (eI .i64) true l5,qci⟩⟩⟩⟩⟩⟩)
 rintro⟨v6,b0_2⟩ rfl;dsimp only at h;rw[congrFun hT11 (v6,b0_2)];refine zab ?_;try simp only[rnA,Nat.reduceLT]
 obtain⟨o16,j16,h⟩:=bind_some h;obtain⟨T16,hT16⟩:=mkT fun a:(List Int)=>⟨68,[(2,(.ptr 1 0)),(4,(.ptr 3 0))],[.gone,.cells [zas,zas,zas],.gone,.cells [(.sl 4 0 1 l4.length none l4.length),(.sl 5 0 1 l5.length none l5.length),(.sl 6 0 1 a.length none a.length)],.grow 1 (l4.map ((eI .i64).c true)),.grow 1 (l5.map ((eI .i64).c true)),.grow 1 (a.map ((eI .i64).c true))]⟩
 refine EvL.jn T16 (fun a=>a=o16) ?_ ?_
 ·refine zab ?_;simp only[rnA];obtain⟨T20,hT20⟩:=mkT fun a:(Int×(List Int))=>⟨68,[(1,(.ptr 0 0)),(2,(.ptr 1 0)),(4,(.ptr 3 0)),(6,(dI v6)),(7,(dI a.1))],[.cells [(dU8 p0.which),(fzE false (eI .u8) p0.n),(dB b0_2)],.cells [zas,zas,zas],.gone,.cells [(.sl 4 0 1 l4.length none l4.length),(.sl 5 0 1 l5.length none l5.length),(.sl 6 0 1 a.2.length none a.2.length)],.grow 1 (l4.map ((eI .i64).c true)),.grow 1 (l5.map ((eI .i64).c true)),.grow 1 (a.2.map ((eI .i64).c true))]⟩
  refine EvL.zeU (zbE.zn8 (n:=1) (β:=3) (o:=2) (by decide) rfl rfl) ?_;refine EvL.rounds (α:=(Int×(List Int))) T20 (fun n a=>zaE l5 p0 v6 n a.1 a.2=some o16) N (0,[]) (by rw[hT20]; exact wm0 [.k,.k,.d,.k,.k,.k,.k] ⟨MB.cs ⟨qci,qci,qci,qci⟩,⟨MB.cs ⟨qci,qci,qci,qci⟩,⟨rfl,⟨MB.cs ⟨rfl,rfl,rfl,qci⟩,⟨MB.gs (eI .i64) true l4,⟨MB.gs (eI .i64) true l5,⟨MB.gs (eI .i64) true [],qci⟩⟩⟩⟩⟩⟩⟩) j16 (fun _ h=>nomatch (show(none:Option (List Int))=some o16 from h)) ?_;rintro n ⟨v7,l6⟩ j16;simp only[zaE]at j16;rw[congrFun hT20 (v7,l6)];refine zab ?_;obtain⟨r12,g13,j16⟩:=bind_some j16;try simp only[rnA,Nat.reduceEqDiff,Nat.reduceLT]
  refine EvL.fn (zle g13) rfl rfl (.cons (zb7 (e:=(eI .i64)) (t:=true) rfl (.inr rfl) rfl rfl (fun k h=>nomatch h) (fun h=>nomatch h)) .nil) ?_;try simp only[rnA,Nat.reduceEqDiff,Nat.reduceLT]
  cases c14:(decide (v7<r12))
  ·rw[c14,cond_false]at j16;try simp only[rnA]
   replace j16:=qab j16; subst j16;exact lfj hT16 rfl (wm0 [.d,.k,.d,.k,.k,.k,.k] ⟨rfl,⟨MB.cs ⟨qci,qci,qci,qci⟩,⟨rfl,⟨MB.cs ⟨rfl,rfl,rfl,qci⟩,⟨MB.gs (eI .i64) true l4,⟨MB.gs (eI .i64) true l5,⟨MB.gs (eI .i64) true l6,qci⟩⟩⟩⟩⟩⟩⟩)
  rw[c14,cond_true]at j16;try simp only[rnA,Nat.reduceEqDiff,Nat.reduceLT,zaQ]
  obtain⟨o21,j21,j16⟩:=bind_some j16;obtain⟨T21,hT21⟩:=mkT fun a:Int=>⟨68,[(1,(.ptr 0 0)),(2,(.ptr 1 0)),(4,(.ptr 3 0)),(6,(dI v6)),(7,(dI v7)),(8,(dI a))],[.cells [(dU8 p0.which),(fzE false (eI .u8) p0.n),(dB b0_2)],.cells [zas,zas,zas],.gone,.cells [(.sl 4 0 1 l4.length none l4.length),(.sl 5 0 1 l5.length none l5.length),(.sl 6 0 1 l6.length none l6.length)],.grow 1 (l4.map ((eI .i64).c true)),.grow 1 (l5.map ((eI .i64).c true)),.grow 1 (l6.map ((eI .i64).c true))]⟩
  refine EvL.jn T21 (fun a=>a=o21) ?_ ?_
  ·refine zab ?_;try simp only[rnA,Nat.reduceEqDiff]
   cases c15:(decide (0<(p0.n.length:Int)))
   ·rw[c15,cond_false]at j21;try simp only[rnA]
    replace j21:=qab j21; subst j21;exact lfj hT21 rfl (wm0 [.k,.k,.d,.k,.k,.k,.k] ⟨MB.cs ⟨qci,qci,qci,qci⟩,⟨MB.cs ⟨qci,qci,qci,qci⟩,⟨rfl,⟨MB.cs ⟨rfl,rfl,rfl,qci⟩,⟨MB.gs (eI .i64) true l4,⟨MB.gs (eI .i64) true l5,⟨MB.gs (eI .i64) true l6,qci⟩⟩⟩⟩⟩⟩⟩)
   rw[c15,cond_true]at j21;obtain⟨q16,g17,j21⟩:=bind_some j21;obtain⟨x18,g19,j21⟩:=bind_some j21;try simp only[rnA,Nat.reduceEqDiff,Nat.reduceLT,Int.reduceBEq,zaQ,zk9 g17,zom g17,zaq (n:=1) (e:=(eI .u8)) rfl g19]
   replace j21:=qab j21; subst j21;exact lfj hT21 rfl (wm0 [.k,.k,.d,.k,.k,.k,.k] ⟨MB.cs ⟨qci,qci,qci,qci⟩,⟨MB.cs ⟨qci,qci,qci,qci⟩,⟨rfl,⟨MB.cs ⟨rfl,rfl,rfl,qci⟩,⟨MB.gs (eI .i64) true l4,⟨MB.gs (eI .i64) true l5,⟨MB.gs (eI .i64) true l6,qci⟩⟩⟩⟩⟩⟩⟩)
  rintro v8 rfl;rw[congrFun hT21 v8];refine zab ?_;obtain⟨y20,g21,j16⟩:=bind_some j16;try simp only[rnA,Nat.reduceEqDiff,Nat.reduceLT,Nat.reduceAdd,Nat.reduceLeDiff,zgD g21,(show l6.length+1=y20.length from zeD g21),(show l6.map ((eI .i64).c true)++ [[(dI (w64 (v8 * v6)))]]=y20.map ((eI .i64).c true)from zfr g21 ((eI .i64).c true))]
  exact⟨((w64 (v7+1)),y20),j16,by rw[hT20]; exact wm0 [.k,.k,.d,.k,.k,.k,.k] ⟨MB.cs ⟨qci,qci,qci,qci⟩,⟨MB.cs ⟨qci,qci,qci,qci⟩,⟨rfl,⟨MB.cs ⟨rfl,rfl,rfl,qci⟩,⟨MB.gs (eI .i64) true l4,⟨MB.gs (eI .i64) true l5,⟨MB.gs (eI .i64) true y20,qci⟩⟩⟩⟩⟩⟩⟩⟩
 rintro l6 rfl;rw[congrFun hT16 l6];refine zab ?_;try simp only[rnA,Nat.reduceEqDiff,Nat.reduceLT,Nat.reduceAdd,Nat.reduceLeDiff]
 replace h:=qab h; subst h;exact zcC.ret rfl (.za5 (.cons (zb7 (e:=(eI .i64)) (t:=true) rfl (.inr rfl) rfl rfl (fun k h=>nomatch h) (fun _=>rfl)) (.cons (zb7 (e:=(eI .i64)) (t:=true) rfl (.inr rfl) rfl rfl (fun k h=>nomatch h) (fun _=>rfl)) (.cons (zb7 (e:=(eI .i64)) (t:=true) rfl (.inr rfl) rfl rfl (fun k h=>nomatch h) (fun _=>rfl)) .nil))))
def zcT:Option Bool:=
(zbI [1,4] [2,2] [1,2,3,4]).bind fun r1=>
(zbI [4] [2] [2,0]).bind fun r3=>
(zbI [1,4] [2,2] [2,0,6,0]).bind fun r5=>
(zdG r1).bind fun r7=>
(((zcE r5).bind fun r9=>
(za8 r1 r3).bind fun r11=>
(zbg r11.1 r11.2 r9).bind fun r13=>
bif r13 then(
(zcE r3).bind fun r16=>
(zeG).bind fun r18=>
(za8 r3 r18).bind fun r20=>
(zbg r20.1 r20.2 r16).bind fun r22=>
bif r22 then(
(zbI [4] [2] [4,6]).bind fun r25=>
(zcE r25).bind fun r27=>
(zcG r1 1).bind fun r29=>
(zbg r29.1 r29.2 r27).bind fun r31=>
bif r31 then(
(zbI [1] [2] [2,4]).bind fun r34=>
(zcE r34).bind fun r36=>
(zdh r1 4).bind fun r38=>
(zbg r38.1 r38.2 r36).bind fun r40=>
bif r40 then(
(zbI [4] [2] [3,4]).bind fun r43=>
(zcE r43).bind fun r45=>
(zdu r1 1 1).bind fun r47=>
(zbg r47.1 r47.2 r45).bind fun r49=>
some r49)
else(
some false))
else(
some false))
else(
some false))
else(
some false):Option Bool)).bind fun v6=>
((bif v6 then(
(zbI [4] [2] [4,6]).bind fun r52=>
(zcE r52).bind fun r54=>
(zcy r1 [4]).bind fun r56=>
(zbg r56.1 r56.2 r54).bind fun r58=>
bif r58 then(
(zbI [] [] [10]).bind fun r61=>
(zcE r61).bind fun r63=>
(zcy r1 []).bind fun r65=>
(zbg r65.1 r65.2 r63).bind fun r67=>
bif r67 then(
bif (r7.1 == 10)then(
bif (r7.2 == 0)then(
(zbI [1,4] [2,2] [1,0,3,0]).bind fun r72=>
(zcE r72).bind fun r74=>
(zaU r5 r3).bind fun r76=>
(zbg r76.1 r76.2 r74).bind fun r78=>
bif r78 then(
(zcl 4).bind fun r81=>
(zaU r1 r3).bind fun r83=>
(zbq r83.1 r83.2 r81).bind fun r85=>
bif r85 then(
(zcl 2).bind fun r88=>
(zaU r3 r1).bind fun r90=>
(zbq r90.1 r90.2 r88).bind fun r92=>
some r92)
else(
some false))
else(
some false))
else(
some false))
else(
some false))
else(
some false))
else(
some false))
else(
some false):Option Bool)).bind fun v6'=>
((bif v6' then(
(zcl 4).bind fun r95=>
(zcG r1 2).bind fun r97=>
(zbq r97.1 r97.2 r95).bind fun r99=>
bif r99 then(
(zcl 2).bind fun r102=>
(zdu r1 4 2).bind fun r104=>
(zbq r104.1 r104.2 r102).bind fun r106=>
bif r106 then(
(zcl 2).bind fun r109=>
(zcy r1 [4,1]).bind fun r111=>
(zbq r111.1 r111.2 r109).bind fun r113=>
bif r113 then(
(zcl 2).bind fun r116=>
(zbI [4] [3] [1,1,1]).bind fun r118=>
(za8 r1 r118).bind fun r120=>
(zbq r120.1 r120.2 r116).bind fun r122=>
some r122)
else(
some false))
else(
some false))
else(
some false))
else(
some false):Option Bool)).bind fun v6''=>
((bif v6'' then(
(zbI [4,1] [2,2] [1,2,3,4]).bind fun r125=>
(zch r125).bind fun r127=>
bif (r127 == 30)then(
(zbI [1] [2] [1]).bind fun r130=>
(zch r130).bind fun r132=>
bif (r132 == 30)then(
(zbI [] [] [(-1)]).bind fun r135=>
(zch r135).bind fun r137=>
some (r137 == 30))
else(
some false))
else(
some false))
else(
some false):Option Bool)).bind fun v0=>
some v0
def zgG:C:=
 .seq (rg [oJ 0 false])
 (.seq (rg [⟨some 7,.bsl 1 2 [(.int .i64 0)] [(0,(.c (.int .i64 1))),(1,(.c (.int .i64 4)))],none⟩,
 ⟨some 8,.bsl 1 2 [(.int .i64 0)] [(0,(.c (.int .i64 2))),(1,(.c (.int .i64 2)))],none⟩,
 ⟨some 9,.bsl 1 4 [(.int .i64 0)] [(0,(.c (.int .i64 1))),(1,(.c (.int .i64 2))),(2,(.c (.int .i64 3))),(3,(.c (.int .i64 4)))],none⟩,
 ⟨some 10,.call 46 [(.s 7),(.s 8),(.s 9)],none⟩,
 ⟨some 11,.bsl 1 1 [(.int .i64 0)] [(0,(.c (.int .i64 4)))],none⟩,
 ⟨some 12,.bsl 1 1 [(.int .i64 0)] [(0,(.c (.int .i64 2)))],none⟩,
 ⟨some 13,.bsl 1 2 [(.int .i64 0)] [(0,(.c (.int .i64 2))),(1,(.c (.int .i64 0)))],none⟩,
 ⟨some 14,.call 46 [(.s 11),(.s 12),(.s 13)],none⟩,
 ⟨some 1,.alloc [(.slice none 0 0),(.slice none 0 0),(.slice none 0 0)],none⟩,
 ⟨some 2,.alloc [(.slice none 0 0),(.slice none 0 0),(.slice none 0 0)],none⟩,
 oS 3 1 10,
 oS 3 2 14])
 (.seq (rg [⟨some 15,.bsl 1 2 [(.int .i64 0)] [(0,(.c (.int .i64 1))),(1,(.c (.int .i64 4)))],none⟩,
 ⟨some 16,.bsl 1 2 [(.int .i64 0)] [(0,(.c (.int .i64 2))),(1,(.c (.int .i64 2)))],none⟩,
 ⟨some 17,.bsl 1 4 [(.int .i64 0)] [(0,(.c (.int .i64 2))),(1,(.c (.int .i64 0))),(2,(.c (.int .i64 6))),(3,(.c (.int .i64 0)))],none⟩,
 ⟨some 18,.call 46 [(.s 15),(.s 16),(.s 17)],none⟩,
 ⟨some 3,.alloc [(.slice none 0 0),(.slice none 0 0),(.slice none 0 0)],none⟩,
 oS 3 3 18])
 (.seq (rg [oN 20 3 1,
 oU 21 40 20,
 oM 19 21,
 oX 22 19 0,
 oX 23 19 1,
 oM 4 22,
 oM 5 23])
 (.seq (.scope (.reg true true [oN 24 3 3,
 oN 26 3 1,
 oN 27 3 2,
 oU 25 44 24,
 oV 28 25 26 27,
 oX 29 28 0,
 oX 30 28 1,
 ⟨some 31,.zbN (.s 25) [(.s 29),(.s 30)],none⟩,
 oM 32 31,
 ⟨some 33,.load (some 3) (.s 2),some (32,true)⟩,
 ⟨some 35,.load (some 3) (.s 2),some (32,true)⟩,
 ⟨some 34,.call 44 [(.s 33)],some (32,true)⟩,
 ⟨some 36,.call 45 [],some (32,true)⟩,
 ⟨some 37,.call 25 [(.s 35),(.s 36)],some (32,true)⟩,
 ⟨some 38,.ext (.s 37) 0,some (32,true)⟩,
 ⟨some 39,.ext (.s 37) 1,some (32,true)⟩,
 ⟨some 40,.zbN (.s 34) [(.s 38),(.s 39)],some (32,true)⟩,
 ⟨some 41,.pick (.s 32) (.s 40) (.c (.bool false)),none⟩,
 oM 42 41,
 ⟨some 48,.load (some 3) (.s 1),some (42,true)⟩,
 ⟨some 43,.bsl 1 1 [(.int .i64 0)] [(0,(.c (.int .i64 4)))],some (42,true)⟩,
 ⟨some 44,.bsl 1 1 [(.int .i64 0)] [(0,(.c (.int .i64 2)))],some (42,true)⟩,
 ⟨some 45,.bsl 1 2 [(.int .i64 0)] [(0,(.c (.int .i64 4))),(1,(.c (.int .i64 6)))],some (42,true)⟩,
 ⟨some 46,.call 46 [(.s 43),(.s 44),(.s 45)],some (42,true)⟩,
 ⟨some 47,.call 44 [(.s 46)],some (42,true)⟩,
 ⟨some 49,.call 32 [(.s 48),(.c (.int .i64 1))],some (42,true)⟩,
 ⟨some 50,.ext (.s 49) 0,some (42,true)⟩,
 ⟨some 51,.ext (.s 49) 1,some (42,true)⟩,
 ⟨some 52,.zbN (.s 47) [(.s 50),(.s 51)],some (42,true)⟩,
 ⟨some 53,.pick (.s 42) (.s 52) (.c (.bool false)),none⟩,
 oM 54 53,
 ⟨some 60,.load (some 3) (.s 1),some (54,true)⟩,
 ⟨some 55,.bsl 1 1 [(.int .i64 0)] [(0,(.c (.int .i64 1)))],some (54,true)⟩,
 ⟨some 56,.bsl 1 1 [(.int .i64 0)] [(0,(.c (.int .i64 2)))],some (54,true)⟩,
 ⟨some 57,.bsl 1 2 [(.int .i64 0)] [(0,(.c (.int .i64 2))),(1,(.c (.int .i64 4)))],some (54,true)⟩,
 ⟨some 58,.call 46 [(.s 55),(.s 56),(.s 57)],some (54,true)⟩,
 ⟨some 59,.call 44 [(.s 58)],some (54,true)⟩,
 ⟨some 61,.call 33 [(.s 60),(.c (.int .i64 4))],some (54,true)⟩,
 ⟨some 62,.ext (.s 61) 0,some (54,true)⟩,
 ⟨some 63,.ext (.s 61) 1,some (54,true)⟩,
 ⟨some 64,.zbN (.s 59) [(.s 62),(.s 63)],some (54,true)⟩,
 ⟨some 65,.pick (.s 54) (.s 64) (.c (.bool false)),none⟩,
 oM 66 65,
 ⟨some 72,.load (some 3) (.s 1),some (66,true)⟩,
 ⟨some 67,.bsl 1 1 [(.int .i64 0)] [(0,(.c (.int .i64 4)))],some (66,true)⟩,
 ⟨some 68,.bsl 1 1 [(.int .i64 0)] [(0,(.c (.int .i64 2)))],some (66,true)⟩,
 ⟨some 69,.bsl 1 2 [(.int .i64 0)] [(0,(.c (.int .i64 3))),(1,(.c (.int .i64 4)))],some (66,true)⟩,
 ⟨some 70,.call 46 [(.s 67),(.s 68),(.s 69)],some (66,true)⟩,
 ⟨some 71,.call 44 [(.s 70)],some (66,true)⟩,
 ⟨some 73,.call 34 [(.s 72),(.c (.int .i64 1)),(.c (.int .i64 1))],some (66,true)⟩,
 ⟨some 74,.ext (.s 73) 0,some (66,true)⟩,
 ⟨some 75,.ext (.s 73) 1,some (66,true)⟩,
 ⟨some 76,.zbN (.s 71) [(.s 74),(.s 75)],some (66,true)⟩,
 ⟨some 77,.pick (.s 66) (.s 76) (.c (.bool false)),none⟩,
 oM 6 77]))
 (.seq (.scope (.reg true true [oM 78 6,
 oM 79 78,
 ⟨some 85,.load (some 3) (.s 1),some (79,true)⟩,
 ⟨some 80,.bsl 1 1 [(.int .i64 0)] [(0,(.c (.int .i64 4)))],some (79,true)⟩,
 ⟨some 81,.bsl 1 1 [(.int .i64 0)] [(0,(.c (.int .i64 2)))],some (79,true)⟩,
 ⟨some 82,.bsl 1 2 [(.int .i64 0)] [(0,(.c (.int .i64 4))),(1,(.c (.int .i64 6)))],some (79,true)⟩,
 ⟨some 83,.call 46 [(.s 80),(.s 81),(.s 82)],some (79,true)⟩,
 ⟨some 84,.call 44 [(.s 83)],some (79,true)⟩,
 ⟨some 86,.bsl 1 1 [(.int .i64 0)] [(0,(.c (.int .i64 4)))],some (79,true)⟩,
 ⟨some 87,.call 42 [(.s 85),(.s 86)],some (79,true)⟩,
 ⟨some 88,.ext (.s 87) 0,some (79,true)⟩,
 ⟨some 89,.ext (.s 87) 1,some (79,true)⟩,
 ⟨some 90,.zbN (.s 84) [(.s 88),(.s 89)],some (79,true)⟩,
 ⟨some 91,.pick (.s 79) (.s 90) (.c (.bool false)),none⟩,
 oM 92 91,
 ⟨some 96,.load (some 3) (.s 1),some (92,true)⟩,
 ⟨some 93,.bsl 1 1 [(.int .i64 0)] [(0,(.c (.int .i64 10)))],some (92,true)⟩,
 ⟨some 94,.call 46 [(.c (.slice none 0 0)),(.c (.slice none 0 0)),(.s 93)],some (92,true)⟩,
 ⟨some 95,.call 44 [(.s 94)],some (92,true)⟩,
 ⟨some 97,.call 42 [(.s 96),(.c (.slice none 0 0))],some (92,true)⟩,
 ⟨some 98,.ext (.s 97) 0,some (92,true)⟩,
 ⟨some 99,.ext (.s 97) 1,some (92,true)⟩,
 ⟨some 100,.zbN (.s 95) [(.s 98),(.s 99)],some (92,true)⟩,
 ⟨some 101,.pick (.s 92) (.s 100) (.c (.bool false)),none⟩,
 oM 102 101,
 oMg 103 4 102 true,
 oDg 104 .eql 103 10 102 true,
 ⟨some 105,.pick (.s 102) (.s 104) (.c (.bool false)),none⟩,
 oM 106 105,
 oMg 107 5 106 true,
 oDg 108 .eql 107 0 106 true,
 ⟨some 109,.pick (.s 106) (.s 108) (.c (.bool false)),none⟩,
 oM 110 109,
 ⟨some 116,.load (some 3) (.s 3),some (110,true)⟩,
 ⟨some 117,.load (some 3) (.s 2),some (110,true)⟩,
 ⟨some 111,.bsl 1 2 [(.int .i64 0)] [(0,(.c (.int .i64 1))),(1,(.c (.int .i64 4)))],some (110,true)⟩,
 ⟨some 112,.bsl 1 2 [(.int .i64 0)] [(0,(.c (.int .i64 2))),(1,(.c (.int .i64 2)))],some (110,true)⟩,
 ⟨some 113,.bsl 1 4 [(.int .i64 0)] [(0,(.c (.int .i64 1))),(1,(.c (.int .i64 0))),(2,(.c (.int .i64 3))),(3,(.c (.int .i64 0)))],some (110,true)⟩,
 ⟨some 114,.call 46 [(.s 111),(.s 112),(.s 113)],some (110,true)⟩,
 ⟨some 115,.call 44 [(.s 114)],some (110,true)⟩,
 ⟨some 118,.call 26 [(.s 116),(.s 117)],some (110,true)⟩,
 ⟨some 119,.ext (.s 118) 0,some (110,true)⟩,
 ⟨some 120,.ext (.s 118) 1,some (110,true)⟩,
 ⟨some 121,.zbN (.s 115) [(.s 119),(.s 120)],some (110,true)⟩,
 ⟨some 122,.pick (.s 110) (.s 121) (.c (.bool false)),none⟩,
 oM 123 122,
 ⟨some 125,.load (some 3) (.s 1),some (123,true)⟩,
 ⟨some 126,.load (some 3) (.s 2),some (123,true)⟩,
 ⟨some 124,.call 47 [(.c (.int .i64 4))],some (123,true)⟩,
 ⟨some 127,.call 26 [(.s 125),(.s 126)],some (123,true)⟩,
 ⟨some 128,.ext (.s 127) 0,some (123,true)⟩,
 ⟨some 129,.ext (.s 127) 1,some (123,true)⟩,
 ⟨some 130,.zbN (.s 124) [(.s 128),(.s 129)],some (123,true)⟩,
 ⟨some 131,.pick (.s 123) (.s 130) (.c (.bool false)),none⟩,
 oM 132 131,
 ⟨some 134,.load (some 3) (.s 2),some (132,true)⟩,
 ⟨some 135,.load (some 3) (.s 1),some (132,true)⟩,
 ⟨some 133,.call 47 [(.c (.int .i64 2))],some (132,true)⟩,
 ⟨some 136,.call 26 [(.s 134),(.s 135)],some (132,true)⟩,
 ⟨some 137,.ext (.s 136) 0,some (132,true)⟩,
 ⟨some 138,.ext (.s 136) 1,some (132,true)⟩,
 ⟨some 139,.zbN (.s 133) [(.s 137),(.s 138)],some (132,true)⟩,
 ⟨some 140,.pick (.s 132) (.s 139) (.c (.bool false)),none⟩,
 oM 6 140]))
 (.seq (.scope (.reg true true [oM 141 6,
 oM 142 141,
 ⟨some 144,.load (some 3) (.s 1),some (142,true)⟩,
 ⟨some 143,.call 47 [(.c (.int .i64 4))],some (142,true)⟩,
 ⟨some 145,.call 32 [(.s 144),(.c (.int .i64 2))],some (142,true)⟩,
 ⟨some 146,.ext (.s 145) 0,some (142,true)⟩,
 ⟨some 147,.ext (.s 145) 1,some (142,true)⟩,
 ⟨some 148,.zbN (.s 143) [(.s 146),(.s 147)],some (142,true)⟩,
 ⟨some 149,.pick (.s 142) (.s 148) (.c (.bool false)),none⟩,
 oM 150 149,
 ⟨some 152,.load (some 3) (.s 1),some (150,true)⟩,
 ⟨some 151,.call 47 [(.c (.int .i64 2))],some (150,true)⟩,
 ⟨some 153,.call 34 [(.s 152),(.c (.int .i64 4)),(.c (.int .i64 2))],some (150,true)⟩,
 ⟨some 154,.ext (.s 153) 0,some (150,true)⟩,
 ⟨some 155,.ext (.s 153) 1,some (150,true)⟩,
 ⟨some 156,.zbN (.s 151) [(.s 154),(.s 155)],some (150,true)⟩,
 ⟨some 157,.pick (.s 150) (.s 156) (.c (.bool false)),none⟩,
 oM 158 157,
 ⟨some 160,.load (some 3) (.s 1),some (158,true)⟩,
 ⟨some 159,.call 47 [(.c (.int .i64 2))],some (158,true)⟩,
 ⟨some 161,.bsl 1 2 [(.int .i64 0)] [(0,(.c (.int .i64 4))),(1,(.c (.int .i64 1)))],some (158,true)⟩,
 ⟨some 162,.call 42 [(.s 160),(.s 161)],some (158,true)⟩,
 ⟨some 163,.ext (.s 162) 0,some (158,true)⟩,
 ⟨some 164,.ext (.s 162) 1,some (158,true)⟩,
 ⟨some 165,.zbN (.s 159) [(.s 163),(.s 164)],some (158,true)⟩,
 ⟨some 166,.pick (.s 158) (.s 165) (.c (.bool false)),none⟩,
 oM 167 166,
 ⟨some 169,.load (some 3) (.s 1),some (167,true)⟩,
 ⟨some 168,.call 47 [(.c (.int .i64 2))],some (167,true)⟩,
 ⟨some 170,.bsl 1 1 [(.int .i64 0)] [(0,(.c (.int .i64 4)))],some (167,true)⟩,
 ⟨some 171,.bsl 1 1 [(.int .i64 0)] [(0,(.c (.int .i64 3)))],some (167,true)⟩,
 ⟨some 172,.bsl 1 3 [(.int .i64 0)] [(0,(.c (.int .i64 1))),(1,(.c (.int .i64 1))),(2,(.c (.int .i64 1)))],some (167,true)⟩,
 ⟨some 173,.call 46 [(.s 170),(.s 171),(.s 172)],some (167,true)⟩,
 ⟨some 174,.call 25 [(.s 169),(.s 173)],some (167,true)⟩,
 ⟨some 175,.ext (.s 174) 0,some (167,true)⟩,
 ⟨some 176,.ext (.s 174) 1,some (167,true)⟩,
 ⟨some 177,.zbN (.s 168) [(.s 175),(.s 176)],some (167,true)⟩,
 ⟨some 178,.pick (.s 167) (.s 177) (.c (.bool false)),none⟩,
 oM 6 178]))
 (.seq (.scope (rg [oM 179 6,
 oM 180 179,
 ⟨some 181,.bsl 1 2 [(.int .i64 0)] [(0,(.c (.int .i64 4))),(1,(.c (.int .i64 1)))],some (180,true)⟩,
 ⟨some 182,.bsl 1 2 [(.int .i64 0)] [(0,(.c (.int .i64 2))),(1,(.c (.int .i64 2)))],some (180,true)⟩,
 ⟨some 183,.bsl 1 4 [(.int .i64 0)] [(0,(.c (.int .i64 1))),(1,(.c (.int .i64 2))),(2,(.c (.int .i64 3))),(3,(.c (.int .i64 4)))],some (180,true)⟩,
 ⟨some 184,.call 46 [(.s 181),(.s 182),(.s 183)],some (180,true)⟩,
 ⟨some 185,.call 24 [(.s 184)],some (180,true)⟩,
 oDg 186 .eql 185 30 180 true,
 ⟨some 187,.pick (.s 180) (.s 186) (.c (.bool false)),none⟩,
 oM 188 187,
 ⟨some 189,.bsl 1 1 [(.int .i64 0)] [(0,(.c (.int .i64 1)))],some (188,true)⟩,
 ⟨some 190,.bsl 1 1 [(.int .i64 0)] [(0,(.c (.int .i64 2)))],some (188,true)⟩,
 ⟨some 191,.bsl 1 1 [(.int .i64 0)] [(0,(.c (.int .i64 1)))],some (188,true)⟩,
 ⟨some 192,.call 46 [(.s 189),(.s 190),(.s 191)],some (188,true)⟩,
 ⟨some 193,.call 24 [(.s 192)],some (188,true)⟩,
 oDg 194 .eql 193 30 188 true,
 ⟨some 195,.pick (.s 188) (.s 194) (.c (.bool false)),none⟩,
 oM 196 195,
 ⟨some 197,.bsl 1 1 [(.int .i64 0)] [(0,(.c (.int .i64 (-1))))],some (196,true)⟩,
 ⟨some 198,.call 46 [(.c (.slice none 0 0)),(.c (.slice none 0 0)),(.s 197)],some (196,true)⟩,
 ⟨some 199,.call 24 [(.s 198)],some (196,true)⟩,
 oDg 200 .eql 199 30 196 true,
 ⟨some 201,.pick (.s 196) (.s 200) (.c (.bool false)),none⟩,
 oM 0 201]))
 (.ret))))))))
theorem ziH:zgz mC 20=some (202,zgG,[.tmp 0],false):=za6 (by kernel_rfl)
theorem zjw{r:Bool}(h:zcT=some r):Lx.Fn mC 20 [] (dB r):=by
 refine Fn.of ziH (zaX rfl) (qad rfl) ?_;unfold zcT at h;simp only[zgG,zkA];refine zab ?_;try simp only[rnA,Nat.reduceLT,Nat.reduceAdd]
 refine EvL.zeU (S':=⟨202,[(7,(fzE true (eI .i64) [1,4])),(8,(fzE true (eI .i64) [2,2])),(9,(fzE true (eI .i64) [1,2,3,4]))],[]⟩) (zbE.m0 [.f,.f,.f] rfl (mf rfl (zaR (e:=(eI .i64)) (t:=true) rfl rfl (.inl rfl) rfl rfl (fun k h=>by cases h; exact qaj _) (fun h=>by cases h<;>rfl)) (mf rfl (zaR (e:=(eI .i64)) (t:=true) rfl rfl (.inl rfl) rfl rfl (fun k h=>by cases h; exact qaj _) (fun h=>by cases h<;>rfl)) (mf rfl (zaR (e:=(eI .i64)) (t:=true) rfl rfl (.inl rfl) rfl rfl (fun k h=>by cases h; exact qaj _) (fun h=>by cases h<;>rfl)) trivial))) trivial) (zab ?_);obtain⟨r1,g2,h⟩:=bind_some h;try simp only[rnA]
 refine EvL.fnS (zbx g2) rfl rfl (.cons (zag _ _ (fun h=>by cases h<;>contradiction)) (.cons (zag _ _ (fun h=>by cases h<;>contradiction)) (.cons (zag _ _ (fun h=>by cases h<;>contradiction)) .nil))) ⟨(zac _ _),(zac _ _),(zac _ _),qci⟩ ⟨(zac _ _),(zac _ _),(zac _ _),qci⟩ ?_;try simp only[rnA,Nat.reduceLT,Nat.reduceAdd]
 refine EvL.zeU (S':=⟨202,[(10,(.agg [(fzE false (eI .i64) r1.vars),(fzE false (eI .i64) r1.zad),(fzE false (eI .i64) r1.w)])),(11,(fzE true (eI .i64) [4])),(12,(fzE true (eI .i64) [2])),(13,(fzE true (eI .i64) [2,0]))],[]⟩) (zbE.m0 [.f,.f,.f] rfl (ms rfl ⟨qci,qci,qci,qci⟩ (mf rfl (zaR (e:=(eI .i64)) (t:=true) rfl rfl (.inl rfl) rfl rfl (fun k h=>by cases h; exact qaj _) (fun h=>by cases h<;>rfl)) (mf rfl (zaR (e:=(eI .i64)) (t:=true) rfl rfl (.inl rfl) rfl rfl (fun k h=>by cases h; exact qaj _) (fun h=>by cases h<;>rfl)) (mf rfl (zaR (e:=(eI .i64)) (t:=true) rfl rfl (.inl rfl) rfl rfl (fun k h=>by cases h; exact qaj _) (fun h=>by cases h<;>rfl)) trivial)))) trivial) (zab ?_);obtain⟨r3,g4,h⟩:=bind_some h;try simp only[rnA]
 refine EvL.fnS (zbx g4) rfl rfl (.cons (zag _ _ (fun h=>by cases h<;>contradiction)) (.cons (zag _ _ (fun h=>by cases h<;>contradiction)) (.cons (zag _ _ (fun h=>by cases h<;>contradiction)) .nil))) ⟨(zac _ _),(zac _ _),(zac _ _),qci⟩ ⟨(zac _ _),(zac _ _),(zac _ _),qci⟩ ?_;try simp only[rnA,Nat.reduceEqDiff,Nat.reduceLT,Nat.reduceAdd,Nat.reduceLeDiff]
 refine EvL.zeU (S':=⟨202,[(1,(.ptr 0 0)),(2,(.ptr 1 0)),(15,(fzE true (eI .i64) [1,4])),(16,(fzE true (eI .i64) [2,2])),(17,(fzE true (eI .i64) [2,0,6,0]))],[.cells [(fzE false (eI .i64) r1.vars),(fzE false (eI .i64) r1.zad),(fzE false (eI .i64) r1.w)],.cells [(fzE false (eI .i64) r3.vars),(fzE false (eI .i64) r3.zad),(fzE false (eI .i64) r3.w)]]⟩) (zbE.m0 [.k,.k,.f,.f,.f] rfl (msq (msq (mf rfl (zaR (e:=(eI .i64)) (t:=true) rfl rfl (.inl rfl) rfl rfl (fun k h=>by cases h; exact qaj _) (fun h=>by cases h<;>rfl)) (mf rfl (zaR (e:=(eI .i64)) (t:=true) rfl rfl (.inl rfl) rfl rfl (fun k h=>by cases h; exact qaj _) (fun h=>by cases h<;>rfl)) (mf rfl (zaR (e:=(eI .i64)) (t:=true) rfl rfl (.inl rfl) rfl rfl (fun k h=>by cases h; exact qaj _) (fun h=>by cases h<;>rfl)) trivial))))) ⟨MB.cs ⟨qci,qci,qci,qci⟩,⟨MB.cs ⟨qci,qci,qci,qci⟩,qci⟩⟩) (zab ?_);obtain⟨r5,g6,h⟩:=bind_some h;try simp only[rnA]
 refine EvL.fnS (zbx g6) rfl rfl (.cons (zag _ _ (fun h=>by cases h<;>contradiction)) (.cons (zag _ _ (fun h=>by cases h<;>contradiction)) (.cons (zag _ _ (fun h=>by cases h<;>contradiction)) .nil))) ⟨(zac _ _),(zac _ _),(zac _ _),qci⟩ ⟨(zac _ _),(zac _ _),(zac _ _),qci⟩ ?_;obtain⟨r7,g8,h⟩:=bind_some h;try simp only[rnA,Nat.reduceEqDiff,Nat.reduceLT,Nat.reduceAdd,Nat.reduceLeDiff]
 refine EvL.fn (zg4 g8) rfl rfl (.cons (.za5 (.cons (zaa _ _ (fun h=>nomatch h)) (.cons (zaa _ _ (fun h=>nomatch h)) (.cons (zaa _ _ (fun h=>nomatch h)) .nil)))) .nil) ?_;try simp only[rnA,Nat.reduceEqDiff,Nat.reduceLT]
 obtain⟨o1,j1,h⟩:=bind_some h;obtain⟨T1,hT1⟩:=mkT fun a:Bool=>⟨202,[(1,(.ptr 0 0)),(2,(.ptr 1 0)),(3,(.ptr 2 0)),(4,(dI r7.1)),(5,(dI r7.2)),(6,(dB a))],[.cells [(fzE false (eI .i64) r1.vars),(fzE false (eI .i64) r1.zad),(fzE false (eI .i64) r1.w)],.cells [(fzE false (eI .i64) r3.vars),(fzE false (eI .i64) r3.zad),(fzE false (eI .i64) r3.w)],.cells [(fzE false (eI .i64) r5.vars),(fzE false (eI .i64) r5.zad),(fzE false (eI .i64) r5.w)]]⟩
 refine EvL.jn T1 (fun a=>a=o1) ?_ ?_
 ·refine zab ?_;obtain⟨r9,g10,j1⟩:=bind_some j1;try simp only[rnA,Nat.reduceEqDiff,Nat.reduceLT,Nat.reduceAdd,Nat.reduceLeDiff]
  refine EvL.fnS (zcH g10) rfl rfl (.cons (Mzs.agg (.cons (zag _ _ (fun h=>by cases h<;>contradiction)) (.cons (zag _ _ (fun h=>by cases h<;>contradiction)) (.cons (zag _ _ (fun h=>by cases h<;>contradiction)) .nil)))) .nil) ⟨⟨(zac _ _),(zac _ _),(zac _ _),qci⟩,qci⟩ ⟨qci,⟨⟨rfl,zal.fr _⟩,qci⟩⟩ ?_;obtain⟨r11,g12,j1⟩:=bind_some j1;try simp only[rnA,Nat.reduceLT,zae]
  refine EvL.fn (zcI g12) rfl rfl (.cons (.za5 (.cons (zaa _ _ (fun h=>nomatch h)) (.cons (zaa _ _ (fun h=>nomatch h)) (.cons (zaa _ _ (fun h=>nomatch h)) .nil)))) (.cons (.za5 (.cons (zaa _ _ (fun h=>nomatch h)) (.cons (zaa _ _ (fun h=>nomatch h)) (.cons (zaa _ _ (fun h=>nomatch h)) .nil)))) .nil)) ?_;obtain⟨r13,g14,j1⟩:=bind_some j1;try simp only[rnA,Nat.reduceEqDiff,Nat.reduceLT]
  refine EvL.fnv rfl rfl (zbH g14) rfl (.cons (.za5 (.cons (zaa _ _ (fun h=>nomatch h)) (.cons (zaa _ _ (fun h=>nomatch h)) (.cons (zaa _ _ (fun h=>nomatch h)) .nil)))) (.cons (.lit _) (.cons (.fptr (fun h=>nomatch h) rfl (zal.snp (t:=false) (t':=false) r9 (fun h=>nomatch h)).get) .nil))) ?_;try simp only[rnA,Nat.reduceEqDiff,Nat.reduceLT]
  cases c15:r13
  ·rw[c15,cond_false]at j1;try simp only[rnA,Nat.reduceEqDiff,Nat.reduceLT]
   refine EvL.skip rfl ?_;try simp only[rnA,Nat.reduceLT]
   refine EvL.skip rfl ?_;try simp only[rnA,Nat.reduceLT]
   refine EvL.skip rfl ?_;try simp only[rnA,Nat.reduceEqDiff,Nat.reduceLT]
   refine EvL.skip rfl ?_;try simp only[rnA,Nat.reduceEqDiff,Nat.reduceLT]
   refine EvL.skip rfl ?_;try simp only[rnA,Nat.reduceLT]
   refine EvL.skip rfl ?_;try simp only[rnA,Nat.reduceLT]
   refine EvL.skip rfl ?_;try simp only[rnA,Nat.reduceEqDiff,Nat.reduceLT]
   refine EvL.skip rfl ?_;try simp only[rnA,Nat.reduceEqDiff,Nat.reduceLT]
   refine EvL.skip rfl ?_;try simp only[rnA,Nat.reduceLT]
   refine EvL.skip rfl ?_;try simp only[rnA,Nat.reduceLT]
   refine EvL.skip rfl ?_;try simp only[rnA,Nat.reduceEqDiff,Nat.reduceLT]
   refine EvL.skip rfl ?_;try simp only[rnA,Nat.reduceEqDiff,Nat.reduceLT]
   refine EvL.skip rfl ?_;try simp only[rnA,Nat.reduceLT]
   refine EvL.skip rfl ?_;try simp only[rnA,Nat.reduceLT]
   refine EvL.skip rfl ?_;try simp only[rnA,Nat.reduceEqDiff,Nat.reduceLT]
   refine EvL.skip rfl ?_;try simp only[rnA,Nat.reduceEqDiff,Nat.reduceLT]
   replace j1:=qab j1; subst j1;exact lfj hT1 rfl (wm0 [.k,.k,.k] ⟨MB.cs ⟨qci,qci,qci,qci⟩,⟨MB.cs ⟨qci,qci,qci,qci⟩,⟨MB.cs ⟨qci,qci,qci,qci⟩,qci⟩⟩⟩)
  rw[c15,cond_true]at j1;obtain⟨r16,g17,j1⟩:=bind_some j1;try simp only[rnA,Nat.reduceEqDiff,Nat.reduceLT,Nat.reduceAdd,Nat.reduceLeDiff]
  refine EvL.fnS (zcH g17) rfl rfl (.cons (Mzs.agg (.cons (zag _ _ (fun h=>by cases h<;>contradiction)) (.cons (zag _ _ (fun h=>by cases h<;>contradiction)) (.cons (zag _ _ (fun h=>by cases h<;>contradiction)) .nil)))) .nil) ⟨⟨(zac _ _),(zac _ _),(zac _ _),qci⟩,qci⟩ ⟨qci,⟨⟨rfl,zal.fr _⟩,qci⟩⟩ ?_;obtain⟨r18,g19,j1⟩:=bind_some j1;try simp only[rnA,Nat.reduceLT,zae]
  refine EvL.fn (zjb g19) rfl rfl .nil ?_;obtain⟨r20,g21,j1⟩:=bind_some j1;try simp only[rnA,Nat.reduceLT]
  refine EvL.fn (zcI g21) rfl rfl (.cons (.za5 (.cons (zaa _ _ (fun h=>nomatch h)) (.cons (zaa _ _ (fun h=>nomatch h)) (.cons (zaa _ _ (fun h=>nomatch h)) .nil)))) (.cons (.za5 (.cons (zaa _ _ (fun h=>nomatch h)) (.cons (zaa _ _ (fun h=>nomatch h)) (.cons (zaa _ _ (fun h=>nomatch h)) .nil)))) .nil)) ?_;obtain⟨r22,g23,j1⟩:=bind_some j1;try simp only[rnA,Nat.reduceEqDiff,Nat.reduceLT]
  refine EvL.fnv rfl rfl (zbH g23) rfl (.cons (.za5 (.cons (zaa _ _ (fun h=>nomatch h)) (.cons (zaa _ _ (fun h=>nomatch h)) (.cons (zaa _ _ (fun h=>nomatch h)) .nil)))) (.cons (.lit _) (.cons (.fptr (fun h=>nomatch h) rfl (zal.snp (t:=false) (t':=false) r16 (fun h=>nomatch h)).get) .nil))) ?_;try simp only[rnA,Nat.reduceEqDiff,Nat.reduceLT]
  cases c24:r22
  ·rw[c24,cond_false]at j1;try simp only[rnA,Nat.reduceEqDiff,Nat.reduceLT]
   refine EvL.skip rfl ?_;try simp only[rnA,Nat.reduceLT]
   refine EvL.skip rfl ?_;try simp only[rnA,Nat.reduceLT]
   refine EvL.skip rfl ?_;try simp only[rnA,Nat.reduceEqDiff,Nat.reduceLT]
   refine EvL.skip rfl ?_;try simp only[rnA,Nat.reduceEqDiff,Nat.reduceLT]
   refine EvL.skip rfl ?_;try simp only[rnA,Nat.reduceLT]
   refine EvL.skip rfl ?_;try simp only[rnA,Nat.reduceLT]
   refine EvL.skip rfl ?_;try simp only[rnA,Nat.reduceEqDiff,Nat.reduceLT]
   refine EvL.skip rfl ?_;try simp only[rnA,Nat.reduceEqDiff,Nat.reduceLT]
   refine EvL.skip rfl ?_;try simp only[rnA,Nat.reduceLT]
   refine EvL.skip rfl ?_;try simp only[rnA,Nat.reduceLT]
   refine EvL.skip rfl ?_;try simp only[rnA,Nat.reduceEqDiff,Nat.reduceLT]
   refine EvL.skip rfl ?_;try simp only[rnA,Nat.reduceEqDiff,Nat.reduceLT]
   replace j1:=qab j1; subst j1;exact lfj hT1 rfl (wm0 [.k,.k,.k] ⟨MB.cs ⟨qci,qci,qci,qci⟩,⟨MB.cs ⟨qci,qci,qci,qci⟩,⟨MB.cs ⟨qci,qci,qci,qci⟩,qci⟩⟩⟩)
  rw[c24,cond_true]at j1;try simp only[rnA,Nat.reduceEqDiff,Nat.reduceLT,Nat.reduceAdd,Nat.reduceLeDiff]
  refine EvL.zeU (S':=⟨202,[(1,(.ptr 0 0)),(2,(.ptr 1 0)),(3,(.ptr 2 0)),(4,(dI r7.1)),(5,(dI r7.2)),(42,(dB true)),(43,(fzE true (eI .i64) [4])),(44,(fzE true (eI .i64) [2])),(45,(fzE true (eI .i64) [4,6])),(48,(.agg [(fzE false (eI .i64) r1.vars),(fzE false (eI .i64) r1.zad),(fzE false (eI .i64) r1.w)]))],[.cells [(fzE false (eI .i64) r1.vars),(fzE false (eI .i64) r1.zad),(fzE false (eI .i64) r1.w)],.cells [(fzE false (eI .i64) r3.vars),(fzE false (eI .i64) r3.zad),(fzE false (eI .i64) r3.w)],.cells [(fzE false (eI .i64) r5.vars),(fzE false (eI .i64) r5.zad),(fzE false (eI .i64) r5.w)]]⟩) (zbE.m0 [.k,.k,.k,.f,.f,.f] rfl (msq (msq (msq (msq (msq (msq (mf rfl (zaR (e:=(eI .i64)) (t:=true) rfl rfl (.inl rfl) rfl rfl (fun k h=>by cases h; exact qaj _) (fun h=>by cases h<;>rfl)) (mf rfl (zaR (e:=(eI .i64)) (t:=true) rfl rfl (.inl rfl) rfl rfl (fun k h=>by cases h; exact qaj _) (fun h=>by cases h<;>rfl)) (mf rfl (zaR (e:=(eI .i64)) (t:=true) rfl rfl (.inl rfl) rfl rfl (fun k h=>by cases h; exact qaj _) (fun h=>by cases h<;>rfl)) (ms rfl ⟨qci,qci,qci,qci⟩ trivial)))))))))) ⟨MB.cs ⟨qci,qci,qci,qci⟩,⟨MB.cs ⟨qci,qci,qci,qci⟩,⟨MB.cs ⟨qci,qci,qci,qci⟩,qci⟩⟩⟩) (zab ?_);obtain⟨r25,g26,j1⟩:=bind_some j1;try simp only[rnA]
  refine EvL.fnS (zbx g26) rfl rfl (.cons (zag _ _ (fun h=>by cases h<;>contradiction)) (.cons (zag _ _ (fun h=>by cases h<;>contradiction)) (.cons (zag _ _ (fun h=>by cases h<;>contradiction)) .nil))) ⟨(zac _ _),(zac _ _),(zac _ _),qci⟩ ⟨(zac _ _),(zac _ _),(zac _ _),qci⟩ ?_;obtain⟨r27,g28,j1⟩:=bind_some j1;try simp only[rnA,Nat.reduceLT]
  refine EvL.fnS (zcH g28) rfl rfl (.cons (Mzs.agg (.cons (zag _ _ (fun h=>by cases h<;>contradiction)) (.cons (zag _ _ (fun h=>by cases h<;>contradiction)) (.cons (zag _ _ (fun h=>by cases h<;>contradiction)) .nil)))) .nil) ⟨⟨(zac _ _),(zac _ _),(zac _ _),qci⟩,qci⟩ ⟨qci,⟨⟨rfl,zal.fr _⟩,qci⟩⟩ ?_;obtain⟨r29,g30,j1⟩:=bind_some j1;try simp only[rnA,Nat.reduceLT,zae]
  refine EvL.fnS (zd8 g30) rfl rfl (.cons (Mzs.agg (.cons (zag _ _ (fun h=>by cases h<;>contradiction)) (.cons (zag _ _ (fun h=>by cases h<;>contradiction)) (.cons (zag _ _ (fun h=>by cases h<;>contradiction)) .nil)))) (.cons (.lit _) .nil)) ⟨⟨(zac _ _),(zac _ _),(zac _ _),qci⟩,qci,qci⟩ ⟨⟨(zac _ _),(zac _ _),(zac _ _),qci⟩,qci,qci⟩ ?_;obtain⟨r31,g32,j1⟩:=bind_some j1;try simp only[rnA,Nat.reduceEqDiff,Nat.reduceLT]
  refine EvL.fnv rfl rfl (zbH g32) rfl (.cons (.za5 (.cons (zaa _ _ (fun h=>nomatch h)) (.cons (zaa _ _ (fun h=>nomatch h)) (.cons (zaa _ _ (fun h=>nomatch h)) .nil)))) (.cons (.lit _) (.cons (.fptr (fun h=>nomatch h) rfl (zal.snp (t:=false) (t':=false) r27 (fun h=>nomatch h)).get) .nil))) ?_;try simp only[rnA,Nat.reduceEqDiff,Nat.reduceLT]
  cases c33:r31
  ·rw[c33,cond_false]at j1;try simp only[rnA,Nat.reduceEqDiff,Nat.reduceLT]
   refine EvL.skip rfl ?_;try simp only[rnA,Nat.reduceLT]
   refine EvL.skip rfl ?_;try simp only[rnA,Nat.reduceLT]
   refine EvL.skip rfl ?_;try simp only[rnA,Nat.reduceEqDiff,Nat.reduceLT]
   refine EvL.skip rfl ?_;try simp only[rnA,Nat.reduceEqDiff,Nat.reduceLT]
   refine EvL.skip rfl ?_;try simp only[rnA,Nat.reduceLT]
   refine EvL.skip rfl ?_;try simp only[rnA,Nat.reduceLT]
   refine EvL.skip rfl ?_;try simp only[rnA,Nat.reduceEqDiff,Nat.reduceLT]
   refine EvL.skip rfl ?_;try simp only[rnA,Nat.reduceEqDiff,Nat.reduceLT]
   replace j1:=qab j1; subst j1;exact lfj hT1 rfl (wm0 [.k,.k,.k] ⟨MB.cs ⟨qci,qci,qci,qci⟩,⟨MB.cs ⟨qci,qci,qci,qci⟩,⟨MB.cs ⟨qci,qci,qci,qci⟩,qci⟩⟩⟩)
  rw[c33,cond_true]at j1;try simp only[rnA,Nat.reduceEqDiff,Nat.reduceLT,Nat.reduceAdd,Nat.reduceLeDiff]
  refine EvL.zeU (S':=⟨202,[(1,(.ptr 0 0)),(2,(.ptr 1 0)),(3,(.ptr 2 0)),(4,(dI r7.1)),(5,(dI r7.2)),(54,(dB true)),(55,(fzE true (eI .i64) [1])),(56,(fzE true (eI .i64) [2])),(57,(fzE true (eI .i64) [2,4])),(60,(.agg [(fzE false (eI .i64) r1.vars),(fzE false (eI .i64) r1.zad),(fzE false (eI .i64) r1.w)]))],[.cells [(fzE false (eI .i64) r1.vars),(fzE false (eI .i64) r1.zad),(fzE false (eI .i64) r1.w)],.cells [(fzE false (eI .i64) r3.vars),(fzE false (eI .i64) r3.zad),(fzE false (eI .i64) r3.w)],.cells [(fzE false (eI .i64) r5.vars),(fzE false (eI .i64) r5.zad),(fzE false (eI .i64) r5.w)]]⟩) (zbE.m0 [.k,.k,.k,.f,.f,.f] rfl (msq (msq (msq (msq (msq (msq (mf rfl (zaR (e:=(eI .i64)) (t:=true) rfl rfl (.inl rfl) rfl rfl (fun k h=>by cases h; exact qaj _) (fun h=>by cases h<;>rfl)) (mf rfl (zaR (e:=(eI .i64)) (t:=true) rfl rfl (.inl rfl) rfl rfl (fun k h=>by cases h; exact qaj _) (fun h=>by cases h<;>rfl)) (mf rfl (zaR (e:=(eI .i64)) (t:=true) rfl rfl (.inl rfl) rfl rfl (fun k h=>by cases h; exact qaj _) (fun h=>by cases h<;>rfl)) (ms rfl ⟨qci,qci,qci,qci⟩ trivial)))))))))) ⟨MB.cs ⟨qci,qci,qci,qci⟩,⟨MB.cs ⟨qci,qci,qci,qci⟩,⟨MB.cs ⟨qci,qci,qci,qci⟩,qci⟩⟩⟩) (zab ?_);obtain⟨r34,g35,j1⟩:=bind_some j1;try simp only[rnA]
  refine EvL.fnS (zbx g35) rfl rfl (.cons (zag _ _ (fun h=>by cases h<;>contradiction)) (.cons (zag _ _ (fun h=>by cases h<;>contradiction)) (.cons (zag _ _ (fun h=>by cases h<;>contradiction)) .nil))) ⟨(zac _ _),(zac _ _),(zac _ _),qci⟩ ⟨(zac _ _),(zac _ _),(zac _ _),qci⟩ ?_;obtain⟨r36,g37,j1⟩:=bind_some j1;try simp only[rnA,Nat.reduceLT]
  refine EvL.fnS (zcH g37) rfl rfl (.cons (Mzs.agg (.cons (zag _ _ (fun h=>by cases h<;>contradiction)) (.cons (zag _ _ (fun h=>by cases h<;>contradiction)) (.cons (zag _ _ (fun h=>by cases h<;>contradiction)) .nil)))) .nil) ⟨⟨(zac _ _),(zac _ _),(zac _ _),qci⟩,qci⟩ ⟨qci,⟨⟨rfl,zal.fr _⟩,qci⟩⟩ ?_;obtain⟨r38,g39,j1⟩:=bind_some j1;try simp only[rnA,Nat.reduceLT,zae]
  refine EvL.fnS (zgv g39) rfl rfl (.cons (Mzs.agg (.cons (zag _ _ (fun h=>by cases h<;>contradiction)) (.cons (zag _ _ (fun h=>by cases h<;>contradiction)) (.cons (zag _ _ (fun h=>by cases h<;>contradiction)) .nil)))) (.cons (.lit _) .nil)) ⟨⟨(zac _ _),(zac _ _),(zac _ _),qci⟩,qci,qci⟩ ⟨⟨(zac _ _),(zac _ _),(zac _ _),qci⟩,qci,qci⟩ ?_;obtain⟨r40,g41,j1⟩:=bind_some j1;try simp only[rnA,Nat.reduceEqDiff,Nat.reduceLT]
  refine EvL.fnv rfl rfl (zbH g41) rfl (.cons (.za5 (.cons (zaa _ _ (fun h=>nomatch h)) (.cons (zaa _ _ (fun h=>nomatch h)) (.cons (zaa _ _ (fun h=>nomatch h)) .nil)))) (.cons (.lit _) (.cons (.fptr (fun h=>nomatch h) rfl (zal.snp (t:=false) (t':=false) r36 (fun h=>nomatch h)).get) .nil))) ?_;try simp only[rnA,Nat.reduceEqDiff,Nat.reduceLT]
  cases c42:r40
  ·rw[c42,cond_false]at j1;try simp only[rnA,Nat.reduceEqDiff,Nat.reduceLT]
   refine EvL.skip rfl ?_;try simp only[rnA,Nat.reduceLT]
   refine EvL.skip rfl ?_;try simp only[rnA,Nat.reduceLT]
   refine EvL.skip rfl ?_;try simp only[rnA,Nat.reduceEqDiff,Nat.reduceLT]
   refine EvL.skip rfl ?_;try simp only[rnA,Nat.reduceEqDiff,Nat.reduceLT]
   replace j1:=qab j1; subst j1;exact lfj hT1 rfl (wm0 [.k,.k,.k] ⟨MB.cs ⟨qci,qci,qci,qci⟩,⟨MB.cs ⟨qci,qci,qci,qci⟩,⟨MB.cs ⟨qci,qci,qci,qci⟩,qci⟩⟩⟩)
  rw[c42,cond_true]at j1;try simp only[rnA,Nat.reduceEqDiff,Nat.reduceLT,Nat.reduceAdd,Nat.reduceLeDiff]
  refine EvL.zeU (S':=⟨202,[(1,(.ptr 0 0)),(2,(.ptr 1 0)),(3,(.ptr 2 0)),(4,(dI r7.1)),(5,(dI r7.2)),(66,(dB true)),(67,(fzE true (eI .i64) [4])),(68,(fzE true (eI .i64) [2])),(69,(fzE true (eI .i64) [3,4])),(72,(.agg [(fzE false (eI .i64) r1.vars),(fzE false (eI .i64) r1.zad),(fzE false (eI .i64) r1.w)]))],[.cells [(fzE false (eI .i64) r1.vars),(fzE false (eI .i64) r1.zad),(fzE false (eI .i64) r1.w)],.cells [(fzE false (eI .i64) r3.vars),(fzE false (eI .i64) r3.zad),(fzE false (eI .i64) r3.w)],.cells [(fzE false (eI .i64) r5.vars),(fzE false (eI .i64) r5.zad),(fzE false (eI .i64) r5.w)]]⟩) (zbE.m0 [.k,.k,.k,.f,.f,.f] rfl (msq (msq (msq (msq (msq (msq (mf rfl (zaR (e:=(eI .i64)) (t:=true) rfl rfl (.inl rfl) rfl rfl (fun k h=>by cases h; exact qaj _) (fun h=>by cases h<;>rfl)) (mf rfl (zaR (e:=(eI .i64)) (t:=true) rfl rfl (.inl rfl) rfl rfl (fun k h=>by cases h; exact qaj _) (fun h=>by cases h<;>rfl)) (mf rfl (zaR (e:=(eI .i64)) (t:=true) rfl rfl (.inl rfl) rfl rfl (fun k h=>by cases h; exact qaj _) (fun h=>by cases h<;>rfl)) (ms rfl ⟨qci,qci,qci,qci⟩ trivial)))))))))) ⟨MB.cs ⟨qci,qci,qci,qci⟩,⟨MB.cs ⟨qci,qci,qci,qci⟩,⟨MB.cs ⟨qci,qci,qci,qci⟩,qci⟩⟩⟩) (zab ?_);obtain⟨r43,g44,j1⟩:=bind_some j1;try simp only[rnA]
  refine EvL.fnS (zbx g44) rfl rfl (.cons (zag _ _ (fun h=>by cases h<;>contradiction)) (.cons (zag _ _ (fun h=>by cases h<;>contradiction)) (.cons (zag _ _ (fun h=>by cases h<;>contradiction)) .nil))) ⟨(zac _ _),(zac _ _),(zac _ _),qci⟩ ⟨(zac _ _),(zac _ _),(zac _ _),qci⟩ ?_;obtain⟨r45,g46,j1⟩:=bind_some j1;try simp only[rnA,Nat.reduceLT]
  refine EvL.fnS (zcH g46) rfl rfl (.cons (Mzs.agg (.cons (zag _ _ (fun h=>by cases h<;>contradiction)) (.cons (zag _ _ (fun h=>by cases h<;>contradiction)) (.cons (zag _ _ (fun h=>by cases h<;>contradiction)) .nil)))) .nil) ⟨⟨(zac _ _),(zac _ _),(zac _ _),qci⟩,qci⟩ ⟨qci,⟨⟨rfl,zal.fr _⟩,qci⟩⟩ ?_;obtain⟨r47,g48,j1⟩:=bind_some j1;try simp only[rnA,Nat.reduceLT,zae]
  refine EvL.fn (zfQ g48) rfl rfl (.cons (.za5 (.cons (zaa _ _ (fun h=>nomatch h)) (.cons (zaa _ _ (fun h=>nomatch h)) (.cons (zaa _ _ (fun h=>nomatch h)) .nil)))) (.cons (.lit _) (.cons (.lit _) .nil))) ?_;obtain⟨r49,g50,j1⟩:=bind_some j1;try simp only[rnA,Nat.reduceEqDiff,Nat.reduceLT]
  refine EvL.fnv rfl rfl (zbH g50) rfl (.cons (.za5 (.cons (zaa _ _ (fun h=>nomatch h)) (.cons (zaa _ _ (fun h=>nomatch h)) (.cons (zaa _ _ (fun h=>nomatch h)) .nil)))) (.cons (.lit _) (.cons (.fptr (fun h=>nomatch h) rfl (zal.snp (t:=false) (t':=false) r45 (fun h=>nomatch h)).get) .nil))) ?_;try simp only[rnA,Nat.reduceEqDiff,Nat.reduceLT]
  replace j1:=qab j1; subst j1;exact lfj hT1 rfl (wm0 [.k,.k,.k] ⟨MB.cs ⟨qci,qci,qci,qci⟩,⟨MB.cs ⟨qci,qci,qci,qci⟩,⟨MB.cs ⟨qci,qci,qci,qci⟩,qci⟩⟩⟩)
 rintro v6 rfl;rw[congrFun hT1 v6];refine zab ?_;try simp only[rnA]
 obtain⟨o2,j2,h⟩:=bind_some h;obtain⟨T2,hT2⟩:=mkT fun a:Bool=>⟨202,[(1,(.ptr 0 0)),(6,(dB a))],[.cells [(fzE false (eI .i64) r1.vars),(fzE false (eI .i64) r1.zad),(fzE false (eI .i64) r1.w)]]⟩
 refine EvL.jn T2 (fun a=>a=o2) ?_ ?_
 ·refine zab ?_;try simp only[rnA,Nat.reduceEqDiff,Nat.reduceLT]
  cases c51:v6
  ·rw[c51,cond_false]at j2;try simp only[rnA,Nat.reduceEqDiff,Nat.reduceLT]
   refine EvL.skip rfl ?_;try simp only[rnA,Nat.reduceLT]
   refine EvL.skip rfl ?_;try simp only[rnA,Nat.reduceEqDiff,Nat.reduceLT]
   refine EvL.skip rfl ?_;try simp only[rnA,Nat.reduceEqDiff,Nat.reduceLT]
   refine EvL.skip rfl ?_;try simp only[rnA,Nat.reduceEqDiff,Nat.reduceLT]
   refine EvL.skip rfl ?_;try simp only[rnA,Nat.reduceLT]
   refine EvL.skip rfl ?_;try simp only[rnA,Nat.reduceLT]
   refine EvL.skip rfl ?_;try simp only[rnA,Nat.reduceEqDiff,Nat.reduceLT]
   refine EvL.skip rfl ?_;try simp only[rnA,Nat.reduceEqDiff,Nat.reduceLT]
   refine EvL.skip rfl ?_;try simp only[rnA,Nat.reduceLT]
   refine EvL.skip rfl ?_;try simp only[rnA,Nat.reduceLT]
   refine EvL.skip rfl ?_;try simp only[rnA,Nat.reduceEqDiff,Nat.reduceLT]
   refine EvL.skip rfl ?_;try simp only[rnA,Nat.reduceEqDiff,Nat.reduceLT]
   refine EvL.skip rfl ?_;try simp only[rnA,Nat.reduceLT]
   refine EvL.skip rfl ?_;try simp only[rnA,Nat.reduceEqDiff,Nat.reduceLT]
   refine EvL.skip rfl ?_;try simp only[rnA,Nat.reduceEqDiff,Nat.reduceLT]
   refine EvL.skip rfl ?_;try simp only[rnA,Nat.reduceLT]
   refine EvL.skip rfl ?_;try simp only[rnA,Nat.reduceEqDiff,Nat.reduceLT]
   refine EvL.skip rfl ?_;try simp only[rnA,Nat.reduceEqDiff,Nat.reduceLT]
   replace j2:=qab j2; subst j2;exact lfj hT2 rfl (wm0 [.k] ⟨MB.cs ⟨qci,qci,qci,qci⟩,qci⟩)
  rw[c51,cond_true]at j2;try simp only[rnA,Nat.reduceEqDiff,Nat.reduceLT,Nat.reduceAdd,Nat.reduceLeDiff]
  refine EvL.zeU (S':=⟨202,[(1,(.ptr 0 0)),(2,(.ptr 1 0)),(3,(.ptr 2 0)),(4,(dI r7.1)),(5,(dI r7.2)),(79,(dB true)),(80,(fzE true (eI .i64) [4])),(81,(fzE true (eI .i64) [2])),(82,(fzE true (eI .i64) [4,6])),(85,(.agg [(fzE false (eI .i64) r1.vars),(fzE false (eI .i64) r1.zad),(fzE false (eI .i64) r1.w)]))],[.cells [(fzE false (eI .i64) r1.vars),(fzE false (eI .i64) r1.zad),(fzE false (eI .i64) r1.w)],.cells [(fzE false (eI .i64) r3.vars),(fzE false (eI .i64) r3.zad),(fzE false (eI .i64) r3.w)],.cells [(fzE false (eI .i64) r5.vars),(fzE false (eI .i64) r5.zad),(fzE false (eI .i64) r5.w)]]⟩) (zbE.m0 [.k,.k,.k,.f,.f,.f] rfl (msq (msq (msq (msq (msq (msq (mf rfl (zaR (e:=(eI .i64)) (t:=true) rfl rfl (.inl rfl) rfl rfl (fun k h=>by cases h; exact qaj _) (fun h=>by cases h<;>rfl)) (mf rfl (zaR (e:=(eI .i64)) (t:=true) rfl rfl (.inl rfl) rfl rfl (fun k h=>by cases h; exact qaj _) (fun h=>by cases h<;>rfl)) (mf rfl (zaR (e:=(eI .i64)) (t:=true) rfl rfl (.inl rfl) rfl rfl (fun k h=>by cases h; exact qaj _) (fun h=>by cases h<;>rfl)) (ms rfl ⟨qci,qci,qci,qci⟩ trivial)))))))))) ⟨MB.cs ⟨qci,qci,qci,qci⟩,⟨MB.cs ⟨qci,qci,qci,qci⟩,⟨MB.cs ⟨qci,qci,qci,qci⟩,qci⟩⟩⟩) (zab ?_);obtain⟨r52,g53,j2⟩:=bind_some j2;try simp only[rnA]
  refine EvL.fnS (zbx g53) rfl rfl (.cons (zag _ _ (fun h=>by cases h<;>contradiction)) (.cons (zag _ _ (fun h=>by cases h<;>contradiction)) (.cons (zag _ _ (fun h=>by cases h<;>contradiction)) .nil))) ⟨(zac _ _),(zac _ _),(zac _ _),qci⟩ ⟨(zac _ _),(zac _ _),(zac _ _),qci⟩ ?_;obtain⟨r54,g55,j2⟩:=bind_some j2;try simp only[rnA,Nat.reduceLT]
  refine EvL.fnS (zcH g55) rfl rfl (.cons (Mzs.agg (.cons (zag _ _ (fun h=>by cases h<;>contradiction)) (.cons (zag _ _ (fun h=>by cases h<;>contradiction)) (.cons (zag _ _ (fun h=>by cases h<;>contradiction)) .nil)))) .nil) ⟨⟨(zac _ _),(zac _ _),(zac _ _),qci⟩,qci⟩ ⟨qci,⟨⟨rfl,zal.fr _⟩,qci⟩⟩ ?_;try simp only[rnA,Nat.reduceEqDiff,Nat.reduceLT,Nat.reduceAdd,zae]
  refine EvL.zeU (S':=⟨202,[(1,(.ptr 0 0)),(2,(.ptr 1 0)),(3,(.ptr 2 0)),(4,(dI r7.1)),(5,(dI r7.2)),(79,(dB true)),(84,(.clo 107 [] [(.fptr false (zal.c false r54))])),(85,(.agg [(fzE false (eI .i64) r1.vars),(fzE false (eI .i64) r1.zad),(fzE false (eI .i64) r1.w)])),(86,(fzE true (eI .i64) [4]))],[.cells [(fzE false (eI .i64) r1.vars),(fzE false (eI .i64) r1.zad),(fzE false (eI .i64) r1.w)],.cells [(fzE false (eI .i64) r3.vars),(fzE false (eI .i64) r3.zad),(fzE false (eI .i64) r3.w)],.cells [(fzE false (eI .i64) r5.vars),(fzE false (eI .i64) r5.zad),(fzE false (eI .i64) r5.w)]]⟩) (zbE.m0 [.k,.k,.k,.f] rfl (msq (msq (msq (msq (msq (msq (ms rfl ⟨qci,⟨qci,qci⟩⟩ (ms rfl ⟨qci,qci,qci,qci⟩ (mf rfl (zaR (e:=(eI .i64)) (t:=true) rfl rfl (.inl rfl) rfl rfl (fun k h=>by cases h; exact qaj _) (fun h=>by cases h<;>rfl)) trivial))))))))) ⟨MB.cs ⟨qci,qci,qci,qci⟩,⟨MB.cs ⟨qci,qci,qci,qci⟩,⟨MB.cs ⟨qci,qci,qci,qci⟩,qci⟩⟩⟩) (zab ?_);obtain⟨r56,g57,j2⟩:=bind_some j2;try simp only[rnA,zae]
  refine EvL.fnS (zdF g57) rfl rfl (.cons (Mzs.agg (.cons (zag _ _ (fun h=>by cases h<;>contradiction)) (.cons (zag _ _ (fun h=>by cases h<;>contradiction)) (.cons (zag _ _ (fun h=>by cases h<;>contradiction)) .nil)))) (.cons (zag _ _ (fun h=>by cases h<;>contradiction)) .nil)) ⟨⟨(zac _ _),(zac _ _),(zac _ _),qci⟩,(zac _ _),qci⟩ ⟨⟨(zac _ _),(zac _ _),(zac _ _),qci⟩,qci,qci⟩ ?_;obtain⟨r58,g59,j2⟩:=bind_some j2;try simp only[rnA,Nat.reduceEqDiff,Nat.reduceLT]
  refine EvL.fnv rfl rfl (zbH g59) rfl (.cons (.za5 (.cons (zaa _ _ (fun h=>nomatch h)) (.cons (zaa _ _ (fun h=>nomatch h)) (.cons (zaa _ _ (fun h=>nomatch h)) .nil)))) (.cons (.lit _) (.cons (.fptr (fun h=>nomatch h) rfl (zal.snp (t:=false) (t':=false) r54 (fun h=>nomatch h)).get) .nil))) ?_;try simp only[rnA,Nat.reduceEqDiff,Nat.reduceLT]
  cases c60:r58
  ·rw[c60,cond_false]at j2;try simp only[rnA,Nat.reduceEqDiff,Nat.reduceLT]
   refine EvL.skip rfl ?_;try simp only[rnA,Nat.reduceLT]
   refine EvL.skip rfl ?_;try simp only[rnA,Nat.reduceLT]
   refine EvL.skip rfl ?_;try simp only[rnA,Nat.reduceEqDiff,Nat.reduceLT]
   refine EvL.skip rfl ?_;try simp only[rnA,Nat.reduceEqDiff,Nat.reduceLT]
   refine EvL.skip rfl ?_;try simp only[rnA,Nat.reduceLT]
   refine EvL.skip rfl ?_;try simp only[rnA,Nat.reduceLT]
   refine EvL.skip rfl ?_;try simp only[rnA,Nat.reduceEqDiff,Nat.reduceLT]
   refine EvL.skip rfl ?_;try simp only[rnA,Nat.reduceEqDiff,Nat.reduceLT]
   refine EvL.skip rfl ?_;try simp only[rnA,Nat.reduceLT]
   refine EvL.skip rfl ?_;try simp only[rnA,Nat.reduceEqDiff,Nat.reduceLT]
   refine EvL.skip rfl ?_;try simp only[rnA,Nat.reduceEqDiff,Nat.reduceLT]
   refine EvL.skip rfl ?_;try simp only[rnA,Nat.reduceLT]
   refine EvL.skip rfl ?_;try simp only[rnA,Nat.reduceEqDiff,Nat.reduceLT]
   refine EvL.skip rfl ?_;try simp only[rnA,Nat.reduceEqDiff,Nat.reduceLT]
   replace j2:=qab j2; subst j2;exact lfj hT2 rfl (wm0 [.k] ⟨MB.cs ⟨qci,qci,qci,qci⟩,qci⟩)
  rw[c60,cond_true]at j2;try simp only[rnA,Nat.reduceEqDiff,Nat.reduceLT,Nat.reduceAdd,Nat.reduceLeDiff]
  refine EvL.zeU (S':=⟨202,[(1,(.ptr 0 0)),(2,(.ptr 1 0)),(3,(.ptr 2 0)),(4,(dI r7.1)),(5,(dI r7.2)),(92,(dB true)),(93,(fzE true (eI .i64) [10])),(96,(.agg [(fzE false (eI .i64) r1.vars),(fzE false (eI .i64) r1.zad),(fzE false (eI .i64) r1.w)]))],[.cells [(fzE false (eI .i64) r1.vars),(fzE false (eI .i64) r1.zad),(fzE false (eI .i64) r1.w)],.cells [(fzE false (eI .i64) r3.vars),(fzE false (eI .i64) r3.zad),(fzE false (eI .i64) r3.w)],.cells [(fzE false (eI .i64) r5.vars),(fzE false (eI .i64) r5.zad),(fzE false (eI .i64) r5.w)]]⟩) (zbE.m0 [.k,.k,.k,.f] rfl (msq (msq (msq (msq (msq (msq (mf rfl (zaR (e:=(eI .i64)) (t:=true) rfl rfl (.inl rfl) rfl rfl (fun k h=>by cases h; exact qaj _) (fun h=>by cases h<;>rfl)) (ms rfl ⟨qci,qci,qci,qci⟩ trivial)))))))) ⟨MB.cs ⟨qci,qci,qci,qci⟩,⟨MB.cs ⟨qci,qci,qci,qci⟩,⟨MB.cs ⟨qci,qci,qci,qci⟩,qci⟩⟩⟩) (zab ?_);obtain⟨r61,g62,j2⟩:=bind_some j2;try simp only[rnA]
  refine EvL.fnS (zbx g62) rfl rfl (.cons (zhS (eI .i64)) (.cons (zhS (eI .i64)) (.cons (zag _ _ (fun h=>by cases h<;>contradiction)) .nil))) ⟨(zac _ _),(zac _ _),(zac _ _),qci⟩ ⟨(zac _ _),(zac _ _),(zac _ _),qci⟩ ?_;obtain⟨r63,g64,j2⟩:=bind_some j2;try simp only[rnA,Nat.reduceLT]
  refine EvL.fnS (zcH g64) rfl rfl (.cons (Mzs.agg (.cons (zag _ _ (fun h=>by cases h<;>contradiction)) (.cons (zag _ _ (fun h=>by cases h<;>contradiction)) (.cons (zag _ _ (fun h=>by cases h<;>contradiction)) .nil)))) .nil) ⟨⟨(zac _ _),(zac _ _),(zac _ _),qci⟩,qci⟩ ⟨qci,⟨⟨rfl,zal.fr _⟩,qci⟩⟩ ?_;obtain⟨r65,g66,j2⟩:=bind_some j2;try simp only[rnA,Nat.reduceLT,zae]
  refine EvL.fnS (zdF g66) rfl rfl (.cons (Mzs.agg (.cons (zag _ _ (fun h=>by cases h<;>contradiction)) (.cons (zag _ _ (fun h=>by cases h<;>contradiction)) (.cons (zag _ _ (fun h=>by cases h<;>contradiction)) .nil)))) (.cons (zhS (eI .i64)) .nil)) ⟨⟨(zac _ _),(zac _ _),(zac _ _),qci⟩,(zac _ _),qci⟩ ⟨⟨(zac _ _),(zac _ _),(zac _ _),qci⟩,qci,qci⟩ ?_;obtain⟨r67,g68,j2⟩:=bind_some j2;try simp only[rnA,Nat.reduceEqDiff,Nat.reduceLT]
  refine EvL.fnv rfl rfl (zbH g68) rfl (.cons (.za5 (.cons (zaa _ _ (fun h=>nomatch h)) (.cons (zaa _ _ (fun h=>nomatch h)) (.cons (zaa _ _ (fun h=>nomatch h)) .nil)))) (.cons (.lit _) (.cons (.fptr (fun h=>nomatch h) rfl (zal.snp (t:=false) (t':=false) r63 (fun h=>nomatch h)).get) .nil))) ?_;try simp only[rnA,Nat.reduceEqDiff,Nat.reduceLT]
  cases c69:r67
  ·rw[c69,cond_false]at j2;try simp only[rnA,Nat.reduceEqDiff,Nat.reduceLT]
   refine EvL.skip rfl ?_;try simp only[rnA,Nat.reduceLT]
   refine EvL.skip rfl ?_;try simp only[rnA,Nat.reduceLT]
   refine EvL.skip rfl ?_;try simp only[rnA,Nat.reduceEqDiff,Nat.reduceLT]
   refine EvL.skip rfl ?_;try simp only[rnA,Nat.reduceEqDiff,Nat.reduceLT]
   refine EvL.skip rfl ?_;try simp only[rnA,Nat.reduceLT]
   refine EvL.skip rfl ?_;try simp only[rnA,Nat.reduceEqDiff,Nat.reduceLT]
   refine EvL.skip rfl ?_;try simp only[rnA,Nat.reduceEqDiff,Nat.reduceLT]
   refine EvL.skip rfl ?_;try simp only[rnA,Nat.reduceLT]
   refine EvL.skip rfl ?_;try simp only[rnA,Nat.reduceEqDiff,Nat.reduceLT]
   refine EvL.skip rfl ?_;try simp only[rnA,Nat.reduceEqDiff,Nat.reduceLT]
   replace j2:=qab j2; subst j2;exact lfj hT2 rfl (wm0 [.k] ⟨MB.cs ⟨qci,qci,qci,qci⟩,qci⟩)
  rw[c69,cond_true]at j2;try simp only[rnA,Nat.reduceEqDiff,Nat.reduceLT]
  cases c70:(r7.1 == 10)
  ·rw[c70,cond_false]at j2;try simp only[rnA,Nat.reduceEqDiff,Nat.reduceLT]
   refine EvL.skip rfl ?_;try simp only[rnA,Nat.reduceLT]
   refine EvL.skip rfl ?_;try simp only[rnA,Nat.reduceLT]
   refine EvL.skip rfl ?_;try simp only[rnA,Nat.reduceEqDiff,Nat.reduceLT]
   refine EvL.skip rfl ?_;try simp only[rnA,Nat.reduceEqDiff,Nat.reduceLT]
   refine EvL.skip rfl ?_;try simp only[rnA,Nat.reduceLT]
   refine EvL.skip rfl ?_;try simp only[rnA,Nat.reduceEqDiff,Nat.reduceLT]
   refine EvL.skip rfl ?_;try simp only[rnA,Nat.reduceEqDiff,Nat.reduceLT]
   refine EvL.skip rfl ?_;try simp only[rnA,Nat.reduceLT]
   refine EvL.skip rfl ?_;try simp only[rnA,Nat.reduceEqDiff,Nat.reduceLT]
   refine EvL.skip rfl ?_;try simp only[rnA,Nat.reduceEqDiff,Nat.reduceLT]
   replace j2:=qab j2; subst j2;exact lfj hT2 rfl (wm0 [.k] ⟨MB.cs ⟨qci,qci,qci,qci⟩,qci⟩)
  rw[c70,cond_true]at j2;try simp only[rnA,Nat.reduceEqDiff,Nat.reduceLT]
  cases c71:(r7.2 == 0)
  ·rw[c71,cond_false]at j2;try simp only[rnA,Nat.reduceEqDiff,Nat.reduceLT]
   refine EvL.skip rfl ?_;try simp only[rnA,Nat.reduceLT]
   refine EvL.skip rfl ?_;try simp only[rnA,Nat.reduceLT]
   refine EvL.skip rfl ?_;try simp only[rnA,Nat.reduceEqDiff,Nat.reduceLT]
   refine EvL.skip rfl ?_;try simp only[rnA,Nat.reduceEqDiff,Nat.reduceLT]
   refine EvL.skip rfl ?_;try simp only[rnA,Nat.reduceLT]
   refine EvL.skip rfl ?_;try simp only[rnA,Nat.reduceEqDiff,Nat.reduceLT]
   refine EvL.skip rfl ?_;try simp only[rnA,Nat.reduceEqDiff,Nat.reduceLT]
   refine EvL.skip rfl ?_;try simp only[rnA,Nat.reduceLT]
   refine EvL.skip rfl ?_;try simp only[rnA,Nat.reduceEqDiff,Nat.reduceLT]
   refine EvL.skip rfl ?_;try simp only[rnA,Nat.reduceEqDiff,Nat.reduceLT]
   replace j2:=qab j2; subst j2;exact lfj hT2 rfl (wm0 [.k] ⟨MB.cs ⟨qci,qci,qci,qci⟩,qci⟩)
  rw[c71,cond_true]at j2;try simp only[rnA,Nat.reduceEqDiff,Nat.reduceLT,Nat.reduceAdd,Nat.reduceLeDiff]
  refine EvL.zeU (S':=⟨202,[(1,(.ptr 0 0)),(2,(.ptr 1 0)),(110,(dB true)),(111,(fzE true (eI .i64) [1,4])),(112,(fzE true (eI .i64) [2,2])),(113,(fzE true (eI .i64) [1,0,3,0])),(116,(.agg [(fzE false (eI .i64) r5.vars),(fzE false (eI .i64) r5.zad),(fzE false (eI .i64) r5.w)])),(117,(.agg [(fzE false (eI .i64) r3.vars),(fzE false (eI .i64) r3.zad),(fzE false (eI .i64) r3.w)]))],[.cells [(fzE false (eI .i64) r1.vars),(fzE false (eI .i64) r1.zad),(fzE false (eI .i64) r1.w)],.cells [(fzE false (eI .i64) r3.vars),(fzE false (eI .i64) r3.zad),(fzE false (eI .i64) r3.w)]]⟩) (zbE.m0 [.k,.k,.d,.f,.f,.f] rfl (msq (msq (msq (mf rfl (zaR (e:=(eI .i64)) (t:=true) rfl rfl (.inl rfl) rfl rfl (fun k h=>by cases h; exact qaj _) (fun h=>by cases h<;>rfl)) (mf rfl (zaR (e:=(eI .i64)) (t:=true) rfl rfl (.inl rfl) rfl rfl (fun k h=>by cases h; exact qaj _) (fun h=>by cases h<;>rfl)) (mf rfl (zaR (e:=(eI .i64)) (t:=true) rfl rfl (.inl rfl) rfl rfl (fun k h=>by cases h; exact qaj _) (fun h=>by cases h<;>rfl)) (ms rfl ⟨qci,qci,qci,qci⟩ (ms rfl ⟨qci,qci,qci,qci⟩ trivial)))))))) ⟨MB.cs ⟨qci,qci,qci,qci⟩,⟨MB.cs ⟨qci,qci,qci,qci⟩,qci⟩⟩) (zab ?_);obtain⟨r72,g73,j2⟩:=bind_some j2;try simp only[rnA]
  refine EvL.fnS (zbx g73) rfl rfl (.cons (zag _ _ (fun h=>by cases h<;>contradiction)) (.cons (zag _ _ (fun h=>by cases h<;>contradiction)) (.cons (zag _ _ (fun h=>by cases h<;>contradiction)) .nil))) ⟨(zac _ _),(zac _ _),(zac _ _),qci⟩ ⟨(zac _ _),(zac _ _),(zac _ _),qci⟩ ?_;obtain⟨r74,g75,j2⟩:=bind_some j2;try simp only[rnA,Nat.reduceLT]
  refine EvL.fnS (zcH g75) rfl rfl (.cons (Mzs.agg (.cons (zag _ _ (fun h=>by cases h<;>contradiction)) (.cons (zag _ _ (fun h=>by cases h<;>contradiction)) (.cons (zag _ _ (fun h=>by cases h<;>contradiction)) .nil)))) .nil) ⟨⟨(zac _ _),(zac _ _),(zac _ _),qci⟩,qci⟩ ⟨qci,⟨⟨rfl,zal.fr _⟩,qci⟩⟩ ?_;obtain⟨r76,g77,j2⟩:=bind_some j2;try simp only[rnA,Nat.reduceLT,zae]
  refine EvL.fn (zck g77) rfl rfl (.cons (.za5 (.cons (zaa _ _ (fun h=>nomatch h)) (.cons (zaa _ _ (fun h=>nomatch h)) (.cons (zaa _ _ (fun h=>nomatch h)) .nil)))) (.cons (.za5 (.cons (zaa _ _ (fun h=>nomatch h)) (.cons (zaa _ _ (fun h=>nomatch h)) (.cons (zaa _ _ (fun h=>nomatch h)) .nil)))) .nil)) ?_;obtain⟨r78,g79,j2⟩:=bind_some j2;try simp only[rnA,Nat.reduceEqDiff,Nat.reduceLT]
  refine EvL.fnv rfl rfl (zbH g79) rfl (.cons (.za5 (.cons (zaa _ _ (fun h=>nomatch h)) (.cons (zaa _ _ (fun h=>nomatch h)) (.cons (zaa _ _ (fun h=>nomatch h)) .nil)))) (.cons (.lit _) (.cons (.fptr (fun h=>nomatch h) rfl (zal.snp (t:=false) (t':=false) r74 (fun h=>nomatch h)).get) .nil))) ?_;try simp only[rnA,Nat.reduceEqDiff,Nat.reduceLT]
  cases c80:r78
  ·rw[c80,cond_false]at j2;try simp only[rnA,Nat.reduceEqDiff,Nat.reduceLT]
   refine EvL.skip rfl ?_;try simp only[rnA,Nat.reduceLT]
   refine EvL.skip rfl ?_;try simp only[rnA,Nat.reduceEqDiff,Nat.reduceLT]
   refine EvL.skip rfl ?_;try simp only[rnA,Nat.reduceEqDiff,Nat.reduceLT]
   refine EvL.skip rfl ?_;try simp only[rnA,Nat.reduceLT]
   refine EvL.skip rfl ?_;try simp only[rnA,Nat.reduceEqDiff,Nat.reduceLT]
   refine EvL.skip rfl ?_;try simp only[rnA,Nat.reduceEqDiff,Nat.reduceLT]
   replace j2:=qab j2; subst j2;exact lfj hT2 rfl (wm0 [.k] ⟨MB.cs ⟨qci,qci,qci,qci⟩,qci⟩)
  rw[c80,cond_true]at j2;obtain⟨r81,g82,j2⟩:=bind_some j2;try simp only[rnA,Nat.reduceEqDiff,Nat.reduceLT,Nat.reduceAdd,Nat.reduceLeDiff]
  refine EvL.fnS (zcv g82) rfl rfl (.cons (.lit _) .nil) ⟨qci,qci⟩ ⟨qci,⟨⟨rfl,(eI .i64).fr _⟩,qci⟩⟩ ?_;obtain⟨r83,g84,j2⟩:=bind_some j2;try simp only[rnA,Nat.reduceLT]
  refine EvL.fn (zck g84) rfl rfl (.cons (.za5 (.cons (zaa _ _ (fun h=>nomatch h)) (.cons (zaa _ _ (fun h=>nomatch h)) (.cons (zaa _ _ (fun h=>nomatch h)) .nil)))) (.cons (.za5 (.cons (zaa _ _ (fun h=>nomatch h)) (.cons (zaa _ _ (fun h=>nomatch h)) (.cons (zaa _ _ (fun h=>nomatch h)) .nil)))) .nil)) ?_;obtain⟨r85,g86,j2⟩:=bind_some j2;try simp only[rnA,Nat.reduceEqDiff,Nat.reduceLT]
  refine EvL.fnv rfl rfl (zbU g86) rfl (.cons (.za5 (.cons (zaa _ _ (fun h=>nomatch h)) (.cons (zaa _ _ (fun h=>nomatch h)) (.cons (zaa _ _ (fun h=>nomatch h)) .nil)))) (.cons (.lit _) (.cons (.fptr (fun h=>nomatch h) rfl ((eI .i64).snp (t:=false) (t':=false) r81 (fun h=>nomatch h)).get) .nil))) ?_;try simp only[rnA,Nat.reduceEqDiff,Nat.reduceLT]
  cases c87:r85
  ·rw[c87,cond_false]at j2;try simp only[rnA,Nat.reduceEqDiff,Nat.reduceLT]
   refine EvL.skip rfl ?_;try simp only[rnA,Nat.reduceLT]
   refine EvL.skip rfl ?_;try simp only[rnA,Nat.reduceEqDiff,Nat.reduceLT]
   refine EvL.skip rfl ?_;try simp only[rnA,Nat.reduceEqDiff,Nat.reduceLT]
   replace j2:=qab j2; subst j2;exact lfj hT2 rfl (wm0 [.k] ⟨MB.cs ⟨qci,qci,qci,qci⟩,qci⟩)
  rw[c87,cond_true]at j2;obtain⟨r88,g89,j2⟩:=bind_some j2;try simp only[rnA,Nat.reduceEqDiff,Nat.reduceLT,Nat.reduceAdd,Nat.reduceLeDiff]
  refine EvL.fnS (zcv g89) rfl rfl (.cons (.lit _) .nil) ⟨qci,qci⟩ ⟨qci,⟨⟨rfl,(eI .i64).fr _⟩,qci⟩⟩ ?_;obtain⟨r90,g91,j2⟩:=bind_some j2;try simp only[rnA,Nat.reduceLT]
  refine EvL.fn (zck g91) rfl rfl (.cons (.za5 (.cons (zaa _ _ (fun h=>nomatch h)) (.cons (zaa _ _ (fun h=>nomatch h)) (.cons (zaa _ _ (fun h=>nomatch h)) .nil)))) (.cons (.za5 (.cons (zaa _ _ (fun h=>nomatch h)) (.cons (zaa _ _ (fun h=>nomatch h)) (.cons (zaa _ _ (fun h=>nomatch h)) .nil)))) .nil)) ?_;obtain⟨r92,g93,j2⟩:=bind_some j2;try simp only[rnA,Nat.reduceEqDiff,Nat.reduceLT]
  refine EvL.fnv rfl rfl (zbU g93) rfl (.cons (.za5 (.cons (zaa _ _ (fun h=>nomatch h)) (.cons (zaa _ _ (fun h=>nomatch h)) (.cons (zaa _ _ (fun h=>nomatch h)) .nil)))) (.cons (.lit _) (.cons (.fptr (fun h=>nomatch h) rfl ((eI .i64).snp (t:=false) (t':=false) r88 (fun h=>nomatch h)).get) .nil))) ?_;try simp only[rnA,Nat.reduceEqDiff,Nat.reduceLT]
  replace j2:=qab j2; subst j2;exact lfj hT2 rfl (wm0 [.k] ⟨MB.cs ⟨qci,qci,qci,qci⟩,qci⟩)
 rintro v6' rfl;rw[congrFun hT2 v6'];refine zab ?_;try simp only[rnA]
 obtain⟨o3,j3,h⟩:=bind_some h;obtain⟨T3,hT3⟩:=mkT fun a:Bool=>⟨202,[(6,(dB a))],[]⟩
 refine EvL.jn T3 (fun a=>a=o3) ?_ ?_
 ·refine zab ?_;try simp only[rnA,Nat.reduceEqDiff,Nat.reduceLT]
  cases c94:v6'
  ·rw[c94,cond_false]at j3;try simp only[rnA,Nat.reduceLT]
   refine EvL.skip rfl ?_;try simp only[rnA,Nat.reduceLT]
   refine EvL.skip rfl ?_;try simp only[rnA,Nat.reduceEqDiff,Nat.reduceLT]
   refine EvL.skip rfl ?_;try simp only[rnA,Nat.reduceEqDiff,Nat.reduceLT]
   refine EvL.skip rfl ?_;try simp only[rnA,Nat.reduceLT]
   refine EvL.skip rfl ?_;try simp only[rnA,Nat.reduceEqDiff,Nat.reduceLT]
   refine EvL.skip rfl ?_;try simp only[rnA,Nat.reduceEqDiff,Nat.reduceLT]
   refine EvL.skip rfl ?_;try simp only[rnA,Nat.reduceEqDiff,Nat.reduceLT]
   refine EvL.skip rfl ?_;try simp only[rnA,Nat.reduceEqDiff,Nat.reduceLT]
   refine EvL.skip rfl ?_;try simp only[rnA,Nat.reduceEqDiff,Nat.reduceLT]
   refine EvL.skip rfl ?_;try simp only[rnA,Nat.reduceEqDiff,Nat.reduceLT]
   refine EvL.skip rfl ?_;try simp only[rnA,Nat.reduceLT]
   refine EvL.skip rfl ?_;try simp only[rnA,Nat.reduceEqDiff,Nat.reduceLT]
   refine EvL.skip rfl ?_;try simp only[rnA,Nat.reduceEqDiff,Nat.reduceLT]
   replace j3:=qab j3; subst j3;exact lfj hT3 rfl (wm0 [] (by exact trivial))
  rw[c94,cond_true]at j3;obtain⟨r95,g96,j3⟩:=bind_some j3;try simp only[rnA,Nat.reduceEqDiff,Nat.reduceLT,Nat.reduceAdd,Nat.reduceLeDiff]
  refine EvL.fnS (zcv g96) rfl rfl (.cons (.lit _) .nil) ⟨qci,qci⟩ ⟨qci,⟨⟨rfl,(eI .i64).fr _⟩,qci⟩⟩ ?_;obtain⟨r97,g98,j3⟩:=bind_some j3;try simp only[rnA,Nat.reduceLT]
  refine EvL.fnS (zd8 g98) rfl rfl (.cons (Mzs.agg (.cons (zag _ _ (fun h=>by cases h<;>contradiction)) (.cons (zag _ _ (fun h=>by cases h<;>contradiction)) (.cons (zag _ _ (fun h=>by cases h<;>contradiction)) .nil)))) (.cons (.lit _) .nil)) ⟨⟨(zac _ _),(zac _ _),(zac _ _),qci⟩,qci,qci⟩ ⟨⟨(zac _ _),(zac _ _),(zac _ _),qci⟩,qci,qci⟩ ?_;obtain⟨r99,g100,j3⟩:=bind_some j3;try simp only[rnA,Nat.reduceEqDiff,Nat.reduceLT]
  refine EvL.fnv rfl rfl (zbU g100) rfl (.cons (.za5 (.cons (zaa _ _ (fun h=>nomatch h)) (.cons (zaa _ _ (fun h=>nomatch h)) (.cons (zaa _ _ (fun h=>nomatch h)) .nil)))) (.cons (.lit _) (.cons (.fptr (fun h=>nomatch h) rfl ((eI .i64).snp (t:=false) (t':=false) r95 (fun h=>nomatch h)).get) .nil))) ?_;try simp only[rnA,Nat.reduceEqDiff,Nat.reduceLT]
  cases c101:r99
  ·rw[c101,cond_false]at j3;try simp only[rnA,Nat.reduceLT]
   refine EvL.skip rfl ?_;try simp only[rnA,Nat.reduceLT]
   refine EvL.skip rfl ?_;try simp only[rnA,Nat.reduceEqDiff,Nat.reduceLT]
   refine EvL.skip rfl ?_;try simp only[rnA,Nat.reduceEqDiff,Nat.reduceLT]
   refine EvL.skip rfl ?_;try simp only[rnA,Nat.reduceEqDiff,Nat.reduceLT]
   refine EvL.skip rfl ?_;try simp only[rnA,Nat.reduceEqDiff,Nat.reduceLT]
   refine EvL.skip rfl ?_;try simp only[rnA,Nat.reduceEqDiff,Nat.reduceLT]
   refine EvL.skip rfl ?_;try simp only[rnA,Nat.reduceEqDiff,Nat.reduceLT]
   refine EvL.skip rfl ?_;try simp only[rnA,Nat.reduceLT]
   refine EvL.skip rfl ?_;try simp only[rnA,Nat.reduceEqDiff,Nat.reduceLT]
   refine EvL.skip rfl ?_;try simp only[rnA,Nat.reduceEqDiff,Nat.reduceLT]
   replace j3:=qab j3; subst j3;exact lfj hT3 rfl (wm0 [] (by exact trivial))
  rw[c101,cond_true]at j3;obtain⟨r102,g103,j3⟩:=bind_some j3;try simp only[rnA,Nat.reduceEqDiff,Nat.reduceLT,Nat.reduceAdd,Nat.reduceLeDiff]
  refine EvL.fnS (zcv g103) rfl rfl (.cons (.lit _) .nil) ⟨qci,qci⟩ ⟨qci,⟨⟨rfl,(eI .i64).fr _⟩,qci⟩⟩ ?_;obtain⟨r104,g105,j3⟩:=bind_some j3;try simp only[rnA,Nat.reduceLT]
  refine EvL.fn (zfQ g105) rfl rfl (.cons (.za5 (.cons (zaa _ _ (fun h=>nomatch h)) (.cons (zaa _ _ (fun h=>nomatch h)) (.cons (zaa _ _ (fun h=>nomatch h)) .nil)))) (.cons (.lit _) (.cons (.lit _) .nil))) ?_;obtain⟨r106,g107,j3⟩:=bind_some j3;try simp only[rnA,Nat.reduceEqDiff,Nat.reduceLT]
  refine EvL.fnv rfl rfl (zbU g107) rfl (.cons (.za5 (.cons (zaa _ _ (fun h=>nomatch h)) (.cons (zaa _ _ (fun h=>nomatch h)) (.cons (zaa _ _ (fun h=>nomatch h)) .nil)))) (.cons (.lit _) (.cons (.fptr (fun h=>nomatch h) rfl ((eI .i64).snp (t:=false) (t':=false) r102 (fun h=>nomatch h)).get) .nil))) ?_;try simp only[rnA,Nat.reduceEqDiff,Nat.reduceLT]
  cases c108:r106
  ·rw[c108,cond_false]at j3;try simp only[rnA,Nat.reduceLT]
   refine EvL.skip rfl ?_;try simp only[rnA,Nat.reduceEqDiff,Nat.reduceLT]
   refine EvL.skip rfl ?_;try simp only[rnA,Nat.reduceEqDiff,Nat.reduceLT]
   refine EvL.skip rfl ?_;try simp only[rnA,Nat.reduceEqDiff,Nat.reduceLT]
   refine EvL.skip rfl ?_;try simp only[rnA,Nat.reduceEqDiff,Nat.reduceLT]
   refine EvL.skip rfl ?_;try simp only[rnA,Nat.reduceLT]
   refine EvL.skip rfl ?_;try simp only[rnA,Nat.reduceEqDiff,Nat.reduceLT]
   refine EvL.skip rfl ?_;try simp only[rnA,Nat.reduceEqDiff,Nat.reduceLT]
   replace j3:=qab j3; subst j3;exact lfj hT3 rfl (wm0 [] (by exact trivial))
  rw[c108,cond_true]at j3;obtain⟨r109,g110,j3⟩:=bind_some j3;try simp only[rnA,Nat.reduceEqDiff,Nat.reduceLT,Nat.reduceAdd,Nat.reduceLeDiff]
  refine EvL.fnS (zcv g110) rfl rfl (.cons (.lit _) .nil) ⟨qci,qci⟩ ⟨qci,⟨⟨rfl,(eI .i64).fr _⟩,qci⟩⟩ ?_;try simp only[rnA,Nat.reduceEqDiff,Nat.reduceLT,Nat.reduceAdd]
  refine EvL.zeU (S':=⟨202,[(1,(.ptr 0 0)),(158,(dB true)),(159,(.clo 108 [] [(.fptr false ((eI .i64).c false r109))])),(160,(.agg [(fzE false (eI .i64) r1.vars),(fzE false (eI .i64) r1.zad),(fzE false (eI .i64) r1.w)])),(161,(fzE true (eI .i64) [4,1]))],[.cells [(fzE false (eI .i64) r1.vars),(fzE false (eI .i64) r1.zad),(fzE false (eI .i64) r1.w)]]⟩) (zbE.m0 [.k,.f] rfl (msq (msq (ms rfl ⟨qci,⟨qci,qci⟩⟩ (ms rfl ⟨qci,qci,qci,qci⟩ (mf rfl (zaR (e:=(eI .i64)) (t:=true) rfl rfl (.inl rfl) rfl rfl (fun k h=>by cases h; exact qaj _) (fun h=>by cases h<;>rfl)) trivial))))) ⟨MB.cs ⟨qci,qci,qci,qci⟩,qci⟩) (zab ?_);obtain⟨r111,g112,j3⟩:=bind_some j3;try simp only[rnA]
  refine EvL.fnS (zdF g112) rfl rfl (.cons (Mzs.agg (.cons (zag _ _ (fun h=>by cases h<;>contradiction)) (.cons (zag _ _ (fun h=>by cases h<;>contradiction)) (.cons (zag _ _ (fun h=>by cases h<;>contradiction)) .nil)))) (.cons (zag _ _ (fun h=>by cases h<;>contradiction)) .nil)) ⟨⟨(zac _ _),(zac _ _),(zac _ _),qci⟩,(zac _ _),qci⟩ ⟨⟨(zac _ _),(zac _ _),(zac _ _),qci⟩,qci,qci⟩ ?_;obtain⟨r113,g114,j3⟩:=bind_some j3;try simp only[rnA,Nat.reduceEqDiff,Nat.reduceLT]
  refine EvL.fnv rfl rfl (zbU g114) rfl (.cons (.za5 (.cons (zaa _ _ (fun h=>nomatch h)) (.cons (zaa _ _ (fun h=>nomatch h)) (.cons (zaa _ _ (fun h=>nomatch h)) .nil)))) (.cons (.lit _) (.cons (.fptr (fun h=>nomatch h) rfl ((eI .i64).snp (t:=false) (t':=false) r109 (fun h=>nomatch h)).get) .nil))) ?_;try simp only[rnA,Nat.reduceEqDiff,Nat.reduceLT]
  cases c115:r113
  ·rw[c115,cond_false]at j3;try simp only[rnA,Nat.reduceLT]
   refine EvL.skip rfl ?_;try simp only[rnA,Nat.reduceEqDiff,Nat.reduceLT]
   refine EvL.skip rfl ?_;try simp only[rnA,Nat.reduceLT]
   refine EvL.skip rfl ?_;try simp only[rnA,Nat.reduceEqDiff,Nat.reduceLT]
   refine EvL.skip rfl ?_;try simp only[rnA,Nat.reduceEqDiff,Nat.reduceLT]
   replace j3:=qab j3; subst j3;exact lfj hT3 rfl (wm0 [] (by exact trivial))
  rw[c115,cond_true]at j3;obtain⟨r116,g117,j3⟩:=bind_some j3;try simp only[rnA,Nat.reduceEqDiff,Nat.reduceLT,Nat.reduceAdd,Nat.reduceLeDiff]
  refine EvL.fnS (zcv g117) rfl rfl (.cons (.lit _) .nil) ⟨qci,qci⟩ ⟨qci,⟨⟨rfl,(eI .i64).fr _⟩,qci⟩⟩ ?_;try simp only[rnA,Nat.reduceEqDiff,Nat.reduceLT,Nat.reduceAdd]
  refine EvL.zeU (S':=⟨202,[(167,(dB true)),(168,(.clo 108 [] [(.fptr false ((eI .i64).c false r116))])),(169,(.agg [(fzE false (eI .i64) r1.vars),(fzE false (eI .i64) r1.zad),(fzE false (eI .i64) r1.w)])),(170,(fzE true (eI .i64) [4])),(171,(fzE true (eI .i64) [3])),(172,(fzE true (eI .i64) [1,1,1]))],[]⟩) (zbE.m0 [.d,.f,.f,.f] rfl (msq (ms rfl ⟨qci,⟨qci,qci⟩⟩ (ms rfl ⟨qci,qci,qci,qci⟩ (mf rfl (zaR (e:=(eI .i64)) (t:=true) rfl rfl (.inl rfl) rfl rfl (fun k h=>by cases h; exact qaj _) (fun h=>by cases h<;>rfl)) (mf rfl (zaR (e:=(eI .i64)) (t:=true) rfl rfl (.inl rfl) rfl rfl (fun k h=>by cases h; exact qaj _) (fun h=>by cases h<;>rfl)) (mf rfl (zaR (e:=(eI .i64)) (t:=true) rfl rfl (.inl rfl) rfl rfl (fun k h=>by cases h; exact qaj _) (fun h=>by cases h<;>rfl)) trivial)))))) trivial) (zab ?_);obtain⟨r118,g119,j3⟩:=bind_some j3;try simp only[rnA]
  refine EvL.fnS (zbx g119) rfl rfl (.cons (zag _ _ (fun h=>by cases h<;>contradiction)) (.cons (zag _ _ (fun h=>by cases h<;>contradiction)) (.cons (zag _ _ (fun h=>by cases h<;>contradiction)) .nil))) ⟨(zac _ _),(zac _ _),(zac _ _),qci⟩ ⟨(zac _ _),(zac _ _),(zac _ _),qci⟩ ?_;obtain⟨r120,g121,j3⟩:=bind_some j3;try simp only[rnA,Nat.reduceLT]
  refine EvL.fn (zcI g121) rfl rfl (.cons (.za5 (.cons (zaa _ _ (fun h=>nomatch h)) (.cons (zaa _ _ (fun h=>nomatch h)) (.cons (zaa _ _ (fun h=>nomatch h)) .nil)))) (.cons (.za5 (.cons (zaa _ _ (fun h=>nomatch h)) (.cons (zaa _ _ (fun h=>nomatch h)) (.cons (zaa _ _ (fun h=>nomatch h)) .nil)))) .nil)) ?_;obtain⟨r122,g123,j3⟩:=bind_some j3;try simp only[rnA,Nat.reduceEqDiff,Nat.reduceLT]
  refine EvL.fnv rfl rfl (zbU g123) rfl (.cons (.za5 (.cons (zaa _ _ (fun h=>nomatch h)) (.cons (zaa _ _ (fun h=>nomatch h)) (.cons (zaa _ _ (fun h=>nomatch h)) .nil)))) (.cons (.lit _) (.cons (.fptr (fun h=>nomatch h) rfl ((eI .i64).snp (t:=false) (t':=false) r116 (fun h=>nomatch h)).get) .nil))) ?_;try simp only[rnA,Nat.reduceEqDiff,Nat.reduceLT]
  replace j3:=qab j3; subst j3;exact lfj hT3 rfl (wm0 [] (by exact trivial))
 rintro v6'' rfl;rw[congrFun hT3 v6''];refine zab ?_;try simp only[rnA]
 obtain⟨o4,j4,h⟩:=bind_some h;obtain⟨T4,hT4⟩:=mkT fun a:Bool=>⟨202,[(0,(dB a))],[]⟩
 refine EvL.jn T4 (fun a=>a=o4) ?_ ?_
 ·refine zab ?_;try simp only[rnA,Nat.reduceEqDiff,Nat.reduceLT]
  cases c124:v6''
  ·rw[c124,cond_false]at j4;try simp only[rnA,Nat.reduceEqDiff,Nat.reduceLT]
   refine EvL.skip rfl ?_;try simp only[rnA,Nat.reduceLT]
   refine EvL.skip rfl ?_;try simp only[rnA,Nat.reduceEqDiff,Nat.reduceLT]
   refine EvL.skip rfl ?_;try simp only[rnA,Nat.reduceLT]
   refine EvL.skip rfl ?_;try simp only[rnA,Nat.reduceEqDiff,Nat.reduceLT]
   refine EvL.skip rfl ?_;try simp only[rnA,Nat.reduceLT]
   refine EvL.skip rfl ?_;try simp only[rnA,Nat.reduceEqDiff,Nat.reduceLT]
   replace j4:=qab j4; subst j4;exact lfj hT4 rfl (wm0 [] (by exact trivial))
  rw[c124,cond_true]at j4;try simp only[rnA,Nat.reduceEqDiff,Nat.reduceLT,Nat.reduceAdd]
  refine EvL.zeU (S':=⟨202,[(180,(dB true)),(181,(fzE true (eI .i64) [4,1])),(182,(fzE true (eI .i64) [2,2])),(183,(fzE true (eI .i64) [1,2,3,4]))],[]⟩) (zbE.m0 [.f,.f,.f] rfl (msq (mf rfl (zaR (e:=(eI .i64)) (t:=true) rfl rfl (.inl rfl) rfl rfl (fun k h=>by cases h; exact qaj _) (fun h=>by cases h<;>rfl)) (mf rfl (zaR (e:=(eI .i64)) (t:=true) rfl rfl (.inl rfl) rfl rfl (fun k h=>by cases h; exact qaj _) (fun h=>by cases h<;>rfl)) (mf rfl (zaR (e:=(eI .i64)) (t:=true) rfl rfl (.inl rfl) rfl rfl (fun k h=>by cases h; exact qaj _) (fun h=>by cases h<;>rfl)) trivial)))) trivial) (zab ?_);obtain⟨r125,g126,j4⟩:=bind_some j4;try simp only[rnA]
  refine EvL.fnS (zbx g126) rfl rfl (.cons (zag _ _ (fun h=>by cases h<;>contradiction)) (.cons (zag _ _ (fun h=>by cases h<;>contradiction)) (.cons (zag _ _ (fun h=>by cases h<;>contradiction)) .nil))) ⟨(zac _ _),(zac _ _),(zac _ _),qci⟩ ⟨(zac _ _),(zac _ _),(zac _ _),qci⟩ ?_;obtain⟨r127,g128,j4⟩:=bind_some j4;try simp only[rnA,Nat.reduceLT]
  refine EvL.fn (zdn g128) rfl rfl (.cons (.za5 (.cons (zaa _ _ (fun h=>nomatch h)) (.cons (zaa _ _ (fun h=>nomatch h)) (.cons (zaa _ _ (fun h=>nomatch h)) .nil)))) .nil) ?_;try simp only[rnA,Nat.reduceEqDiff,Nat.reduceLT]
  cases c129:(r127 == 30)
  ·rw[c129,cond_false]at j4;try simp only[rnA,Nat.reduceEqDiff,Nat.reduceLT]
   refine EvL.skip rfl ?_;try simp only[rnA,Nat.reduceLT]
   refine EvL.skip rfl ?_;try simp only[rnA,Nat.reduceEqDiff,Nat.reduceLT]
   refine EvL.skip rfl ?_;try simp only[rnA,Nat.reduceLT]
   refine EvL.skip rfl ?_;try simp only[rnA,Nat.reduceEqDiff,Nat.reduceLT]
   replace j4:=qab j4; subst j4;exact lfj hT4 rfl (wm0 [] (by exact trivial))
  rw[c129,cond_true]at j4;try simp only[rnA,Nat.reduceEqDiff,Nat.reduceLT,Nat.reduceAdd]
  refine EvL.zeU (S':=⟨202,[(188,(dB true)),(189,(fzE true (eI .i64) [1])),(190,(fzE true (eI .i64) [2])),(191,(fzE true (eI .i64) [1]))],[]⟩) (zbE.m0 [.f,.f,.f] rfl (msq (mf rfl (zaR (e:=(eI .i64)) (t:=true) rfl rfl (.inl rfl) rfl rfl (fun k h=>by cases h; exact qaj _) (fun h=>by cases h<;>rfl)) (mf rfl (zaR (e:=(eI .i64)) (t:=true) rfl rfl (.inl rfl) rfl rfl (fun k h=>by cases h; exact qaj _) (fun h=>by cases h<;>rfl)) (mf rfl (zaR (e:=(eI .i64)) (t:=true) rfl rfl (.inl rfl) rfl rfl (fun k h=>by cases h; exact qaj _) (fun h=>by cases h<;>rfl)) trivial)))) trivial) (zab ?_);obtain⟨r130,g131,j4⟩:=bind_some j4;try simp only[rnA]
  refine EvL.fnS (zbx g131) rfl rfl (.cons (zag _ _ (fun h=>by cases h<;>contradiction)) (.cons (zag _ _ (fun h=>by cases h<;>contradiction)) (.cons (zag _ _ (fun h=>by cases h<;>contradiction)) .nil))) ⟨(zac _ _),(zac _ _),(zac _ _),qci⟩ ⟨(zac _ _),(zac _ _),(zac _ _),qci⟩ ?_;obtain⟨r132,g133,j4⟩:=bind_some j4;try simp only[rnA,Nat.reduceLT]
  refine EvL.fn (zdn g133) rfl rfl (.cons (.za5 (.cons (zaa _ _ (fun h=>nomatch h)) (.cons (zaa _ _ (fun h=>nomatch h)) (.cons (zaa _ _ (fun h=>nomatch h)) .nil)))) .nil) ?_;try simp only[rnA,Nat.reduceEqDiff,Nat.reduceLT]
  cases c134:(r132 == 30)
  ·rw[c134,cond_false]at j4;try simp only[rnA,Nat.reduceLT]
   refine EvL.skip rfl ?_;try simp only[rnA,Nat.reduceLT]
   refine EvL.skip rfl ?_;try simp only[rnA,Nat.reduceEqDiff,Nat.reduceLT]
   replace j4:=qab j4; subst j4;exact lfj hT4 rfl (wm0 [] (by exact trivial))
  rw[c134,cond_true]at j4;try simp only[rnA,Nat.reduceLT]
  refine EvL.zeU (S':=⟨202,[(196,(dB true)),(197,(fzE true (eI .i64) [(-1)]))],[]⟩) (zbE.m0 [.f] rfl (msq (mf rfl (zaR (e:=(eI .i64)) (t:=true) rfl rfl (.inl rfl) rfl rfl (fun k h=>by cases h; exact qaj _) (fun h=>by cases h<;>rfl)) trivial)) trivial) (zab ?_);obtain⟨r135,g136,j4⟩:=bind_some j4;try simp only[rnA]
  refine EvL.fnS (zbx g136) rfl rfl (.cons (zhS (eI .i64)) (.cons (zhS (eI .i64)) (.cons (zag _ _ (fun h=>by cases h<;>contradiction)) .nil))) ⟨(zac _ _),(zac _ _),(zac _ _),qci⟩ ⟨(zac _ _),(zac _ _),(zac _ _),qci⟩ ?_;obtain⟨r137,g138,j4⟩:=bind_some j4;try simp only[rnA,Nat.reduceLT]
  refine EvL.fn (zdn g138) rfl rfl (.cons (.za5 (.cons (zaa _ _ (fun h=>nomatch h)) (.cons (zaa _ _ (fun h=>nomatch h)) (.cons (zaa _ _ (fun h=>nomatch h)) .nil)))) .nil) ?_;try simp only[rnA,Nat.reduceEqDiff,Nat.reduceLT]
  replace j4:=qab j4; subst j4;exact lfj hT4 rfl (wm0 [] (by exact trivial))
 rintro v0 rfl;rw[congrFun hT4 v0];refine zab ?_;try simp only[rnA]
 replace h:=qab h; subst h;exact zcC.ret rfl (.lit _)
end Go.Dc
