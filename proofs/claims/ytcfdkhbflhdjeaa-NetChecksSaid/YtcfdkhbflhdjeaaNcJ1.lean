/-
 What r02_Size computes. Conditions: none.
-/
import Derived.Test.YtcfdkhbflhdjeaaNcQt
set_option linter.unusedSimpArgs false
set_option linter.unusedVariables false
set_option maxRecDepth 100000
set_option maxHeartbeats 4000000
namespace Go.Dc
open Go Go.Mx Go.Lx Go.Proofs
def zcP(p0:(List Int)):Nat→Int→Int→Option Int
 | 0,_,_=>none
 | n+1,v3,v4=>(
bif (decide (v4<(p0.length:Int)))then(
(zaO p0 v4).bind fun x2=>
zcP p0 n (w64 (v3 * x2)) (w64 (v4+1)))
else(
some v3))
def zcS(p0:(List Int)):Option Int:=
((zcP p0 ((p0.length:Int) - 0+2:Int).toNat 1 0:Option Int)).bind fun v3=>
some v3
theorem zfv{p0:(List Int)}{r:Int}(h:zcS p0=some r):Lx.Fn mC 48 [(fzE false (eI .i64) p0)] (dI r):=by
 refine fnO (by conv=>lhs; cbv) ?_;unfold zcS at h;refine zab ?_;try simp only[rnA,Nat.reduceEqDiff,reduceIte,Nat.reduceLT,Nat.reduceAdd,Nat.reduceLeDiff,Nat.reduceMul,Nat.reduceSub,Int.reduceLE,Int.reduceLT,Int.reduceBEq,Nat.reduceBEq,reduceCtorEq]
 obtain⟨o1,j1,h⟩:=bind_some h;obtain⟨T1,hT1⟩:=mkT fun a:Int=>⟨18,[(3,(dI a))],[]⟩
 refine EvL.jn T1 (fun a=>a=o1) ?_ ?_
 ·refine zab ?_;simp only[rnA,Nat.reduceEqDiff,reduceIte,Nat.reduceLT,Nat.reduceAdd,Nat.reduceLeDiff,Nat.reduceMul,Nat.reduceSub,Int.reduceLE,Int.reduceLT,Int.reduceBEq,Nat.reduceBEq,reduceCtorEq];obtain⟨T2,hT2⟩:=mkT fun a:(Int×Int)=>⟨18,[(0,(fzE false (eI .i64) p0)),(3,(dI a.1)),(4,(dI a.2))],[]⟩
  refine EvL.rounds (α:=(Int×Int)) T2 (fun n a=>zcP p0 n a.1 a.2=some o1) ((p0.length:Int) - 0+2:Int).toNat (1,0) (by rw[hT2]; exact wm0 [] (by exact trivial)) j1 (fun _ h=>nomatch (show(none:Option Int)=some o1 from h)) ?_;rintro n ⟨v3,v4⟩ j1;simp only[zcP]at j1;rw[congrFun hT2 (v3,v4)];refine zab ?_;try simp only[rnA,Nat.reduceEqDiff,reduceIte,Nat.reduceLT,Nat.reduceAdd,Nat.reduceLeDiff,Nat.reduceMul,Nat.reduceSub,Int.reduceLE,Int.reduceLT,Int.reduceBEq,Nat.reduceBEq,reduceCtorEq,zaj]
  cases c1:(decide (v4<(p0.length:Int)))
  ·rw[c1,cond_false]at j1;try simp only[rnA,Nat.reduceEqDiff,reduceIte,Nat.reduceLT,Nat.reduceAdd,Nat.reduceLeDiff,Nat.reduceMul,Nat.reduceSub,Int.reduceLE,Int.reduceLT,Int.reduceBEq,Nat.reduceBEq,reduceCtorEq,c1]
   replace j1:=qab j1; subst j1;exact lfj hT1 rfl (wm0 [] (by exact trivial))
  rw[c1,cond_true]at j1;obtain⟨x2,g3,j1⟩:=bind_some j1;try simp only[rnA,Nat.reduceEqDiff,reduceIte,Nat.reduceLT,Nat.reduceAdd,Nat.reduceLeDiff,Nat.reduceMul,Nat.reduceSub,Int.reduceLE,Int.reduceLT,Int.reduceBEq,Nat.reduceBEq,reduceCtorEq,zai (n:=1) (e:=(eI .i64)) rfl g3,c1]
  exact⟨((w64 (v3 * x2)),(w64 (v4+1))),j1,by rw[hT2]; exact wm0 [] (by exact trivial)⟩
 rintro v3 rfl;rw[congrFun hT1 v3];refine zab ?_;try simp only[rnA,Nat.reduceEqDiff,reduceIte,Nat.reduceLT,Nat.reduceAdd,Nat.reduceLeDiff,Nat.reduceMul,Nat.reduceSub,Int.reduceLE,Int.reduceLT,Int.reduceBEq,Nat.reduceBEq,reduceCtorEq]
 replace h:=qab h; subst h;exact za6.ret rfl (.lit _)
def zcy(p0:S_api_Net):Nat→Int→(List Int)→Option (List Int)
 | 0,_,_=>none
 | n+1,v4,l1=>(
bif (decide (v4<(p0.nodes.length:Int)))then(
(zaO p0.nodes v4).bind fun x2=>
(zd5 8 l1 [x2.card]).bind fun y4=>
zcy p0 n (w64 (v4+1)) y4)
else(
some l1))
def zcm(p0:S_api_Net):Option (List Int):=
((zcy p0 ((p0.nodes.length:Int) - 0+2:Int).toNat 0 []:Option (List Int))).bind fun l1=>
some l1
theorem zgz{p0:S_api_Net}{r:(List Int)}(h:zcm p0=some r):Lx.Fn mC 55 [(.agg [(dI p0.grain),(fzE false zaa p0.nodes)])] (fzE true (eI .i64) r):=by
 refine fnO (by conv=>lhs; cbv) ?_;unfold zcm at h;refine zab ?_;try simp only[rnA,Nat.reduceLT]
 obtain⟨o1,j1,h⟩:=bind_some h;obtain⟨T1,hT1⟩:=mkT fun a:(List Int)=>⟨22,[(3,(.sl 1 0 1 a.length none a.length))],[.gone,.grow 1 (a.map ((eI .i64).c true))]⟩
 refine EvL.jn T1 (fun a=>a=o1) ?_ ?_
 ·refine zab ?_;simp only[rnA];obtain⟨T2,hT2⟩:=mkT fun a:(Int×(List Int))=>⟨22,[(1,(.ptr 0 0)),(3,(.sl 1 0 1 a.2.length none a.2.length)),(4,(dI a.1))],[.cells [(dI p0.grain),(fzE false zaa p0.nodes)],.grow 1 (a.2.map ((eI .i64).c true))]⟩
  refine EvL.zd1 (zbu.ghost (n:=1) (k:=3) (by decide) rfl) ?_;refine EvL.rounds (α:=(Int×(List Int))) T2 (fun n a=>zcy p0 n a.1 a.2=some o1) ((p0.nodes.length:Int) - 0+2:Int).toNat (0,[]) (by rw[hT2]; exact wm0 [.k,.k] ⟨MB.cs ⟨qcG,qcG,qcG⟩,⟨MB.gs (eI .i64) true [],qcG⟩⟩) j1 (fun _ h=>nomatch (show(none:Option (List Int))=some o1 from h)) ?_;rintro n ⟨v4,l1⟩ j1;simp only[zcy]at j1;rw[congrFun hT2 (v4,l1)];refine zab ?_;try simp only[rnA,Nat.reduceEqDiff,Nat.reduceLT,zaj]
  cases c1:(decide (v4<(p0.nodes.length:Int)))
  ·rw[c1,cond_false]at j1;try simp only[rnA]
   replace j1:=qab j1; subst j1;exact lfj hT1 rfl (wm0 [.d,.k] ⟨rfl,⟨MB.gs (eI .i64) true l1,qcG⟩⟩)
  rw[c1,cond_true]at j1;obtain⟨x2,g3,j1⟩:=bind_some j1;obtain⟨y4,g5,j1⟩:=bind_some j1;try simp only[rnA,Nat.reduceEqDiff,Nat.reduceLT,Nat.reduceAdd,Nat.reduceLeDiff,zac,zai (n:=3) (e:=zaa) rfl g3,zcY g5,(show l1.length+1=y4.length from zb5 g5),(show l1.map ((eI .i64).c true)++ [[(dI x2.card)]]=y4.map ((eI .i64).c true)from zcF g5 ((eI .i64).c true))]
  exact⟨((w64 (v4+1)),y4),j1,by rw[hT2]; exact wm0 [.k,.k] ⟨MB.cs ⟨qcG,qcG,qcG⟩,⟨MB.gs (eI .i64) true y4,qcG⟩⟩⟩
 rintro l1 rfl;rw[congrFun hT1 l1];refine zab ?_;try simp only[rnA,Nat.reduceEqDiff,Nat.reduceLT]
 replace h:=qab h; subst h;exact za6.ret rfl (zal (e:=(eI .i64)) (t:=true) rfl (.inr rfl) rfl rfl (fun k h=>nomatch h) (fun _=>rfl))
def zem(p1:(List Int))(p0:(List Int)):Nat→Int→(List Int)→Option (List Int)
 | 0,_,_=>none
 | n+1,v6,l0=>(
bif (decide (v6<(p1.length:Int)))then(
(zaO p1 v6).bind fun x2=>
(zaO p0 x2).bind fun x4=>
(zd5 8 l0 [x4]).bind fun y6=>
zem p1 p0 n (w64 (v6+1)) y6)
else(
some l0))
def zf6(p0:(List Int))(p1:(List Int)):Option (List Int):=
((zem p1 p0 ((p1.length:Int) - 0+2:Int).toNat 0 []:Option (List Int))).bind fun l0=>
some l0
theorem zo7{p0:(List Int)}{p1:(List Int)}{r:(List Int)}(h:zf6 p0 p1=some r):Lx.Fn mC 81 [(fzE false (eI .i64) p0),(fzE false (eI .i64) p1)] (fzE true (eI .i64) r):=by
 refine fnO (by conv=>lhs; cbv) ?_;unfold zf6 at h;refine zab ?_;try simp only[rnA,Nat.reduceLT,Nat.reduceAdd]
 obtain⟨o1,j1,h⟩:=bind_some h;obtain⟨T1,hT1⟩:=mkT fun a:(List Int)=>⟨24,[(5,(.sl 0 0 1 a.length none a.length))],[.grow 1 (a.map ((eI .i64).c true))]⟩
 refine EvL.jn T1 (fun a=>a=o1) ?_ ?_
 ·refine zab ?_;simp only[rnA];obtain⟨T2,hT2⟩:=mkT fun a:(Int×(List Int))=>⟨24,[(0,(fzE false (eI .i64) p0)),(1,(fzE false (eI .i64) p1)),(5,(.sl 0 0 1 a.2.length none a.2.length)),(6,(dI a.1))],[.grow 1 (a.2.map ((eI .i64).c true))]⟩
  refine EvL.zd1 (zbu.ghost (n:=1) (k:=5) (by decide) rfl) ?_;refine EvL.rounds (α:=(Int×(List Int))) T2 (fun n a=>zem p1 p0 n a.1 a.2=some o1) ((p1.length:Int) - 0+2:Int).toNat (0,[]) (by rw[hT2]; exact wm0 [.k] ⟨MB.gs (eI .i64) true [],qcG⟩) j1 (fun _ h=>nomatch (show(none:Option (List Int))=some o1 from h)) ?_;rintro n ⟨v6,l0⟩ j1;simp only[zem]at j1;rw[congrFun hT2 (v6,l0)];refine zab ?_;try simp only[rnA,Nat.reduceEqDiff,Nat.reduceLT,reduceCtorEq,zaj]
  cases c1:(decide (v6<(p1.length:Int)))
  ·rw[c1,cond_false]at j1;try simp only[rnA]
   replace j1:=qab j1; subst j1;exact lfj hT1 rfl (wm0 [.k] ⟨MB.gs (eI .i64) true l0,qcG⟩)
  rw[c1,cond_true]at j1;obtain⟨x2,g3,j1⟩:=bind_some j1;obtain⟨x4,g5,j1⟩:=bind_some j1;obtain⟨y6,g7,j1⟩:=bind_some j1;try simp only[rnA,Nat.reduceEqDiff,Nat.reduceLT,Nat.reduceLeDiff,reduceCtorEq,zai (n:=1) (e:=(eI .i64)) rfl g3,zai (n:=1) (e:=(eI .i64)) rfl g5,zcY g7,(show l0.length+1=y6.length from zb5 g7),(show l0.map ((eI .i64).c true)++ [[(dI x4)]]=y6.map ((eI .i64).c true)from zcF g7 ((eI .i64).c true))]
  exact⟨((w64 (v6+1)),y6),j1,by rw[hT2]; exact wm0 [.k] ⟨MB.gs (eI .i64) true y6,qcG⟩⟩
 rintro l0 rfl;rw[congrFun hT1 l0];refine zab ?_;try simp only[rnA,Nat.reduceEqDiff,Nat.reduceLT]
 replace h:=qab h; subst h;exact za6.ret rfl (zal (e:=(eI .i64)) (t:=true) rfl (.inr rfl) rfl rfl (fun k h=>nomatch h) (fun _=>rfl))
def zct(p1:Int)(p2:(List Int))(p3:Int):Nat→Int→Int→(List Int)→Option (Int×(List Int))
 | 0,_,_,_=>none
 | n+1,v10,v11,l0=>(
bif (decide (v11<p1))then(
((bif (decide (0<(p2.length:Int)))then(
(zsh (w64 (p3+v11)) (p2.length:Int)).bind fun q5=>
(zaO p2 q5).bind fun x7=>
(zaO l0 v11).bind fun x9=>
(zgG l0 v11 (w64 (x7.tmod 8))).bind fun y11=>
some y11)
else(
some l0):Option (List Int))).bind fun l0'=>
(zaO l0' v11).bind fun x13=>
zct p1 p2 p3 n (w64 (v10+x13)) (w64 (v11+1)) l0')
else(
some (v10,l0)))
def zcT(p1:Int)(p0:Int)(v10:Int):Nat→Int→Int→Int→(List Int)→Option (Int×Int×(List Int))
 | 0,_,_,_,_=>none
 | n+1,v12,v13,v14,l0'=>(
bif (decide (v14<p1))then(
(zaO l0' v14).bind fun x16=>
((bif (decide (0<x16))then(
(ztc .i64 (w64 (p0 * x16)) v10).bind fun q19=>
(zgG l0' v14 q19).bind fun y21=>
some (v14,y21))
else(
some (v13,l0')):Option ((Int×(List Int))))).bind fun o=>match o with
|(v13',l0'')=>(
(zaO l0'' v14).bind fun x23=>
zcT p1 p0 v10 n (w64 (v12 - x23)) v13' (w64 (v14+1)) l0''))
else(
some (v12,v13,l0')))
def ze1(p0:Int)(p1:Int)(p2:(List Int))(p3:Int):Option (List Int):=
(zgl 8 p1 0).bind fun y1=>
((zct p1 p2 p3 (p1 - 0+2:Int).toNat 0 0 y1:Option ((Int×(List Int))))).bind fun o=>match o with
|(v10,l0)=>(
((zcT p1 p0 v10 (p1 - 0+2:Int).toNat p0 0 0 l0:Option ((Int×Int×(List Int))))).bind fun o=>match o with
|(v12,v13,l0')=>(
(zaO l0' v13).bind fun x25=>
(zgG l0' v13 (w64 (x25+v12))).bind fun y27=>
some y27))
theorem znx{p0:Int}{p1:Int}{p2:(List Int)}{p3:Int}{r:(List Int)}(h:ze1 p0 p1 p2 p3=some r):Lx.Fn mC 73 [(dI p0),(dI p1),(fzE false (eI .u8) p2),(dI p3)] (fzE true (eI .i64) r):=by
 refine fnO (by conv=>lhs; cbv) ?_;unfold ze1 at h;refine zab ?_;obtain⟨y1,g2,h⟩:=bind_some h;try simp only[rnA,Nat.reduceEqDiff,Nat.reduceLT,Nat.reduceAdd,reduceCtorEq,(zcJ g2).1.1,(zcJ g2).1.2,qcr,(show List.replicate (Int.toNat p1) [(dI 0)]=y1.map ((eI .i64).c true)from zeO g2 ((eI .i64).c true))]
 obtain⟨o4,j4,h⟩:=bind_some h;obtain⟨T4,hT4⟩:=mkT fun a:(Int×(List Int))=>⟨84,[(0,(dI p0)),(1,(dI p1)),(9,(.sl 0 0 1 (Int.toNat p1) (some (Int.toNat p1)) (Int.toNat p1))),(10,(dI a.1))],[.els 1 (a.2.map ((eI .i64).c true))]⟩
 refine EvL.jn T4 (fun a=>a=o4∧a.2.length=(Int.toNat p1)) ?_ ?_
 ·refine zab ?_;simp only[rnA];obtain⟨T7,hT7⟩:=mkT fun a:(Int×Int×(List Int))=>⟨84,[(0,(dI p0)),(1,(dI p1)),(2,(fzE false (eI .u8) p2)),(3,(dI p3)),(9,(.sl 0 0 1 (Int.toNat p1) (some (Int.toNat p1)) (Int.toNat p1))),(10,(dI a.1)),(11,(dI a.2.1))],[.els 1 (a.2.2.map ((eI .i64).c true))]⟩
  refine EvL.rounds (α:=(Int×Int×(List Int))) T7 (fun n a=>zct p1 p2 p3 n a.1 a.2.1 a.2.2=some o4∧a.2.2.length=(Int.toNat p1)) (p1 - 0+2:Int).toNat (0,0,y1) (by rw[hT7]; exact wm0 [.k] ⟨MB.es (eI .i64) true y1,qcG⟩) ⟨j4,zd4 g2⟩ (fun _ h=>nomatch (show(none:Option (Int×(List Int)))=some o4 from h.1)) ?_;rintro n ⟨v10,v11,l0⟩ ⟨j4,el0⟩;simp only[zct]at j4;rw[congrFun hT7 (v10,v11,l0)];refine zab ?_;try simp only[rnA,Nat.reduceEqDiff,Nat.reduceLT,reduceCtorEq]
  cases c3:(decide (v11<p1))
  ·rw[c3,cond_false]at j4;try simp only[rnA]
   replace j4:=qab j4; subst j4;exact⟨_,⟨rfl,el0⟩,by rw[hT4]; exact wm0 [.k] ⟨MB.es (eI .i64) true l0,qcG⟩⟩
  rw[c3,cond_true]at j4;try simp only[rnA,Nat.reduceEqDiff,Nat.reduceLT,reduceCtorEq,zaj]
  obtain⟨o8,j8,j4⟩:=bind_some j4;obtain⟨T8,hT8⟩:=mkT fun a:(List Int)=>⟨84,[(0,(dI p0)),(1,(dI p1)),(2,(fzE false (eI .u8) p2)),(3,(dI p3)),(9,(.sl 0 0 1 (Int.toNat p1) (some (Int.toNat p1)) (Int.toNat p1))),(10,(dI v10)),(11,(dI v11))],[.els 1 (a.map ((eI .i64).c true))]⟩
  refine EvL.jn T8 (fun a=>a=o8∧a.length=(Int.toNat p1)) ?_ ?_
  ·refine zab ?_;try simp only[rnA,Nat.reduceEqDiff,reduceCtorEq]
   cases c4:(decide (0<(p2.length:Int)))
   ·rw[c4,cond_false]at j8;try simp only[rnA]
    replace j8:=qab j8; subst j8;exact⟨_,⟨rfl,el0⟩,by rw[hT8]; exact wm0 [.k] ⟨MB.es (eI .i64) true l0,qcG⟩⟩
   rw[c4,cond_true]at j8;obtain⟨q5,g6,j8⟩:=bind_some j8;obtain⟨x7,g8,j8⟩:=bind_some j8;obtain⟨x9,g10,j8⟩:=bind_some j8;obtain⟨y11,g12,j8⟩:=bind_some j8;try simp only[rnA,Nat.reduceEqDiff,Nat.reduceLT,Nat.reduceLeDiff,Int.reduceBEq,reduceCtorEq,zaj,zmb g6,zpA g6,zai (n:=1) (e:=(eI .u8)) rfl g8,el0,zbP g10,(show v11<(((Int.toNat p1):Nat):Int)from el0 ▸ zcq g10),zbv g10 ((eI .i64).c true),(show(l0.map ((eI .i64).c true)).set v11.toNat [(dI (w64 (x7.tmod 8)))]=y11.map ((eI .i64).c true)from zcX g12 ((eI .i64).c true))]
   replace j8:=qab j8; subst j8;exact⟨_,⟨rfl,(zcE g12).trans el0⟩,by rw[hT8]; exact wm0 [.k] ⟨MB.es (eI .i64) true y11,qcG⟩⟩
  rintro l0' ⟨rfl,el0'⟩;rw[congrFun hT8 l0'];refine zab ?_;obtain⟨x13,g14,j4⟩:=bind_some j4;try simp only[rnA,Nat.reduceEqDiff,Nat.reduceLT,reduceCtorEq,el0',zbP g14,(show v11<(((Int.toNat p1):Nat):Int)from el0' ▸ zcq g14),zbv g14 ((eI .i64).c true)]
  exact⟨((w64 (v10+x13)),(w64 (v11+1)),l0'),⟨j4,el0'⟩,by rw[hT7]; exact wm0 [.k] ⟨MB.es (eI .i64) true l0',qcG⟩⟩
 rintro⟨v10,l0⟩ ⟨rfl,el0⟩;dsimp only at h;rw[congrFun hT4 (v10,l0)];refine zab ?_;try simp only[rnA,Nat.reduceEqDiff,Nat.reduceLT,reduceCtorEq]
 obtain⟨o13,j13,h⟩:=bind_some h;obtain⟨T13,hT13⟩:=mkT fun a:(Int×Int×(List Int))=>⟨84,[(9,(.sl 0 0 1 (Int.toNat p1) (some (Int.toNat p1)) (Int.toNat p1))),(12,(dI a.1)),(13,(dI a.2.1))],[.els 1 (a.2.2.map ((eI .i64).c true))]⟩
 refine EvL.jn T13 (fun a=>a=o13∧a.2.2.length=(Int.toNat p1)) ?_ ?_
 ·refine zab ?_;simp only[rnA];obtain⟨T17,hT17⟩:=mkT fun a:(Int×Int×Int×(List Int))=>⟨84,[(0,(dI p0)),(1,(dI p1)),(9,(.sl 0 0 1 (Int.toNat p1) (some (Int.toNat p1)) (Int.toNat p1))),(10,(dI v10)),(12,(dI a.1)),(13,(dI a.2.1)),(14,(dI a.2.2.1))],[.els 1 (a.2.2.2.map ((eI .i64).c true))]⟩
  refine EvL.rounds (α:=(Int×Int×Int×(List Int))) T17 (fun n a=>zcT p1 p0 v10 n a.1 a.2.1 a.2.2.1 a.2.2.2=some o13∧a.2.2.2.length=(Int.toNat p1)) (p1 - 0+2:Int).toNat (p0,0,0,l0) (by rw[hT17]; exact wm0 [.k] ⟨MB.es (eI .i64) true l0,qcG⟩) ⟨j13,el0⟩ (fun _ h=>nomatch (show(none:Option (Int×Int×(List Int)))=some o13 from h.1)) ?_;rintro n ⟨v12,v13,v14,l0'⟩ ⟨j13,el0'⟩;simp only[zcT]at j13;rw[congrFun hT17 (v12,v13,v14,l0')];refine zab ?_;try simp only[rnA,Nat.reduceEqDiff,Nat.reduceLT,reduceCtorEq]
  cases c15:(decide (v14<p1))
  ·rw[c15,cond_false]at j13;try simp only[rnA]
   replace j13:=qab j13; subst j13;exact⟨_,⟨rfl,el0'⟩,by rw[hT13]; exact wm0 [.k] ⟨MB.es (eI .i64) true l0',qcG⟩⟩
  rw[c15,cond_true]at j13;obtain⟨x16,g17,j13⟩:=bind_some j13;try simp only[rnA,Nat.reduceEqDiff,Nat.reduceLT,reduceCtorEq,el0',zbP g17,(show v14<(((Int.toNat p1):Nat):Int)from el0' ▸ zcq g17),zbv g17 ((eI .i64).c true)]
  obtain⟨o18,j18,j13⟩:=bind_some j13;obtain⟨T18,hT18⟩:=mkT fun a:(Int×(List Int))=>⟨84,[(0,(dI p0)),(1,(dI p1)),(9,(.sl 0 0 1 (Int.toNat p1) (some (Int.toNat p1)) (Int.toNat p1))),(10,(dI v10)),(12,(dI v12)),(13,(dI a.1)),(14,(dI v14))],[.els 1 (a.2.map ((eI .i64).c true))]⟩
  refine EvL.jn T18 (fun a=>a=o18∧a.2.length=(Int.toNat p1)) ?_ ?_
  ·refine zab ?_;try simp only[rnA,Nat.reduceEqDiff,reduceCtorEq]
   cases c18:(decide (0<x16))
   ·rw[c18,cond_false]at j18;try simp only[rnA]
    replace j18:=qab j18; subst j18;exact⟨_,⟨rfl,el0'⟩,by rw[hT18]; exact wm0 [.k] ⟨MB.es (eI .i64) true l0',qcG⟩⟩
   rw[c18,cond_true]at j18;obtain⟨q19,g20,j18⟩:=bind_some j18;obtain⟨y21,g22,j18⟩:=bind_some j18;try simp only[rnA,Nat.reduceEqDiff,Nat.reduceLT,Nat.reduceLeDiff,reduceCtorEq,el0',zbP g17,(show v14<(((Int.toNat p1):Nat):Int)from el0' ▸ zcq g17),zbv g17 ((eI .i64).c true),zpo g20,zs8 g20,(show(l0'.map ((eI .i64).c true)).set v14.toNat [(dI q19)]=y21.map ((eI .i64).c true)from zcX g22 ((eI .i64).c true))]
   replace j18:=qab j18; subst j18;exact⟨_,⟨rfl,(zcE g22).trans el0'⟩,by rw[hT18]; exact wm0 [.k] ⟨MB.es (eI .i64) true y21,qcG⟩⟩
  rintro⟨v13',l0''⟩ ⟨rfl,el0''⟩;dsimp only at j13;rw[congrFun hT18 (v13',l0'')];refine zab ?_;obtain⟨x23,g24,j13⟩:=bind_some j13;try simp only[rnA,Nat.reduceEqDiff,Nat.reduceLT,reduceCtorEq,el0'',zbP g24,(show v14<(((Int.toNat p1):Nat):Int)from el0'' ▸ zcq g24),zbv g24 ((eI .i64).c true)]
  exact⟨((w64 (v12 - x23)),v13',(w64 (v14+1)),l0''),⟨j13,el0''⟩,by rw[hT17]; exact wm0 [.k] ⟨MB.es (eI .i64) true l0'',qcG⟩⟩
 rintro⟨v12,v13,l0'⟩ ⟨rfl,el0'⟩;dsimp only at h;rw[congrFun hT13 (v12,v13,l0')];refine zab ?_;obtain⟨x25,g26,h⟩:=bind_some h;obtain⟨y27,g28,h⟩:=bind_some h;try simp only[rnA,Nat.reduceEqDiff,Nat.reduceLT,Nat.reduceLeDiff,el0',zbP g26,(show v13<(((Int.toNat p1):Nat):Int)from el0' ▸ zcq g26),zbv g26 ((eI .i64).c true),(show(l0'.map ((eI .i64).c true)).set v13.toNat [(dI (w64 (x25+v12)))]=y27.map ((eI .i64).c true)from zcX g28 ((eI .i64).c true))]
 replace h:=qab h; subst h;exact za6.ret rfl (zal (e:=(eI .i64)) (t:=true) rfl (.inl rfl) ((zcE g28).trans el0').symm ((zcE g28).trans el0').symm (fun k h=>by cases h; exact qak _) (fun _=>rfl))
def zr6(num:List Int)(ps8 u k:Int)(ps:List Int):Option Bool:=
 (zaO num k).bind fun x=>bif x == u then((zkr .u8 ps8 (IntKind.u64.wrap k)).bind fun q=>bif znD .u8 q 1 == 1 then some (decide ((ps.length:Int)<3))else some false)else some false
def zma(num:List Int)(i ps8 u:Int):Nat→Int→List Int→Option (List Int)
 | 0,_,_=>none
 | n+1,k,ps=>bif decide (k<i)then((zr6 num ps8 u k ps).bind fun b=>bif b then((zd5 8 ps [u]).bind fun ps2=>zma num i ps8 u n (w64 (k+1)) ps2)else zma num i ps8 u n (w64 (k+1)) ps)else some ps
def znT(num:List Int)(i ps8 count:Int):Nat→Int→List Int→Option (List Int)
 | 0,_,_=>none
 | n+1,u,ps=>bif decide (u<count)then((zma num i ps8 u (i.toNat+2) 0 ps).bind fun ps2=>znT num i ps8 count n (w64 (u+1)) ps2)else some ps
def zlr(num:List Int)(i v count ps8:Int)(nodes:List S_api_Node):Option (List S_api_Node):=
 (zaO nodes v).bind fun x=>bif x.parents.isEmpty then((znT num i ps8 count (count.toNat+2) 0 []).bind fun ps=>zgG nodes v ⟨x.card,ps,x.rows⟩)else none
def zsu:C:=
 (.seq (.seq (rg [oM 101 14,
 oM 102 10,
 oB 103 .lss 101 102])
 (.cond (.s 103) (.skip)
 (.exit 6)))
 (.seq (.block 7 (.seq (.scope (rg [oM 106 5,
 oM 107 14,
 oI 108 1 106 107,
 oL 109 108,
 oM 110 13,
 oB 111 .eql 109 110,
 oM 112 111,
 oFg 113 1 11 112 true,
 oLg 114 113 112 true,
 oMg 115 14 112 true,
 ⟨some 116,.conv .u64 (.s 115),some (112,true)⟩,
 ⟨some 117,.bin .shr (.s 114) (.s 116),some (112,true)⟩,
 ⟨some 118,.bin .and (.s 117) (.c (.int .u8 1)),some (112,true)⟩,
 ⟨some 119,.bin .eql (.s 118) (.c (.int .u8 1)),some (112,true)⟩,
 ⟨some 120,.pick (.s 112) (.s 119) (.c (.bool false)),none⟩,
 oM 121 120,
 oFg 122 1 4 121 true,
 oLg 123 122 121 true,
 oMg 124 12 121 true,
 ⟨some 125,.idxS 3 (.s 123) (.s 124),some (121,true)⟩,
 oFg 126 1 125 121 true,
 oLg 127 126 121 true,
 ⟨some 128,.len (.s 127),some (121,true)⟩,
 oDg 129 .lss 128 3 121 true,
 ⟨some 130,.pick (.s 121) (.s 129) (.c (.bool false)),none⟩]))
 (.scope (.cond (.s 130) (.reg true false [oF 131 1 4,
 oL 132 131,
 oM 133 12,
 oF 134 1 4,
 oL 135 134,
 oM 136 12,
 oI 137 3 135 136,
 oF 138 1 137,
 oL 139 138,
 oM 140 13,
 ⟨some 141,.bsl 1 1 [(.int .i64 0)] [(0,(.s 140))],none⟩,
 ⟨none,.avo [(.s 131)] (.s 139),none⟩,
 oT 142 1 8 139 141,
 oI 143 3 132 133,
 oF 144 1 143,
 oS 1 144 142])
 (.skip)))))
 (rg [oM 104 14,
 oD 105 .add 104 1,
 oM 14 105])))
def zsF:C:=
 (.seq (.seq (rg [oM 96 13,
 oM 97 3,
 oB 98 .lss 96 97])
 (.cond (.s 98) (.skip)
 (.exit 4)))
 (.seq (.block 5 (.seq (rg [oK 14 0])
 (.scope (.block 6 (.loop zsu)))))
 (rg [oM 99 13,
 oD 100 .add 99 1,
 oM 13 100])))
section
variable (b0 b1:LB) (c40 c42:D) (num:List Int) (i v count ps8 grain:Int) (cnt:Nat) (nodes:List S_api_Node) (x:S_api_Node)
end
theorem zvw{k:List K}{Q:LX→LSt→Prop}{b0 b1:LB}{c40 c42:D}{num:List Int}{i v count ps8 grain:Int}{cnt:Nat}{nodes nodes':List S_api_Node}
  (g:zlr num i v count ps8 nodes=some nodes') (hb0:∀ kp,LB.kin kp b0) (hb1:∀ kp,LB.kin kp b1) (hc0:∀ kp,D.kin kp c40) (hc2:∀ kp,D.kin kp c42) (hl:nodes.length=cnt)
  (hk:EvL mC 0 k ⟨187,[(1,.ptr 0 0),(2,.ptr 1 0),(3,dI count),(4,.ptr 3 0),(5,fzE true (eI .i64) num),(10,dI i),(11,.ptr 4 0),(12,dI v)],[b0,b1,.els 3 (nodes'.map (zag.c true)),.cells [dI grain,.sl 2 0 3 cnt (some cnt) cnt],.cells [c40,dU8 ps8,c42]]⟩ Q):
  EvL mC 0 (.code (.scope (.block 4 (.loop zsF))):: k) ⟨187,[(1,.ptr 0 0),(2,.ptr 1 0),(3,dI count),(4,.ptr 3 0),(5,fzE true (eI .i64) num),(10,dI i),(11,.ptr 4 0),(12,dI v),(13,dI 0)],[b0,b1,.els 3 (nodes.map (zag.c true)),.cells [dI grain,.sl 2 0 3 cnt (some cnt) cnt],.cells [c40,dU8 ps8,c42]]⟩ Q:=by
 unfold zlr at g;obtain⟨x,gx,g⟩:=bind_some g;cases hp:x.parents.isEmpty with
 | false=>rw[hp]at g; cases g
 | true=>
 rw[hp,cond_true]at g;obtain⟨ps,gu,g⟩:=bind_some g;have hv0:=zbP gx;have hv1:v<((cnt:Nat):Int):=hl ▸ zcq gx;have hxe:=zbv gx (zag.c true);have hxl:=(qac.1 (zgn gx)).1;have hgs:∀ C:List D,((nodes.map (zag.c true)).set v.toNat C)[v.toNat]? = some C:=fun C=>by rw[qau (by simpa using hxl)]
 obtain⟨HP,hHP⟩:∃ HP:List Int→List LB,HP=(fun a=>[b0,b1,.els 3 ((nodes.map (zag.c true)).set v.toNat [dI x.card,.sl 5 0 1 a.length none a.length,nE true (eL (eI .i64)) x.rows]),.cells [dI grain,.sl 2 0 3 cnt (some cnt) cnt],.cells [c40,dU8 ps8,c42],.grow 1 (a.map ((eI .i64).c true))]):=⟨_,rfl⟩;refine EvL.jn (α:=Unit) (fun _=>⟨187,[(1,.ptr 0 0),(2,.ptr 1 0),(3,dI count),(4,.ptr 3 0),(5,fzE true (eI .i64) num),(10,dI i),(11,.ptr 4 0),(12,dI v)],[b0,b1,.els 3 (nodes'.map (zag.c true)),.cells [dI grain,.sl 2 0 3 cnt (some cnt) cnt],.cells [c40,dU8 ps8,c42]]⟩) (fun _=>True) ?_ (fun _ _=>hk);refine zab ?_;simp only[rnA];refine EvL.zd1 (zbu.zsC (n:=1) (b:=2) (i:=v.toNat) (o:=1) (by decide) rfl hxe (by rw[zdZ,zsD _ _ hp]; rfl)) ?_;obtain⟨T,hT⟩:∃ T:Int×List Int→LSt,T=(fun a=>⟨187,[(1,.ptr 0 0),(2,.ptr 1 0),(3,dI count),(4,.ptr 3 0),(5,fzE true (eI .i64) num),(10,dI i),(11,.ptr 4 0),(12,dI v),(13,dI a.1)],HP a.2⟩):=⟨_,rfl⟩;refine EvL.rounds T (fun n a=>znT num i ps8 count n a.1 a.2=some ps) (count.toNat+2) (0,[]) (by rw[hT,hHP]; exact zbu.sub ⟨rfl,rfl,rfl,rfl,rfl,rfl,rfl,rfl,rfl,qcG⟩) gu (fun _ h=>nomatch h) ?_;rintro n ⟨u,a⟩ h;simp only[znT]at h;rw[congrFun hT (u,a),congrFun hHP a];simp only[zsF,zfw];refine zab ?_;cases c1:decide (u<count)with
 | false=>
  rw[c1,cond_false]at h;cases h;simp only[rnA,Nat.reduceEqDiff,Nat.reduceLT,c1];exact⟨(),qcG,wm0 [.k,.k,.k,.k,.k,.f] ⟨.same (hb0 _),.same (hb1 _),MB.close g (.cons (.same trivial) (.cons (.fr (zqD (t:=true) rfl rfl rfl rfl (fun h=>by cases h<;>rfl))) (.cons (.same (zkl _ _ _ _)) .nil))),MB.cs ⟨qcG,rfl,qcG⟩,MB.cs ⟨hc0 _,qcG,hc2 _,qcG⟩,qcG⟩⟩
 | true=>
  rw[c1,cond_true]at h;obtain⟨a2,gk,h⟩:=bind_some h;simp only[rnA,Nat.reduceEqDiff,Nat.reduceLT,c1];refine EvL.scope (zab ?_);simp only[rnA];obtain⟨TK,hTK⟩:∃ TK:Int×List Int→LSt,TK=(fun a=>⟨187,[(1,.ptr 0 0),(2,.ptr 1 0),(3,dI count),(4,.ptr 3 0),(5,fzE true (eI .i64) num),(10,dI i),(11,.ptr 4 0),(12,dI v),(13,dI u),(14,dI a.1)],HP a.2⟩):=⟨_,rfl⟩;refine EvL.rounds TK (fun n a=>zma num i ps8 u n a.1 a.2=some a2) (i.toNat+2) (0,a) (by rw[hTK,hHP]; exact zbu.sub ⟨rfl,rfl,rfl,rfl,rfl,rfl,rfl,rfl,rfl,rfl,qcG⟩) gk (fun _ h=>nomatch h) ?_;rintro m ⟨kk,b⟩ hk2;simp only[zma]at hk2;rw[congrFun hTK (kk,b),congrFun hHP b];simp only[zsu,zfw];refine zab ?_;cases c2:decide (kk<i)with
  | false=>
   rw[c2,cond_false]at hk2;replace hk2:=qab hk2; subst hk2;simp only[rnA,Nat.reduceEqDiff,Nat.reduceLT,c2];exact⟨(w64 (u+1),b),h,by rw[hT,hHP]; exact zbu.sub ⟨rfl,rfl,rfl,rfl,rfl,rfl,rfl,rfl,rfl,qcG⟩⟩
  | true=>
   rw[c2,cond_true]at hk2;obtain⟨t,gc,hk2⟩:=bind_some hk2;unfold zr6 at gc;obtain⟨y,gy,gc⟩:=bind_some gc;simp only[rnA,Nat.reduceEqDiff,Nat.reduceLT,c2];refine EvL.scope (zab ?_);cases c3:(y == u)with
   | false=>
    rw[c3,cond_false]at gc;replace gc:=qab gc; subst gc;rw[cond_false]at hk2;simp only[rnA,Nat.reduceEqDiff,Nat.reduceLT,c3,zai (n:=1) (e:=(eI .i64)) rfl gy];refine EvL.scope (zab ?_);simp only[rnA,Nat.reduceEqDiff,Nat.reduceLT];exact⟨(w64 (kk+1),b),hk2,by rw[hTK,hHP]; exact zbu.sub ⟨rfl,rfl,rfl,rfl,rfl,rfl,rfl,rfl,rfl,rfl,qcG⟩⟩
   | true=>
    rw[c3,cond_true]at gc;obtain⟨q,gq,gc⟩:=bind_some gc;cases c4:(znD .u8 q 1 == 1)with
    | false=>
     rw[c4,cond_false]at gc;replace gc:=qab gc; subst gc;rw[cond_false]at hk2;simp only[rnA,Nat.reduceEqDiff,Nat.reduceLT,c3,c4,zai (n:=1) (e:=(eI .i64)) rfl gy,(zdO gq).1,(zdO gq).2];refine EvL.scope (zab ?_);simp only[rnA,Nat.reduceEqDiff,Nat.reduceLT];exact⟨(w64 (kk+1),b),hk2,by rw[hTK,hHP]; exact zbu.sub ⟨rfl,rfl,rfl,rfl,rfl,rfl,rfl,rfl,rfl,rfl,qcG⟩⟩
    | true=>
     rw[c4,cond_true]at gc;replace gc:=qab gc; subst gc;simp only[rnA,Nat.reduceEqDiff,Nat.reduceLT,c3,c4,zai (n:=1) (e:=(eI .i64)) rfl gy,(zdO gq).1,(zdO gq).2,hv0,hv1,qan,hl,hgs];refine EvL.scope (zab ?_);cases c5:decide ((b.length:Int)<3)with
     | false=>
      rw[c5,cond_false]at hk2;simp only[rnA,Nat.reduceEqDiff,Nat.reduceLT];exact⟨(w64 (kk+1),b),hk2,by rw[hTK,hHP]; exact zbu.sub ⟨rfl,rfl,rfl,rfl,rfl,rfl,rfl,rfl,rfl,rfl,qcG⟩⟩
     | true=>
      rw[c5,cond_true]at hk2;obtain⟨b2,gb,hk2⟩:=bind_some hk2;simp only[rnA,Nat.reduceEqDiff,Nat.reduceLT,Nat.reduceAdd,Nat.reduceLeDiff,Nat.reduceBEq,hv0,hv1,qan,hl,hgs,qbt,zcY gb,(show b.length+1=b2.length from zb5 gb),(show b.map ((eI .i64).c true)++ [[dI u]]=b2.map ((eI .i64).c true)from zcF gb ((eI .i64).c true))];exact⟨(w64 (kk+1),b2),hk2,by rw[hTK,hHP]; exact wm0 [.k,.k,.k,.k,.k,.k] ⟨.same (hb0 _),.same (hb1 _),MB.opn ⟨qcG,rfl,zkl _ _ _ _,qcG⟩,MB.cs ⟨qcG,rfl,qcG⟩,MB.cs ⟨hc0 _,qcG,hc2 _,qcG⟩,MB.gs (eI .i64) true b2,qcG⟩⟩
theorem ziy{num:List Int}{i v count ps8:Int}{nodes nodes':List S_api_Node}(g:zlr num i v count ps8 nodes=some nodes'):nodes'.length=nodes.length:=by
 unfold zlr at g;obtain⟨x,gx,g⟩:=bind_some g;cases hp:x.parents.isEmpty with
 | false=>rw[hp]at g; cases g
 | true=>
 rw[hp,cond_true]at g;obtain⟨ps,gu,g⟩:=bind_some g;exact zcE g
def zaK(p0:S_api_Net)(p1:Int):Option (List Int):=
(zaO p0.nodes p1).bind fun x1=>
(zcm p0).bind fun r3=>
(zf6 r3 x1.parents).bind fun r5=>
some r5
theorem zdW{p0:S_api_Net}{p1:Int}{r:(List Int)}(h:zaK p0 p1=some r):Lx.Fn mC 49 [(.agg [(dI p0.grain),(fzE false zaa p0.nodes)]),(dI p1)] (fzE true (eI .i64) r):=by
 refine fnO (by conv=>lhs; cbv) ?_;unfold zaK at h;refine zab ?_;obtain⟨x1,g2,h⟩:=bind_some h;obtain⟨r3,g4,h⟩:=bind_some h;try simp only[rnA,Nat.reduceEqDiff,reduceIte,Nat.reduceLT,Nat.reduceAdd,Nat.reduceLeDiff,Nat.reduceMul,Nat.reduceSub,Int.reduceLE,Int.reduceLT,Int.reduceBEq,Nat.reduceBEq,reduceCtorEq,zac,zao,zc6,zai (n:=3) (e:=zaa) rfl g2]
 refine EvL.fn (zgz g4) rfl rfl (.cons (.zcf (.cons (.lit _) (.cons (zan _ _ (fun h=>nomatch h)) .nil))) .nil) ?_;obtain⟨r5,g6,h⟩:=bind_some h;try simp only[rnA,Nat.reduceEqDiff,reduceIte,Nat.reduceLT,Nat.reduceAdd,Nat.reduceLeDiff,Nat.reduceMul,Nat.reduceSub,Int.reduceLE,Int.reduceLT,Int.reduceBEq,Nat.reduceBEq,reduceCtorEq,zac,zao]
 refine EvL.fn (zo7 g6) rfl rfl (.cons (zan _ _ (fun h=>nomatch h)) (.cons (zan _ _ (fun h=>nomatch h)) .nil)) ?_;try simp only[rnA,Nat.reduceEqDiff,reduceIte,Nat.reduceLT,Nat.reduceAdd,Nat.reduceLeDiff,Nat.reduceMul,Nat.reduceSub,Int.reduceLE,Int.reduceLT,Int.reduceBEq,Nat.reduceBEq,reduceCtorEq,zac,zao]
 replace h:=qab h; subst h;exact za6.ret rfl (zan _ _ (fun _=>rfl))
def zn6(grain v:Int)(W:List Int)(nodes:List S_api_Node)(x:S_api_Node):Nat→Int→List (List Int)→Option (List (List Int))
 | 0,_,_=>none
 | n+1,r,rows=>(zgG nodes v ⟨x.card,x.parents,rows⟩).bind fun cur=>
   (zaK ⟨grain,cur⟩ v).bind fun pc=>(zcS pc).bind fun sz=>
   bif decide (r<sz)then((ze1 grain x.card W (w64 (r * w64 (x.card+1)))).bind fun y=>(zd5 24 rows [y]).bind fun rows2=>zn6 grain v W nodes x n (w64 (r+1)) rows2)else some rows
def zlL(N:Nat)(grain v:Int)(W:List Int)(nodes:List S_api_Node):Option (List S_api_Node):=
 (zaO nodes v).bind fun x=>bif x.rows.isEmpty then((zn6 grain v W nodes x N 0 []).bind fun rows=>zgG nodes v ⟨x.card,x.parents,rows⟩)else none
def zsv:C:=
 (.seq (.seq (rg [oM 145 15,
 oN 146 2 4,
 oM 147 12,
 oV 148 49 146 147,
 oU 149 48 148,
 oB 150 .lss 145 149])
 (.cond (.s 150) (.skip)
 (.exit 8)))
 (.seq (.block 9 (.reg true true [oF 153 1 4,
 oL 154 153,
 oM 155 12,
 oF 156 1 4,
 oL 157 156,
 oM 158 12,
 oI 159 3 157 158,
 oF 160 2 159,
 oL 161 160,
 oF 162 0 4,
 oL 163 162,
 oF 164 1 4,
 oL 165 164,
 oM 166 12,
 oI 167 3 165 166,
 oF 168 0 167,
 oL 169 168,
 oF 170 2 11,
 oL 171 170,
 oM 172 15,
 oF 173 1 4,
 oL 174 173,
 oM 175 12,
 oI 176 3 174 175,
 oF 177 0 176,
 oL 178 177,
 oD 179 .add 178 1,
 oB 180 .mul 172 179,
 ⟨some 181,.call 73 [(.s 163),(.s 169),(.s 171),(.s 180)],none⟩,
 ⟨some 182,.bsl 1 1 [(.slice none 0 0)] [(0,(.s 181))],none⟩,
 ⟨none,.avo [(.s 153)] (.s 161),none⟩,
 oT 183 1 24 161 182,
 oI 184 3 154 155,
 oF 185 2 184,
 oS 1 185 183]))
 (rg [oM 151 15,
 oD 152 .add 151 1,
 oM 15 152])))
theorem zuG{L:List LB}{nodes cur:List S_api_Node}{v:Int}{y:S_api_Node}{c:List D}(g:zgG nodes v y=some cur)(hc:Snps L false c (zaa.c false y)):
  Pw (Snp L false) ((nodes.map (zag.c true)).set v.toNat c) (cur.map (zaa.c false)):=by
 rw[← zcX g (zaa.c false)];exact Pw.set (Pw.map (fun x=>⟨(zcC (L:=L) (t:=true) (u:=false) (fun h=>nomatch h) x).len,(zcC (L:=L) (t:=true) (u:=false) (fun h=>nomatch h) x).get⟩) nodes) hc.len hc.get _
theorem zvs{k:List K}{Q:LX→LSt→Prop}{b0 b1:LB}{c40 c41:D}{num W:List Int}{i v count grain:Int}{cnt N:Nat}{nodes nodes':List S_api_Node}
  (g:zlL N grain v W nodes=some nodes') (hb0:∀ kp,LB.kin kp b0) (hb1:∀ kp,LB.kin kp b1) (hc0:∀ kp,D.kin kp c40) (hc1:∀ kp,D.kin kp c41) (hl:nodes.length=cnt)
  (hk:EvL mC 0 k ⟨187,[(1,.ptr 0 0),(2,.ptr 1 0),(3,dI count),(4,.ptr 3 0),(5,fzE true (eI .i64) num),(10,dI i),(11,.ptr 4 0),(12,dI v)],[b0,b1,.els 3 (nodes'.map (zag.c true)),.cells [dI grain,.sl 2 0 3 cnt (some cnt) cnt],.cells [c40,c41,fzE false (eI .u8) W]]⟩ Q):
  EvL mC 0 (.code (.scope (.block 8 (.loop zsv))):: k) ⟨187,[(1,.ptr 0 0),(2,.ptr 1 0),(3,dI count),(4,.ptr 3 0),(5,fzE true (eI .i64) num),(10,dI i),(11,.ptr 4 0),(12,dI v),(15,dI 0)],[b0,b1,.els 3 (nodes.map (zag.c true)),.cells [dI grain,.sl 2 0 3 cnt (some cnt) cnt],.cells [c40,c41,fzE false (eI .u8) W]]⟩ Q:=by
 unfold zlL at g;obtain⟨x,gx,g⟩:=bind_some g;cases hp:x.rows.isEmpty with
 | false=>rw[hp]at g; cases g
 | true=>
 rw[hp,cond_true]at g;obtain⟨rows,gu,g⟩:=bind_some g;have hv0:=zbP gx;have hv1:v<((cnt:Nat):Int):=hl ▸ zcq gx;have hxe:=zbv gx (zag.c true);have hxl:=(qac.1 (zgn gx)).1;have hgs:∀ C:List D,((nodes.map (zag.c true)).set v.toNat C)[v.toNat]? = some C:=fun C=>by rw[qau (by simpa using hxl)]
 refine EvL.jn (α:=Unit) (fun _=>⟨187,[(1,.ptr 0 0),(2,.ptr 1 0),(3,dI count),(4,.ptr 3 0),(5,fzE true (eI .i64) num),(10,dI i),(11,.ptr 4 0),(12,dI v)],[b0,b1,.els 3 (nodes'.map (zag.c true)),.cells [dI grain,.sl 2 0 3 cnt (some cnt) cnt],.cells [c40,c41,fzE false (eI .u8) W]]⟩) (fun _=>True) ?_ (fun _ _=>hk);refine zab ?_;simp only[rnA];refine EvL.zd1 (zbu.zsC (n:=1) (b:=2) (i:=v.toNat) (o:=2) (by decide) rfl hxe (by rw[zdZ,zsD _ _ hp]; rfl)) ?_;obtain⟨T,hT⟩:∃ T:Int×List (List Int)→LSt,T=(fun a=>⟨187,[(1,.ptr 0 0),(2,.ptr 1 0),(3,dI count),(4,.ptr 3 0),(5,fzE true (eI .i64) num),(10,dI i),(11,.ptr 4 0),(12,dI v),(15,dI a.1)],[b0,b1,.els 3 ((nodes.map (zag.c true)).set v.toNat [dI x.card,nE true (eI .i64) x.parents,.sl 5 0 1 a.2.length none a.2.length]),.cells [dI grain,.sl 2 0 3 cnt (some cnt) cnt],.cells [c40,c41,fzE false (eI .u8) W],.grow 1 (a.2.map ((eL (eI .i64)).c true))]⟩):=⟨_,rfl⟩;refine EvL.rounds T (fun n a=>zn6 grain v W nodes x n a.1 a.2=some rows) N (0,[]) (by rw[hT]; exact zbu.sub ⟨rfl,rfl,rfl,rfl,rfl,rfl,rfl,rfl,rfl,qcG⟩) gu (fun _ h=>nomatch h) ?_;rintro n ⟨r,a⟩ h;simp only[zn6]at h;obtain⟨cur,gcur,h⟩:=bind_some h;obtain⟨pc,gpc,h⟩:=bind_some h;obtain⟨sz,gsz,h⟩:=bind_some h;rw[congrFun hT (r,a)];simp only[zsv,zfw];refine zab ?_;simp only[rnA,Nat.reduceEqDiff,Nat.reduceLT,Nat.reduceAdd,Nat.reduceLeDiff];refine EvL.fn (zdW gpc) rfl rfl (.cons (.zcf (.cons (.lit _) (.cons (zas (e:=zaa) rfl (.inl rfl) (by rw[qan,qaB]; exact hl.symm) (by rw[qan,qaB]; exact hl.symm) (fun k h=>by cases h; exact qak _) (zuG gcur (.cons (.lit _) (.cons (zlV _ _ (fun h=>nomatch h)) (.cons (zal (e:=(eL (eI .i64))) (t:=true) rfl (.inr rfl) rfl rfl (fun k h=>nomatch h) (fun h=>nomatch h)) .nil))))) .nil))) (.cons (.lit _) .nil)) ?_;simp only[rnA,Nat.reduceLT];refine EvL.fn (zfv gsz) rfl rfl (.cons (zan _ _ (fun h=>nomatch h)) .nil) ?_;cases c1:decide (r<sz)with
 | false=>
  rw[c1,cond_false]at h;replace h:=qab h; subst h;simp only[rnA,Nat.reduceEqDiff,Nat.reduceLT,c1];exact⟨(),qcG,wm0 [.k,.k,.k,.k,.k,.f] ⟨.same (hb0 _),.same (hb1 _),MB.close g (.cons (.same trivial) (.cons (.same (zkl _ _ _ _)) (.cons (.fr (zqD (t:=true) rfl rfl rfl rfl (fun h=>by cases h<;>rfl))) .nil))),MB.cs ⟨qcG,rfl,qcG⟩,MB.cs ⟨hc0 _,hc1 _,qcG,qcG⟩,qcG⟩⟩
 | true=>
  rw[c1,cond_true]at h;obtain⟨y,gy,h⟩:=bind_some h;obtain⟨b2,gb,h⟩:=bind_some h;simp only[rnA,Nat.reduceEqDiff,Nat.reduceLT,c1,hv0,hv1,qan,hl,hgs];refine EvL.fn (znx gy) rfl rfl (.cons (.lit _) (.cons (.lit _) (.cons (zan _ _ (fun h=>nomatch h)) (.cons (.lit _) .nil)))) ?_;simp only[rnA,Nat.reduceEqDiff,Nat.reduceLT,Nat.reduceAdd,Nat.reduceLeDiff,Nat.reduceBEq,hv0,hv1,qan,hl,hgs,qbt,zcY gb,(show a.length+1=b2.length from zb5 gb),(show a.map ((eL (eI .i64)).c true)++ [[fzE true (eI .i64) y]]=b2.map ((eL (eI .i64)).c true)from zcF gb ((eL (eI .i64)).c true))];exact⟨(w64 (r+1),b2),h,by rw[hT]; exact wm0 [.k,.k,.k,.k,.k,.k] ⟨.same (hb0 _),.same (hb1 _),MB.opn ⟨qcG,zkl _ _ _ _,rfl,qcG⟩,MB.cs ⟨qcG,rfl,qcG⟩,MB.cs ⟨hc0 _,hc1 _,qcG,qcG⟩,MB.gs (eL (eI .i64)) true b2,qcG⟩⟩
theorem znp{N:Nat}{grain v:Int}{W:List Int}{nodes nodes':List S_api_Node}(g:zlL N grain v W nodes=some nodes'):nodes'.length=nodes.length:=by
 unfold zlL at g;obtain⟨x,gx,g⟩:=bind_some g;cases hp:x.rows.isEmpty with
 | false=>rw[hp]at g; cases g
 | true=>
 rw[hp,cond_true]at g;obtain⟨ps,gu,g⟩:=bind_some g;exact zcE g
def zfb(x:S_api_Node):Option S_api_Node:=some x
def zic:C:=
 .seq (rg [oW 1 0,
 ⟨some 2,.mov (.c .nilFunc),none⟩])
 (.seq (rg [⟨some 3,.clo 93 [] [(.s 1)],none⟩,
 oM 2 3])
 (.ret))
theorem zka:zlz mC 79=some (4,zic,[.tmp 2],false):=zc8 (by kernel_rfl)
theorem zlU{x r:S_api_Node}(h:zfb x=some r):Lx.FnA mC 79 [.agg (zaa.c false x)] (.clo 93 [] [.fptr false (zaa.c false r)]):=by
 cases h;refine FnA.of zka (zcH rfl) (qah rfl) ?_;simp only[zic,zfw];refine zab ?_;simp only[rnA,Nat.reduceEqDiff,reduceIte,Nat.reduceLT,Nat.reduceAdd,Nat.reduceLeDiff,Nat.reduceMul,Nat.reduceSub,Int.reduceLE,Int.reduceLT,Int.reduceBEq,Nat.reduceBEq,reduceCtorEq,zac];refine zlJ.ret rfl (.clo rfl rfl (fun i d d' h1 h2=>by simp at h1) fun i d d' h1 h2=>?_);cases i with
 | zero=>
  simp only[qbI,qad]at h1 h2;subst h1;subst h2;exact .ptr rfl (qak _) fun k d d' h3 h4=>by
   rw[qaU]at h3;exact(zaa.snp (L:=_) (t:=false) (t':=false) x id).get k d d' h3 h4
 | succ i=>simp at h1
def zkU:C:=
 (.seq (rg [oB 9 .lss 8 7])
 (.seq (.cond (.s 9) (.skip)
 (.exit 0))
 (.seq (.block 1 (.seq (rg [oM 10 8,
 oI 11 1 6 8,
 oL 12 11,
 oM 3 10,
 oM 4 12])
 (.seq (rg [oM 13 0,
 oM 14 3,
 oM 15 4,
 ⟨some 16,.zbV (.s 13) [(.s 14),(.s 15)],none⟩,
 ⟨some 17,.un .not (.s 16),none⟩])
 (.cond (.s 17) (.ret)
 (.skip)))))
 (rg [oD 18 .add 8 1,
 oM 8 18]))))
def zsr:C:=
 .seq (rg [oF 5 2 1,
 oL 6 5,
 oE 7 6,
 oK 8 0])
 (.scope (.block 0 (.loop zkU)))
theorem zrn:zlz mC 93=some (19,zsr,[],false):=zc8 (by kernel_rfl)
theorem zrH{α:Type}{xs:List α}{i:Nat}{x:α}(h:xs[i]? = some x):(zpY xs)[i]? = some ((i:Int),x):=by
 simp[zpY,h]
theorem zrr{α:Type}(xs:List α):(zpY xs).length=xs.length:=by simp[zpY]
theorem znF{L L1:List LB}(h:L=L1 ++ []):L=L1:=by simpa using h
theorem zjV(x:S_api_Node){u:Unit}(hu:zgC x.rows=some u):Gen mC 93 [] [.fptr false (zaa.c false x)] (zpY x.rows) (fun y n0 args G=>args=[dI y.1,fzE false (eI .i64) y.2]∧G=[]):=by
 intro n0 β P Ps hβ hlen hround L hP;refine zeg.ofM zrn (zcH rfl) (qah rfl) ?_;simp only[zsr,zfw];refine zab ?_;simp only[rnA,Nat.reduceEqDiff,Nat.reduceLT,Nat.reduceAdd,Nat.reduceLeDiff,reduceCtorEq,zac,zaj];refine EvL.scope (zab ?_);simp only[rnA];have hw:∀(i:Nat),(i:Int)<x.rows.length→IntKind.i64.wrap ((i:Int)+1)=((i+1:Nat):Int):=by
  intro i hi;have:=zo2 hu;rw[wrap64 (by omega) (by omega)];omega
 refine EvL.loop (α:=Nat×List LB) (fun a=>⟨19,[(0,.yld β),(6,fzE false (eL (eI .i64)) x.rows),(7,dI x.rows.length),(8,dI a.1)],a.2⟩) (fun a=>P a.1 a.2∧a.1≤x.rows.length) (fun a=>x.rows.length - a.1) (0,L) (zbu.sub ⟨rfl,rfl,rfl,rfl,qcG⟩) ⟨hP,qav _⟩ ?_;rintro⟨i,L'⟩ ⟨hPi,hi⟩;simp only[zkU,zfw];refine zab ?_;cases hc:decide ((i:Int)<(x.rows.length:Int))with
 | false=>
  simp only[rnA,Nat.reduceEqDiff,Nat.reduceLT,reduceCtorEq,hc];refine⟨[],rfl,L',[],by simp,hlen _ _ hPi,.inl ?_⟩;rw[zrr];have h1:=of_decide_eq_false hc;have h2:i=x.rows.length:=by omega
  rw[← h2];exact hPi
 | true=>
  have h1:=of_decide_eq_true hc;have h2:i<x.rows.length:=by omega
  have hg:zaO x.rows (i:Int)=some x.rows[i]:=zc0 h2;simp only[rnA,Nat.reduceEqDiff,Nat.reduceLT,reduceCtorEq,hc,zai (n:=1) (e:=eL (eI .i64)) rfl hg];refine EvL.yield rfl rfl rfl (hround i ((i:Int),x.rows[i]) L' _ [] (zrH (qae h2)) hPi ⟨rfl,rfl⟩|> fun h=>by rw[qaP]at h; exact h) ?_;rintro b L2 ⟨L1,hL2,hl1,hb⟩;have:=znF hL2;subst this;cases b with
  | true=>
   simp only[rnA,Nat.reduceEqDiff,Nat.reduceLT,reduceCtorEq];refine⟨(i+1,L2),⟨hb,h2⟩,?_,zbu.sub ⟨rfl,rfl,rfl,?_,qcG⟩⟩
   ·show x.rows.length - (i+1)<x.rows.length - i; omega
   ·simp only[lk,if_true];rw[hw i h1]
  | false=>
   simp only[rnA,Nat.reduceEqDiff,Nat.reduceLT,reduceCtorEq];exact⟨[],rfl,L2,[],by simp,hl1,.inr hb⟩
def zl0(g:List Int)(again:Int→Int→Option Int)(set:Int):Nat→Int→Int→Option Int
 | 0,_,_=>none
 | n+1,v,r=>bif decide (v<(g.length:Int))then
   (zkr .u64 (ztW .u64 set r) v).bind fun q=>
   bif znD .u64 q 1 == 1 then
    (zmV .u64 1 v).bind fun b=>(zaO g v).bind fun x=>(again x (orI .u64 r b)).bind fun r2=>zl0 g again set n (w64 (v+1)) r2
   else zl0 g again set n (w64 (v+1)) r
  else some r
def zoR(g:List Int):Nat→Int→Int→Option Int
 | 0,_,_=>none
 | n+1,set,r=>zl0 g (zoR g n) set (g.length+2) 0 r
def zf4(N:Nat)(g:List Int)(set:Int):Option Int:=zoR g N set 0
end Go.Dc
