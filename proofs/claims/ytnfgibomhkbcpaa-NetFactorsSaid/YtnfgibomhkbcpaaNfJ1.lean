/-
 What r02_Size computes. Conditions: none.
-/
import Derived.Test.YtnfgibomhkbcpaaNfQt
set_option linter.unusedSimpArgs false
set_option linter.unusedVariables false
set_option maxRecDepth 100000
set_option maxHeartbeats 4000000
namespace Go.Dc
open Go Go.Mx Go.Lx Go.Proofs
def zcm(p0:(List Int)):Nat→Int→Int→Option Int
 | 0,_,_=>none
 | n+1,v3,v4=>(
bif (decide (v4<(p0.length:Int)))then(
(zaP p0 v4).bind fun x2=>
zcm p0 n (w64 (v3 * x2)) (w64 (v4+1)))
else(
some v3))
def zcq(p0:(List Int)):Option Int:=
((zcm p0 ((p0.length:Int) - 0+2:Int).toNat 1 0:Option Int)).bind fun v3=>
some v3
theorem zh7{p0:(List Int)}{r:Int}(h:zcq p0=some r):Lx.Fn mC 82 [(fzE false (eI .i64) p0)] (dI r):=by
 refine fnO (by conv=>lhs; cbv) ?_;unfold zcq at h;refine zab ?_;try simp only[rnA,Nat.reduceEqDiff,reduceIte,Nat.reduceLT,Nat.reduceAdd,Nat.reduceLeDiff,Nat.reduceMul,Nat.reduceSub,Int.reduceLE,Int.reduceLT,Int.reduceBEq,Nat.reduceBEq,reduceCtorEq]
 obtain⟨o1,j1,h⟩:=bind_some h;obtain⟨T1,hT1⟩:=mkT fun a:Int=>⟨18,[(3,(dI a))],[]⟩
 refine EvL.jn T1 (fun a=>a=o1) ?_ ?_
 ·refine zab ?_;simp only[rnA,Nat.reduceEqDiff,reduceIte,Nat.reduceLT,Nat.reduceAdd,Nat.reduceLeDiff,Nat.reduceMul,Nat.reduceSub,Int.reduceLE,Int.reduceLT,Int.reduceBEq,Nat.reduceBEq,reduceCtorEq];obtain⟨T2,hT2⟩:=mkT fun a:(Int×Int)=>⟨18,[(0,(fzE false (eI .i64) p0)),(3,(dI a.1)),(4,(dI a.2))],[]⟩
  refine EvL.rounds (α:=(Int×Int)) T2 (fun n a=>zcm p0 n a.1 a.2=some o1) ((p0.length:Int) - 0+2:Int).toNat (1,0) (by rw[hT2]; exact wm0 [] (by exact trivial)) j1 (fun _ h=>nomatch (show(none:Option Int)=some o1 from h)) ?_;rintro n ⟨v3,v4⟩ j1;simp only[zcm]at j1;rw[congrFun hT2 (v3,v4)];refine zab ?_;try simp only[rnA,Nat.reduceEqDiff,reduceIte,Nat.reduceLT,Nat.reduceAdd,Nat.reduceLeDiff,Nat.reduceMul,Nat.reduceSub,Int.reduceLE,Int.reduceLT,Int.reduceBEq,Nat.reduceBEq,reduceCtorEq,zam]
  cases c1:(decide (v4<(p0.length:Int)))
  ·rw[c1,cond_false]at j1;try simp only[rnA,Nat.reduceEqDiff,reduceIte,Nat.reduceLT,Nat.reduceAdd,Nat.reduceLeDiff,Nat.reduceMul,Nat.reduceSub,Int.reduceLE,Int.reduceLT,Int.reduceBEq,Nat.reduceBEq,reduceCtorEq,c1]
   replace j1:=qac j1; subst j1;exact lfj hT1 rfl (wm0 [] (by exact trivial))
  rw[c1,cond_true]at j1;obtain⟨x2,g3,j1⟩:=bind_some j1;try simp only[rnA,Nat.reduceEqDiff,reduceIte,Nat.reduceLT,Nat.reduceAdd,Nat.reduceLeDiff,Nat.reduceMul,Nat.reduceSub,Int.reduceLE,Int.reduceLT,Int.reduceBEq,Nat.reduceBEq,reduceCtorEq,zak (n:=1) (e:=(eI .i64)) rfl g3,c1]
  exact⟨((w64 (v3 * x2)),(w64 (v4+1))),j1,by rw[hT2]; exact wm0 [] (by exact trivial)⟩
 rintro v3 rfl;rw[congrFun hT1 v3];refine zab ?_;try simp only[rnA,Nat.reduceEqDiff,reduceIte,Nat.reduceLT,Nat.reduceAdd,Nat.reduceLeDiff,Nat.reduceMul,Nat.reduceSub,Int.reduceLE,Int.reduceLT,Int.reduceBEq,Nat.reduceBEq,reduceCtorEq]
 replace h:=qac h; subst h;exact zbO.ret rfl (.lit _)
def zew(p1:(List Int))(p0:(List Int)):Nat→Int→(List Int)→Option (List Int)
 | 0,_,_=>none
 | n+1,v6,l0=>(
bif (decide (v6<(p1.length:Int)))then(
(zaP p1 v6).bind fun x2=>
(zaP p0 x2).bind fun x4=>
(zcW 8 l0 [x4]).bind fun y6=>
zew p1 p0 n (w64 (v6+1)) y6)
else(
some l0))
def zeI(p0:(List Int))(p1:(List Int)):Option (List Int):=
((zew p1 p0 ((p1.length:Int) - 0+2:Int).toNat 0 []:Option (List Int))).bind fun l0=>
some l0
theorem zlp{p0:(List Int)}{p1:(List Int)}{r:(List Int)}(h:zeI p0 p1=some r):Lx.Fn mC 129 [(fzE false (eI .i64) p0),(fzE false (eI .i64) p1)] (fzE true (eI .i64) r):=by
 refine fnO (by conv=>lhs; cbv) ?_;unfold zeI at h;refine zab ?_;try simp only[rnA,Nat.reduceLT,Nat.reduceAdd]
 obtain⟨o1,j1,h⟩:=bind_some h;obtain⟨T1,hT1⟩:=mkT fun a:(List Int)=>⟨24,[(5,(.sl 0 0 1 a.length none a.length))],[.grow 1 (a.map ((eI .i64).c true))]⟩
 refine EvL.jn T1 (fun a=>a=o1) ?_ ?_
 ·refine zab ?_;simp only[rnA];obtain⟨T2,hT2⟩:=mkT fun a:(Int×(List Int))=>⟨24,[(0,(fzE false (eI .i64) p0)),(1,(fzE false (eI .i64) p1)),(5,(.sl 0 0 1 a.2.length none a.2.length)),(6,(dI a.1))],[.grow 1 (a.2.map ((eI .i64).c true))]⟩
  refine EvL.zdJ (zbx.ghost (n:=1) (k:=5) (by decide) rfl) ?_;refine EvL.rounds (α:=(Int×(List Int))) T2 (fun n a=>zew p1 p0 n a.1 a.2=some o1) ((p1.length:Int) - 0+2:Int).toNat (0,[]) (by rw[hT2]; exact wm0 [.k] ⟨MB.gs (eI .i64) true [],qdc⟩) j1 (fun _ h=>nomatch (show(none:Option (List Int))=some o1 from h)) ?_;rintro n ⟨v6,l0⟩ j1;simp only[zew]at j1;rw[congrFun hT2 (v6,l0)];refine zab ?_;try simp only[rnA,Nat.reduceEqDiff,Nat.reduceLT,reduceCtorEq,zam]
  cases c1:(decide (v6<(p1.length:Int)))
  ·rw[c1,cond_false]at j1;try simp only[rnA]
   replace j1:=qac j1; subst j1;exact lfj hT1 rfl (wm0 [.k] ⟨MB.gs (eI .i64) true l0,qdc⟩)
  rw[c1,cond_true]at j1;obtain⟨x2,g3,j1⟩:=bind_some j1;obtain⟨x4,g5,j1⟩:=bind_some j1;obtain⟨y6,g7,j1⟩:=bind_some j1;try simp only[rnA,Nat.reduceEqDiff,Nat.reduceLT,Nat.reduceLeDiff,reduceCtorEq,zak (n:=1) (e:=(eI .i64)) rfl g3,zak (n:=1) (e:=(eI .i64)) rfl g5,zbP g7,(show l0.length+1=y6.length from zbf g7),(show l0.map ((eI .i64).c true)++ [[(dI x4)]]=y6.map ((eI .i64).c true)from zbG g7 ((eI .i64).c true))]
  exact⟨((w64 (v6+1)),y6),j1,by rw[hT2]; exact wm0 [.k] ⟨MB.gs (eI .i64) true y6,qdc⟩⟩
 rintro l0 rfl;rw[congrFun hT1 l0];refine zab ?_;try simp only[rnA,Nat.reduceEqDiff,Nat.reduceLT]
 replace h:=qac h; subst h;exact zbO.ret rfl (zal (e:=(eI .i64)) (t:=true) rfl (.inr rfl) rfl rfl (fun k h=>nomatch h) (fun _=>rfl))
def zcM(p0:S_api_Net):Nat→Int→(List Int)→Option (List Int)
 | 0,_,_=>none
 | n+1,v4,l1=>(
bif (decide (v4<(p0.nodes.length:Int)))then(
(zaP p0.nodes v4).bind fun x2=>
(zcW 8 l1 [x2.card]).bind fun y4=>
zcM p0 n (w64 (v4+1)) y4)
else(
some l1))
def zdT(p0:S_api_Net):Option (List Int):=
((zcM p0 ((p0.nodes.length:Int) - 0+2:Int).toNat 0 []:Option (List Int))).bind fun l1=>
some l1
theorem zkx{p0:S_api_Net}{r:(List Int)}(h:zdT p0=some r):Lx.Fn mC 130 [(.agg [(dI p0.grain),(fzE false zaa p0.nodes)])] (fzE true (eI .i64) r):=by
 refine fnO (by conv=>lhs; cbv) ?_;unfold zdT at h;refine zab ?_;try simp only[rnA,Nat.reduceLT]
 obtain⟨o1,j1,h⟩:=bind_some h;obtain⟨T1,hT1⟩:=mkT fun a:(List Int)=>⟨22,[(3,(.sl 1 0 1 a.length none a.length))],[.gone,.grow 1 (a.map ((eI .i64).c true))]⟩
 refine EvL.jn T1 (fun a=>a=o1) ?_ ?_
 ·refine zab ?_;simp only[rnA];obtain⟨T2,hT2⟩:=mkT fun a:(Int×(List Int))=>⟨22,[(1,(.ptr 0 0)),(3,(.sl 1 0 1 a.2.length none a.2.length)),(4,(dI a.1))],[.cells [(dI p0.grain),(fzE false zaa p0.nodes)],.grow 1 (a.2.map ((eI .i64).c true))]⟩
  refine EvL.zdJ (zbx.ghost (n:=1) (k:=3) (by decide) rfl) ?_;refine EvL.rounds (α:=(Int×(List Int))) T2 (fun n a=>zcM p0 n a.1 a.2=some o1) ((p0.nodes.length:Int) - 0+2:Int).toNat (0,[]) (by rw[hT2]; exact wm0 [.k,.k] ⟨MB.cs ⟨qdc,qdc,qdc⟩,⟨MB.gs (eI .i64) true [],qdc⟩⟩) j1 (fun _ h=>nomatch (show(none:Option (List Int))=some o1 from h)) ?_;rintro n ⟨v4,l1⟩ j1;simp only[zcM]at j1;rw[congrFun hT2 (v4,l1)];refine zab ?_;try simp only[rnA,Nat.reduceEqDiff,Nat.reduceLT,zam]
  cases c1:(decide (v4<(p0.nodes.length:Int)))
  ·rw[c1,cond_false]at j1;try simp only[rnA]
   replace j1:=qac j1; subst j1;exact lfj hT1 rfl (wm0 [.d,.k] ⟨rfl,⟨MB.gs (eI .i64) true l1,qdc⟩⟩)
  rw[c1,cond_true]at j1;obtain⟨x2,g3,j1⟩:=bind_some j1;obtain⟨y4,g5,j1⟩:=bind_some j1;try simp only[rnA,Nat.reduceEqDiff,Nat.reduceLT,Nat.reduceAdd,Nat.reduceLeDiff,zad,zak (n:=3) (e:=zaa) rfl g3,zbP g5,(show l1.length+1=y4.length from zbf g5),(show l1.map ((eI .i64).c true)++ [[(dI x2.card)]]=y4.map ((eI .i64).c true)from zbG g5 ((eI .i64).c true))]
  exact⟨((w64 (v4+1)),y4),j1,by rw[hT2]; exact wm0 [.k,.k] ⟨MB.cs ⟨qdc,qdc,qdc⟩,⟨MB.gs (eI .i64) true y4,qdc⟩⟩⟩
 rintro l1 rfl;rw[congrFun hT1 l1];refine zab ?_;try simp only[rnA,Nat.reduceEqDiff,Nat.reduceLT]
 replace h:=qac h; subst h;exact zbO.ret rfl (zal (e:=(eI .i64)) (t:=true) rfl (.inr rfl) rfl rfl (fun k h=>nomatch h) (fun _=>rfl))
def zcS(p1:Int)(p2:(List Int))(p3:Int):Nat→Int→Int→(List Int)→Option (Int×(List Int))
 | 0,_,_,_=>none
 | n+1,v10,v11,l0=>(
bif (decide (v11<p1))then(
((bif (decide (0<(p2.length:Int)))then(
(zoO (w64 (p3+v11)) (p2.length:Int)).bind fun q5=>
(zaP p2 q5).bind fun x7=>
(zaP l0 v11).bind fun x9=>
(zfP l0 v11 (w64 (x7.tmod 8))).bind fun y11=>
some y11)
else(
some l0):Option (List Int))).bind fun l0'=>
(zaP l0' v11).bind fun x13=>
zcS p1 p2 p3 n (w64 (v10+x13)) (w64 (v11+1)) l0')
else(
some (v10,l0)))
def zdb(p1:Int)(p0:Int)(v10:Int):Nat→Int→Int→Int→(List Int)→Option (Int×Int×(List Int))
 | 0,_,_,_,_=>none
 | n+1,v12,v13,v14,l0'=>(
bif (decide (v14<p1))then(
(zaP l0' v14).bind fun x16=>
((bif (decide (0<x16))then(
(zsp .i64 (w64 (p0 * x16)) v10).bind fun q19=>
(zfP l0' v14 q19).bind fun y21=>
some (v14,y21))
else(
some (v13,l0')):Option ((Int×(List Int))))).bind fun o=>match o with
|(v13',l0'')=>(
(zaP l0'' v14).bind fun x23=>
zdb p1 p0 v10 n (w64 (v12 - x23)) v13' (w64 (v14+1)) l0''))
else(
some (v12,v13,l0')))
def zfm(p0:Int)(p1:Int)(p2:(List Int))(p3:Int):Option (List Int):=
(zfB 8 p1 0).bind fun y1=>
((zcS p1 p2 p3 (p1 - 0+2:Int).toNat 0 0 y1:Option ((Int×(List Int))))).bind fun o=>match o with
|(v10,l0)=>(
((zdb p1 p0 v10 (p1 - 0+2:Int).toNat p0 0 0 l0:Option ((Int×Int×(List Int))))).bind fun o=>match o with
|(v12,v13,l0')=>(
(zaP l0' v13).bind fun x25=>
(zfP l0' v13 (w64 (x25+v12))).bind fun y27=>
some y27))
theorem zoS{p0:Int}{p1:Int}{p2:(List Int)}{p3:Int}{r:(List Int)}(h:zfm p0 p1 p2 p3=some r):Lx.Fn mC 110 [(dI p0),(dI p1),(fzE false (eI .u8) p2),(dI p3)] (fzE true (eI .i64) r):=by
 refine fnO (by conv=>lhs; cbv) ?_;unfold zfm at h;refine zab ?_;obtain⟨y1,g2,h⟩:=bind_some h;try simp only[rnA,Nat.reduceEqDiff,Nat.reduceLT,Nat.reduceAdd,reduceCtorEq,(za8 g2).1.1,(za8 g2).1.2,qce,(show List.replicate (Int.toNat p1) [(dI 0)]=y1.map ((eI .i64).c true)from zdy g2 ((eI .i64).c true))]
 obtain⟨o4,j4,h⟩:=bind_some h;obtain⟨T4,hT4⟩:=mkT fun a:(Int×(List Int))=>⟨84,[(0,(dI p0)),(1,(dI p1)),(9,(.sl 0 0 1 (Int.toNat p1) (some (Int.toNat p1)) (Int.toNat p1))),(10,(dI a.1))],[.els 1 (a.2.map ((eI .i64).c true))]⟩
 refine EvL.jn T4 (fun a=>a=o4∧a.2.length=(Int.toNat p1)) ?_ ?_
 ·refine zab ?_;simp only[rnA];obtain⟨T7,hT7⟩:=mkT fun a:(Int×Int×(List Int))=>⟨84,[(0,(dI p0)),(1,(dI p1)),(2,(fzE false (eI .u8) p2)),(3,(dI p3)),(9,(.sl 0 0 1 (Int.toNat p1) (some (Int.toNat p1)) (Int.toNat p1))),(10,(dI a.1)),(11,(dI a.2.1))],[.els 1 (a.2.2.map ((eI .i64).c true))]⟩
  refine EvL.rounds (α:=(Int×Int×(List Int))) T7 (fun n a=>zcS p1 p2 p3 n a.1 a.2.1 a.2.2=some o4∧a.2.2.length=(Int.toNat p1)) (p1 - 0+2:Int).toNat (0,0,y1) (by rw[hT7]; exact wm0 [.k] ⟨MB.es (eI .i64) true y1,qdc⟩) ⟨j4,zcl g2⟩ (fun _ h=>nomatch (show(none:Option (Int×(List Int)))=some o4 from h.1)) ?_;rintro n ⟨v10,v11,l0⟩ ⟨j4,el0⟩;simp only[zcS]at j4;rw[congrFun hT7 (v10,v11,l0)];refine zab ?_;try simp only[rnA,Nat.reduceEqDiff,Nat.reduceLT,reduceCtorEq]
  cases c3:(decide (v11<p1))
  ·rw[c3,cond_false]at j4;try simp only[rnA]
   replace j4:=qac j4; subst j4;exact⟨_,⟨rfl,el0⟩,by rw[hT4]; exact wm0 [.k] ⟨MB.es (eI .i64) true l0,qdc⟩⟩
  rw[c3,cond_true]at j4;try simp only[rnA,Nat.reduceEqDiff,Nat.reduceLT,reduceCtorEq,zam]
  obtain⟨o8,j8,j4⟩:=bind_some j4;obtain⟨T8,hT8⟩:=mkT fun a:(List Int)=>⟨84,[(0,(dI p0)),(1,(dI p1)),(2,(fzE false (eI .u8) p2)),(3,(dI p3)),(9,(.sl 0 0 1 (Int.toNat p1) (some (Int.toNat p1)) (Int.toNat p1))),(10,(dI v10)),(11,(dI v11))],[.els 1 (a.map ((eI .i64).c true))]⟩
  refine EvL.jn T8 (fun a=>a=o8∧a.length=(Int.toNat p1)) ?_ ?_
  ·refine zab ?_;try simp only[rnA,Nat.reduceEqDiff,reduceCtorEq]
   cases c4:(decide (0<(p2.length:Int)))
   ·rw[c4,cond_false]at j8;try simp only[rnA]
    replace j8:=qac j8; subst j8;exact⟨_,⟨rfl,el0⟩,by rw[hT8]; exact wm0 [.k] ⟨MB.es (eI .i64) true l0,qdc⟩⟩
   rw[c4,cond_true]at j8;obtain⟨q5,g6,j8⟩:=bind_some j8;obtain⟨x7,g8,j8⟩:=bind_some j8;obtain⟨x9,g10,j8⟩:=bind_some j8;obtain⟨y11,g12,j8⟩:=bind_some j8;try simp only[rnA,Nat.reduceEqDiff,Nat.reduceLT,Nat.reduceLeDiff,Int.reduceBEq,reduceCtorEq,zam,zl8 g6,zmh g6,zak (n:=1) (e:=(eI .u8)) rfl g8,el0,zbk g10,(show v11<(((Int.toNat p1):Nat):Int)from el0 ▸ zbD g10),zaZ g10 ((eI .i64).c true),(show(l0.map ((eI .i64).c true)).set v11.toNat [(dI (w64 (x7.tmod 8)))]=y11.map ((eI .i64).c true)from zb1 g12 ((eI .i64).c true))]
   replace j8:=qac j8; subst j8;exact⟨_,⟨rfl,(zbd g12).trans el0⟩,by rw[hT8]; exact wm0 [.k] ⟨MB.es (eI .i64) true y11,qdc⟩⟩
  rintro l0' ⟨rfl,el0'⟩;rw[congrFun hT8 l0'];refine zab ?_;obtain⟨x13,g14,j4⟩:=bind_some j4;try simp only[rnA,Nat.reduceEqDiff,Nat.reduceLT,reduceCtorEq,el0',zbk g14,(show v11<(((Int.toNat p1):Nat):Int)from el0' ▸ zbD g14),zaZ g14 ((eI .i64).c true)]
  exact⟨((w64 (v10+x13)),(w64 (v11+1)),l0'),⟨j4,el0'⟩,by rw[hT7]; exact wm0 [.k] ⟨MB.es (eI .i64) true l0',qdc⟩⟩
 rintro⟨v10,l0⟩ ⟨rfl,el0⟩;dsimp only at h;rw[congrFun hT4 (v10,l0)];refine zab ?_;try simp only[rnA,Nat.reduceEqDiff,Nat.reduceLT,reduceCtorEq]
 obtain⟨o13,j13,h⟩:=bind_some h;obtain⟨T13,hT13⟩:=mkT fun a:(Int×Int×(List Int))=>⟨84,[(9,(.sl 0 0 1 (Int.toNat p1) (some (Int.toNat p1)) (Int.toNat p1))),(12,(dI a.1)),(13,(dI a.2.1))],[.els 1 (a.2.2.map ((eI .i64).c true))]⟩
 refine EvL.jn T13 (fun a=>a=o13∧a.2.2.length=(Int.toNat p1)) ?_ ?_
 ·refine zab ?_;simp only[rnA];obtain⟨T17,hT17⟩:=mkT fun a:(Int×Int×Int×(List Int))=>⟨84,[(0,(dI p0)),(1,(dI p1)),(9,(.sl 0 0 1 (Int.toNat p1) (some (Int.toNat p1)) (Int.toNat p1))),(10,(dI v10)),(12,(dI a.1)),(13,(dI a.2.1)),(14,(dI a.2.2.1))],[.els 1 (a.2.2.2.map ((eI .i64).c true))]⟩
  refine EvL.rounds (α:=(Int×Int×Int×(List Int))) T17 (fun n a=>zdb p1 p0 v10 n a.1 a.2.1 a.2.2.1 a.2.2.2=some o13∧a.2.2.2.length=(Int.toNat p1)) (p1 - 0+2:Int).toNat (p0,0,0,l0) (by rw[hT17]; exact wm0 [.k] ⟨MB.es (eI .i64) true l0,qdc⟩) ⟨j13,el0⟩ (fun _ h=>nomatch (show(none:Option (Int×Int×(List Int)))=some o13 from h.1)) ?_;rintro n ⟨v12,v13,v14,l0'⟩ ⟨j13,el0'⟩;simp only[zdb]at j13;rw[congrFun hT17 (v12,v13,v14,l0')];refine zab ?_;try simp only[rnA,Nat.reduceEqDiff,Nat.reduceLT,reduceCtorEq]
  cases c15:(decide (v14<p1))
  ·rw[c15,cond_false]at j13;try simp only[rnA]
   replace j13:=qac j13; subst j13;exact⟨_,⟨rfl,el0'⟩,by rw[hT13]; exact wm0 [.k] ⟨MB.es (eI .i64) true l0',qdc⟩⟩
  rw[c15,cond_true]at j13;obtain⟨x16,g17,j13⟩:=bind_some j13;try simp only[rnA,Nat.reduceEqDiff,Nat.reduceLT,reduceCtorEq,el0',zbk g17,(show v14<(((Int.toNat p1):Nat):Int)from el0' ▸ zbD g17),zaZ g17 ((eI .i64).c true)]
  obtain⟨o18,j18,j13⟩:=bind_some j13;obtain⟨T18,hT18⟩:=mkT fun a:(Int×(List Int))=>⟨84,[(0,(dI p0)),(1,(dI p1)),(9,(.sl 0 0 1 (Int.toNat p1) (some (Int.toNat p1)) (Int.toNat p1))),(10,(dI v10)),(12,(dI v12)),(13,(dI a.1)),(14,(dI v14))],[.els 1 (a.2.map ((eI .i64).c true))]⟩
  refine EvL.jn T18 (fun a=>a=o18∧a.2.length=(Int.toNat p1)) ?_ ?_
  ·refine zab ?_;try simp only[rnA,Nat.reduceEqDiff,reduceCtorEq]
   cases c18:(decide (0<x16))
   ·rw[c18,cond_false]at j18;try simp only[rnA]
    replace j18:=qac j18; subst j18;exact⟨_,⟨rfl,el0'⟩,by rw[hT18]; exact wm0 [.k] ⟨MB.es (eI .i64) true l0',qdc⟩⟩
   rw[c18,cond_true]at j18;obtain⟨q19,g20,j18⟩:=bind_some j18;obtain⟨y21,g22,j18⟩:=bind_some j18;try simp only[rnA,Nat.reduceEqDiff,Nat.reduceLT,Nat.reduceLeDiff,reduceCtorEq,el0',zbk g17,(show v14<(((Int.toNat p1):Nat):Int)from el0' ▸ zbD g17),zaZ g17 ((eI .i64).c true),zm0 g20,zpZ g20,(show(l0'.map ((eI .i64).c true)).set v14.toNat [(dI q19)]=y21.map ((eI .i64).c true)from zb1 g22 ((eI .i64).c true))]
   replace j18:=qac j18; subst j18;exact⟨_,⟨rfl,(zbd g22).trans el0'⟩,by rw[hT18]; exact wm0 [.k] ⟨MB.es (eI .i64) true y21,qdc⟩⟩
  rintro⟨v13',l0''⟩ ⟨rfl,el0''⟩;dsimp only at j13;rw[congrFun hT18 (v13',l0'')];refine zab ?_;obtain⟨x23,g24,j13⟩:=bind_some j13;try simp only[rnA,Nat.reduceEqDiff,Nat.reduceLT,reduceCtorEq,el0'',zbk g24,(show v14<(((Int.toNat p1):Nat):Int)from el0'' ▸ zbD g24),zaZ g24 ((eI .i64).c true)]
  exact⟨((w64 (v12 - x23)),v13',(w64 (v14+1)),l0''),⟨j13,el0''⟩,by rw[hT17]; exact wm0 [.k] ⟨MB.es (eI .i64) true l0'',qdc⟩⟩
 rintro⟨v12,v13,l0'⟩ ⟨rfl,el0'⟩;dsimp only at h;rw[congrFun hT13 (v12,v13,l0')];refine zab ?_;obtain⟨x25,g26,h⟩:=bind_some h;obtain⟨y27,g28,h⟩:=bind_some h;try simp only[rnA,Nat.reduceEqDiff,Nat.reduceLT,Nat.reduceLeDiff,el0',zbk g26,(show v13<(((Int.toNat p1):Nat):Int)from el0' ▸ zbD g26),zaZ g26 ((eI .i64).c true),(show(l0'.map ((eI .i64).c true)).set v13.toNat [(dI (w64 (x25+v12)))]=y27.map ((eI .i64).c true)from zb1 g28 ((eI .i64).c true))]
 replace h:=qac h; subst h;exact zbO.ret rfl (zal (e:=(eI .i64)) (t:=true) rfl (.inl rfl) ((zbd g28).trans el0').symm ((zbd g28).trans el0').symm (fun k h=>by cases h; exact qaj _) (fun _=>rfl))
def zsH(num:List Int)(ps8 u k:Int)(ps:List Int):Option Bool:=
 (zaP num k).bind fun x=>bif x == u then((zla .u8 ps8 (IntKind.u64.wrap k)).bind fun q=>bif zo1 .u8 q 1 == 1 then some (decide ((ps.length:Int)<3))else some false)else some false
def zmZ(num:List Int)(i ps8 u:Int):Nat→Int→List Int→Option (List Int)
 | 0,_,_=>none
 | n+1,k,ps=>bif decide (k<i)then((zsH num ps8 u k ps).bind fun b=>bif b then((zcW 8 ps [u]).bind fun ps2=>zmZ num i ps8 u n (w64 (k+1)) ps2)else zmZ num i ps8 u n (w64 (k+1)) ps)else some ps
def zoG(num:List Int)(i ps8 count:Int):Nat→Int→List Int→Option (List Int)
 | 0,_,_=>none
 | n+1,u,ps=>bif decide (u<count)then((zmZ num i ps8 u (i.toNat+2) 0 ps).bind fun ps2=>zoG num i ps8 count n (w64 (u+1)) ps2)else some ps
def zmD(num:List Int)(i v count ps8:Int)(nodes:List S_api_Node):Option (List S_api_Node):=
 (zaP nodes v).bind fun x=>bif x.parents.isEmpty then((zoG num i ps8 count (count.toNat+2) 0 []).bind fun ps=>zfP nodes v ⟨x.card,ps,x.rows⟩)else none
def ztQ:C:=
 (.seq (.seq (rg [oM 101 14,
 oM 102 10,
 oB 103 .lss 101 102])
 (.cond (.s 103) (.skip)
 (.exit 6)))
 (.seq (.block 7 (.seq (.scope (rg [oM 106 5,
 oM 107 14,
 oI 108 1 106 107,
 oL 109 108,
 oM 110 13,
 oB 111 .eql 109 110,
 oM 112 111,
 oFg 113 1 11 112 true,
 oLg 114 113 112 true,
 oMg 115 14 112 true,
 ⟨some 116,.conv .u64 (.s 115),some (112,true)⟩,
 ⟨some 117,.bin .shr (.s 114) (.s 116),some (112,true)⟩,
 ⟨some 118,.bin .and (.s 117) (.c (.int .u8 1)),some (112,true)⟩,
 ⟨some 119,.bin .eql (.s 118) (.c (.int .u8 1)),some (112,true)⟩,
 ⟨some 120,.pick (.s 112) (.s 119) (.c (.bool false)),none⟩,
 oM 121 120,
 oFg 122 1 4 121 true,
 oLg 123 122 121 true,
 oMg 124 12 121 true,
 ⟨some 125,.idxS 3 (.s 123) (.s 124),some (121,true)⟩,
 oFg 126 1 125 121 true,
 oLg 127 126 121 true,
 ⟨some 128,.len (.s 127),some (121,true)⟩,
 oDg 129 .lss 128 3 121 true,
 ⟨some 130,.pick (.s 121) (.s 129) (.c (.bool false)),none⟩]))
 (.scope (.cond (.s 130) (.reg true false [oF 131 1 4,
 oL 132 131,
 oM 133 12,
 oF 134 1 4,
 oL 135 134,
 oM 136 12,
 oI 137 3 135 136,
 oF 138 1 137,
 oL 139 138,
 oM 140 13,
 ⟨some 141,.bsl 1 1 [(.int .i64 0)] [(0,(.s 140))],none⟩,
 ⟨none,.avo [(.s 131)] (.s 139),none⟩,
 oT 142 1 8 139 141,
 oI 143 3 132 133,
 oF 144 1 143,
 oS 1 144 142])
 (.skip)))))
 (rg [oM 104 14,
 oD 105 .add 104 1,
 oM 14 105])))
def zuo:C:=
 (.seq (.seq (rg [oM 96 13,
 oM 97 3,
 oB 98 .lss 96 97])
 (.cond (.s 98) (.skip)
 (.exit 4)))
 (.seq (.block 5 (.seq (rg [oK 14 0])
 (.scope (.block 6 (.loop ztQ)))))
 (rg [oM 99 13,
 oD 100 .add 99 1,
 oM 13 100])))
section
variable (b0 b1:LB) (c40 c42:D) (num:List Int) (i v count ps8 grain:Int) (cnt:Nat) (nodes:List S_api_Node) (x:S_api_Node)
end
theorem zyc{k:List K}{Q:LX→LSt→Prop}{b0 b1:LB}{c40 c42:D}{num:List Int}{i v count ps8 grain:Int}{cnt:Nat}{nodes nodes':List S_api_Node}
  (g:zmD num i v count ps8 nodes=some nodes') (hb0:∀ kp,LB.kin kp b0) (hb1:∀ kp,LB.kin kp b1) (hc0:∀ kp,D.kin kp c40) (hc2:∀ kp,D.kin kp c42) (hl:nodes.length=cnt)
  (hk:EvL mC 0 k ⟨187,[(1,.ptr 0 0),(2,.ptr 1 0),(3,dI count),(4,.ptr 3 0),(5,fzE true (eI .i64) num),(10,dI i),(11,.ptr 4 0),(12,dI v)],[b0,b1,.els 3 (nodes'.map (zag.c true)),.cells [dI grain,.sl 2 0 3 cnt (some cnt) cnt],.cells [c40,dU8 ps8,c42]]⟩ Q):
  EvL mC 0 (.code (.scope (.block 4 (.loop zuo))):: k) ⟨187,[(1,.ptr 0 0),(2,.ptr 1 0),(3,dI count),(4,.ptr 3 0),(5,fzE true (eI .i64) num),(10,dI i),(11,.ptr 4 0),(12,dI v),(13,dI 0)],[b0,b1,.els 3 (nodes.map (zag.c true)),.cells [dI grain,.sl 2 0 3 cnt (some cnt) cnt],.cells [c40,dU8 ps8,c42]]⟩ Q:=by
 unfold zmD at g;obtain⟨x,gx,g⟩:=bind_some g;cases hp:x.parents.isEmpty with
 | false=>rw[hp]at g; cases g
 | true=>
 rw[hp,cond_true]at g;obtain⟨ps,gu,g⟩:=bind_some g;have hv0:=zbk gx;have hv1:v<((cnt:Nat):Int):=hl ▸ zbD gx;have hxe:=zaZ gx (zag.c true);have hxl:=(qab.1 (zgO gx)).1;have hgs:∀ C:List D,((nodes.map (zag.c true)).set v.toNat C)[v.toNat]? = some C:=fun C=>by rw[qaA (by simpa using hxl)]
 obtain⟨HP,hHP⟩:∃ HP:List Int→List LB,HP=(fun a=>[b0,b1,.els 3 ((nodes.map (zag.c true)).set v.toNat [dI x.card,.sl 5 0 1 a.length none a.length,nE true (eL (eI .i64)) x.rows]),.cells [dI grain,.sl 2 0 3 cnt (some cnt) cnt],.cells [c40,dU8 ps8,c42],.grow 1 (a.map ((eI .i64).c true))]):=⟨_,rfl⟩;refine EvL.jn (α:=Unit) (fun _=>⟨187,[(1,.ptr 0 0),(2,.ptr 1 0),(3,dI count),(4,.ptr 3 0),(5,fzE true (eI .i64) num),(10,dI i),(11,.ptr 4 0),(12,dI v)],[b0,b1,.els 3 (nodes'.map (zag.c true)),.cells [dI grain,.sl 2 0 3 cnt (some cnt) cnt],.cells [c40,dU8 ps8,c42]]⟩) (fun _=>True) ?_ (fun _ _=>hk);refine zab ?_;simp only[rnA];refine EvL.zdJ (zbx.zt1 (n:=1) (b:=2) (i:=v.toNat) (o:=1) (by decide) rfl hxe (by rw[zee,zud _ _ hp]; rfl)) ?_;obtain⟨T,hT⟩:∃ T:Int×List Int→LSt,T=(fun a=>⟨187,[(1,.ptr 0 0),(2,.ptr 1 0),(3,dI count),(4,.ptr 3 0),(5,fzE true (eI .i64) num),(10,dI i),(11,.ptr 4 0),(12,dI v),(13,dI a.1)],HP a.2⟩):=⟨_,rfl⟩;refine EvL.rounds T (fun n a=>zoG num i ps8 count n a.1 a.2=some ps) (count.toNat+2) (0,[]) (by rw[hT,hHP]; exact zbx.sub ⟨rfl,rfl,rfl,rfl,rfl,rfl,rfl,rfl,rfl,qdc⟩) gu (fun _ h=>nomatch h) ?_;rintro n ⟨u,a⟩ h;simp only[zoG]at h;rw[congrFun hT (u,a),congrFun hHP a];simp only[zuo,ze3];refine zab ?_;cases c1:decide (u<count)with
 | false=>
  rw[c1,cond_false]at h;cases h;simp only[rnA,Nat.reduceEqDiff,Nat.reduceLT,c1];exact⟨(),qdc,wm0 [.k,.k,.k,.k,.k,.f] ⟨.same (hb0 _),.same (hb1 _),MB.close g (.cons (.same trivial) (.cons (.fr (zqn (t:=true) rfl rfl rfl rfl (fun h=>by cases h<;>rfl))) (.cons (.same (zkZ _ _ _ _)) .nil))),MB.cs ⟨qdc,rfl,qdc⟩,MB.cs ⟨hc0 _,qdc,hc2 _,qdc⟩,qdc⟩⟩
 | true=>
  rw[c1,cond_true]at h;obtain⟨a2,gk,h⟩:=bind_some h;simp only[rnA,Nat.reduceEqDiff,Nat.reduceLT,c1];refine EvL.scope (zab ?_);simp only[rnA];obtain⟨TK,hTK⟩:∃ TK:Int×List Int→LSt,TK=(fun a=>⟨187,[(1,.ptr 0 0),(2,.ptr 1 0),(3,dI count),(4,.ptr 3 0),(5,fzE true (eI .i64) num),(10,dI i),(11,.ptr 4 0),(12,dI v),(13,dI u),(14,dI a.1)],HP a.2⟩):=⟨_,rfl⟩;refine EvL.rounds TK (fun n a=>zmZ num i ps8 u n a.1 a.2=some a2) (i.toNat+2) (0,a) (by rw[hTK,hHP]; exact zbx.sub ⟨rfl,rfl,rfl,rfl,rfl,rfl,rfl,rfl,rfl,rfl,qdc⟩) gk (fun _ h=>nomatch h) ?_;rintro m ⟨kk,b⟩ hk2;simp only[zmZ]at hk2;rw[congrFun hTK (kk,b),congrFun hHP b];simp only[ztQ,ze3];refine zab ?_;cases c2:decide (kk<i)with
  | false=>
   rw[c2,cond_false]at hk2;replace hk2:=qac hk2; subst hk2;simp only[rnA,Nat.reduceEqDiff,Nat.reduceLT,c2];exact⟨(w64 (u+1),b),h,by rw[hT,hHP]; exact zbx.sub ⟨rfl,rfl,rfl,rfl,rfl,rfl,rfl,rfl,rfl,qdc⟩⟩
  | true=>
   rw[c2,cond_true]at hk2;obtain⟨t,gc,hk2⟩:=bind_some hk2;unfold zsH at gc;obtain⟨y,gy,gc⟩:=bind_some gc;simp only[rnA,Nat.reduceEqDiff,Nat.reduceLT,c2];refine EvL.scope (zab ?_);cases c3:(y == u)with
   | false=>
    rw[c3,cond_false]at gc;replace gc:=qac gc; subst gc;rw[cond_false]at hk2;simp only[rnA,Nat.reduceEqDiff,Nat.reduceLT,c3,zak (n:=1) (e:=(eI .i64)) rfl gy];refine EvL.scope (zab ?_);simp only[rnA,Nat.reduceEqDiff,Nat.reduceLT];exact⟨(w64 (kk+1),b),hk2,by rw[hTK,hHP]; exact zbx.sub ⟨rfl,rfl,rfl,rfl,rfl,rfl,rfl,rfl,rfl,rfl,qdc⟩⟩
   | true=>
    rw[c3,cond_true]at gc;obtain⟨q,gq,gc⟩:=bind_some gc;cases c4:(zo1 .u8 q 1 == 1)with
    | false=>
     rw[c4,cond_false]at gc;replace gc:=qac gc; subst gc;rw[cond_false]at hk2;simp only[rnA,Nat.reduceEqDiff,Nat.reduceLT,c3,c4,zak (n:=1) (e:=(eI .i64)) rfl gy,(zdq gq).1,(zdq gq).2];refine EvL.scope (zab ?_);simp only[rnA,Nat.reduceEqDiff,Nat.reduceLT];exact⟨(w64 (kk+1),b),hk2,by rw[hTK,hHP]; exact zbx.sub ⟨rfl,rfl,rfl,rfl,rfl,rfl,rfl,rfl,rfl,rfl,qdc⟩⟩
    | true=>
     rw[c4,cond_true]at gc;replace gc:=qac gc; subst gc;simp only[rnA,Nat.reduceEqDiff,Nat.reduceLT,c3,c4,zak (n:=1) (e:=(eI .i64)) rfl gy,(zdq gq).1,(zdq gq).2,hv0,hv1,qat,hl,hgs];refine EvL.scope (zab ?_);cases c5:decide ((b.length:Int)<3)with
     | false=>
      rw[c5,cond_false]at hk2;simp only[rnA,Nat.reduceEqDiff,Nat.reduceLT];exact⟨(w64 (kk+1),b),hk2,by rw[hTK,hHP]; exact zbx.sub ⟨rfl,rfl,rfl,rfl,rfl,rfl,rfl,rfl,rfl,rfl,qdc⟩⟩
     | true=>
      rw[c5,cond_true]at hk2;obtain⟨b2,gb,hk2⟩:=bind_some hk2;simp only[rnA,Nat.reduceEqDiff,Nat.reduceLT,Nat.reduceAdd,Nat.reduceLeDiff,Nat.reduceBEq,hv0,hv1,qat,hl,hgs,qbJ,zbP gb,(show b.length+1=b2.length from zbf gb),(show b.map ((eI .i64).c true)++ [[dI u]]=b2.map ((eI .i64).c true)from zbG gb ((eI .i64).c true))];exact⟨(w64 (kk+1),b2),hk2,by rw[hTK,hHP]; exact wm0 [.k,.k,.k,.k,.k,.k] ⟨.same (hb0 _),.same (hb1 _),MB.opn ⟨qdc,rfl,zkZ _ _ _ _,qdc⟩,MB.cs ⟨qdc,rfl,qdc⟩,MB.cs ⟨hc0 _,qdc,hc2 _,qdc⟩,MB.gs (eI .i64) true b2,qdc⟩⟩
theorem ziP{num:List Int}{i v count ps8:Int}{nodes nodes':List S_api_Node}(g:zmD num i v count ps8 nodes=some nodes'):nodes'.length=nodes.length:=by
 unfold zmD at g;obtain⟨x,gx,g⟩:=bind_some g;cases hp:x.parents.isEmpty with
 | false=>rw[hp]at g; cases g
 | true=>
 rw[hp,cond_true]at g;obtain⟨ps,gu,g⟩:=bind_some g;exact zbd g
def zaG(p0:S_api_Net)(p1:Int):Option (List Int):=
(zaP p0.nodes p1).bind fun x1=>
(zdT p0).bind fun r3=>
(zeI r3 x1.parents).bind fun r5=>
some r5
theorem zcZ{p0:S_api_Net}{p1:Int}{r:(List Int)}(h:zaG p0 p1=some r):Lx.Fn mC 83 [(.agg [(dI p0.grain),(fzE false zaa p0.nodes)]),(dI p1)] (fzE true (eI .i64) r):=by
 refine fnO (by conv=>lhs; cbv) ?_;unfold zaG at h;refine zab ?_;obtain⟨x1,g2,h⟩:=bind_some h;obtain⟨r3,g4,h⟩:=bind_some h;try simp only[rnA,Nat.reduceEqDiff,reduceIte,Nat.reduceLT,Nat.reduceAdd,Nat.reduceLeDiff,Nat.reduceMul,Nat.reduceSub,Int.reduceLE,Int.reduceLT,Int.reduceBEq,Nat.reduceBEq,reduceCtorEq,zad,za5,ze8,zak (n:=3) (e:=zaa) rfl g2]
 refine EvL.fn (zkx g4) rfl rfl (.cons (.zc5 (.cons (.lit _) (.cons (zat _ _ (fun h=>nomatch h)) .nil))) .nil) ?_;obtain⟨r5,g6,h⟩:=bind_some h;try simp only[rnA,Nat.reduceEqDiff,reduceIte,Nat.reduceLT,Nat.reduceAdd,Nat.reduceLeDiff,Nat.reduceMul,Nat.reduceSub,Int.reduceLE,Int.reduceLT,Int.reduceBEq,Nat.reduceBEq,reduceCtorEq,zad,za5]
 refine EvL.fn (zlp g6) rfl rfl (.cons (zat _ _ (fun h=>nomatch h)) (.cons (zat _ _ (fun h=>nomatch h)) .nil)) ?_;try simp only[rnA,Nat.reduceEqDiff,reduceIte,Nat.reduceLT,Nat.reduceAdd,Nat.reduceLeDiff,Nat.reduceMul,Nat.reduceSub,Int.reduceLE,Int.reduceLT,Int.reduceBEq,Nat.reduceBEq,reduceCtorEq,zad,za5]
 replace h:=qac h; subst h;exact zbO.ret rfl (zat _ _ (fun _=>rfl))
def zpw(grain v:Int)(W:List Int)(nodes:List S_api_Node)(x:S_api_Node):Nat→Int→List (List Int)→Option (List (List Int))
 | 0,_,_=>none
 | n+1,r,rows=>(zfP nodes v ⟨x.card,x.parents,rows⟩).bind fun cur=>
   (zaG ⟨grain,cur⟩ v).bind fun pc=>(zcq pc).bind fun sz=>
   bif decide (r<sz)then((zfm grain x.card W (w64 (r * w64 (x.card+1)))).bind fun y=>(zcW 24 rows [y]).bind fun rows2=>zpw grain v W nodes x n (w64 (r+1)) rows2)else some rows
def zmB(N:Nat)(grain v:Int)(W:List Int)(nodes:List S_api_Node):Option (List S_api_Node):=
 (zaP nodes v).bind fun x=>bif x.rows.isEmpty then((zpw grain v W nodes x N 0 []).bind fun rows=>zfP nodes v ⟨x.card,x.parents,rows⟩)else none
def zt7:C:=
 (.seq (.seq (rg [oM 145 15,
 oN 146 2 4,
 oM 147 12,
 oV 148 83 146 147,
 oU 149 82 148,
 oB 150 .lss 145 149])
 (.cond (.s 150) (.skip)
 (.exit 8)))
 (.seq (.block 9 (.reg true true [oF 153 1 4,
 oL 154 153,
 oM 155 12,
 oF 156 1 4,
 oL 157 156,
 oM 158 12,
 oI 159 3 157 158,
 oF 160 2 159,
 oL 161 160,
 oF 162 0 4,
 oL 163 162,
 oF 164 1 4,
 oL 165 164,
 oM 166 12,
 oI 167 3 165 166,
 oF 168 0 167,
 oL 169 168,
 oF 170 2 11,
 oL 171 170,
 oM 172 15,
 oF 173 1 4,
 oL 174 173,
 oM 175 12,
 oI 176 3 174 175,
 oF 177 0 176,
 oL 178 177,
 oD 179 .add 178 1,
 oB 180 .mul 172 179,
 ⟨some 181,.call 110 [(.s 163),(.s 169),(.s 171),(.s 180)],none⟩,
 ⟨some 182,.bsl 1 1 [(.slice none 0 0)] [(0,(.s 181))],none⟩,
 ⟨none,.avo [(.s 153)] (.s 161),none⟩,
 oT 183 1 24 161 182,
 oI 184 3 154 155,
 oF 185 2 184,
 oS 1 185 183]))
 (rg [oM 151 15,
 oD 152 .add 151 1,
 oM 15 152])))
theorem zxg{L:List LB}{nodes cur:List S_api_Node}{v:Int}{y:S_api_Node}{c:List D}(g:zfP nodes v y=some cur)(hc:Snps L false c (zaa.c false y)):
  Pw (Snp L false) ((nodes.map (zag.c true)).set v.toNat c) (cur.map (zaa.c false)):=by
 rw[← zb1 g (zaa.c false)];exact Pw.set (Pw.map (fun x=>⟨(zc2 (L:=L) (t:=true) (u:=false) (fun h=>nomatch h) x).len,(zc2 (L:=L) (t:=true) (u:=false) (fun h=>nomatch h) x).get⟩) nodes) hc.len hc.get _
theorem zx8{k:List K}{Q:LX→LSt→Prop}{b0 b1:LB}{c40 c41:D}{num W:List Int}{i v count grain:Int}{cnt N:Nat}{nodes nodes':List S_api_Node}
  (g:zmB N grain v W nodes=some nodes') (hb0:∀ kp,LB.kin kp b0) (hb1:∀ kp,LB.kin kp b1) (hc0:∀ kp,D.kin kp c40) (hc1:∀ kp,D.kin kp c41) (hl:nodes.length=cnt)
  (hk:EvL mC 0 k ⟨187,[(1,.ptr 0 0),(2,.ptr 1 0),(3,dI count),(4,.ptr 3 0),(5,fzE true (eI .i64) num),(10,dI i),(11,.ptr 4 0),(12,dI v)],[b0,b1,.els 3 (nodes'.map (zag.c true)),.cells [dI grain,.sl 2 0 3 cnt (some cnt) cnt],.cells [c40,c41,fzE false (eI .u8) W]]⟩ Q):
  EvL mC 0 (.code (.scope (.block 8 (.loop zt7))):: k) ⟨187,[(1,.ptr 0 0),(2,.ptr 1 0),(3,dI count),(4,.ptr 3 0),(5,fzE true (eI .i64) num),(10,dI i),(11,.ptr 4 0),(12,dI v),(15,dI 0)],[b0,b1,.els 3 (nodes.map (zag.c true)),.cells [dI grain,.sl 2 0 3 cnt (some cnt) cnt],.cells [c40,c41,fzE false (eI .u8) W]]⟩ Q:=by
 unfold zmB at g;obtain⟨x,gx,g⟩:=bind_some g;cases hp:x.rows.isEmpty with
 | false=>rw[hp]at g; cases g
 | true=>
 rw[hp,cond_true]at g;obtain⟨rows,gu,g⟩:=bind_some g;have hv0:=zbk gx;have hv1:v<((cnt:Nat):Int):=hl ▸ zbD gx;have hxe:=zaZ gx (zag.c true);have hxl:=(qab.1 (zgO gx)).1;have hgs:∀ C:List D,((nodes.map (zag.c true)).set v.toNat C)[v.toNat]? = some C:=fun C=>by rw[qaA (by simpa using hxl)]
 refine EvL.jn (α:=Unit) (fun _=>⟨187,[(1,.ptr 0 0),(2,.ptr 1 0),(3,dI count),(4,.ptr 3 0),(5,fzE true (eI .i64) num),(10,dI i),(11,.ptr 4 0),(12,dI v)],[b0,b1,.els 3 (nodes'.map (zag.c true)),.cells [dI grain,.sl 2 0 3 cnt (some cnt) cnt],.cells [c40,c41,fzE false (eI .u8) W]]⟩) (fun _=>True) ?_ (fun _ _=>hk);refine zab ?_;simp only[rnA];refine EvL.zdJ (zbx.zt1 (n:=1) (b:=2) (i:=v.toNat) (o:=2) (by decide) rfl hxe (by rw[zee,zud _ _ hp]; rfl)) ?_;obtain⟨T,hT⟩:∃ T:Int×List (List Int)→LSt,T=(fun a=>⟨187,[(1,.ptr 0 0),(2,.ptr 1 0),(3,dI count),(4,.ptr 3 0),(5,fzE true (eI .i64) num),(10,dI i),(11,.ptr 4 0),(12,dI v),(15,dI a.1)],[b0,b1,.els 3 ((nodes.map (zag.c true)).set v.toNat [dI x.card,nE true (eI .i64) x.parents,.sl 5 0 1 a.2.length none a.2.length]),.cells [dI grain,.sl 2 0 3 cnt (some cnt) cnt],.cells [c40,c41,fzE false (eI .u8) W],.grow 1 (a.2.map ((eL (eI .i64)).c true))]⟩):=⟨_,rfl⟩;refine EvL.rounds T (fun n a=>zpw grain v W nodes x n a.1 a.2=some rows) N (0,[]) (by rw[hT]; exact zbx.sub ⟨rfl,rfl,rfl,rfl,rfl,rfl,rfl,rfl,rfl,qdc⟩) gu (fun _ h=>nomatch h) ?_;rintro n ⟨r,a⟩ h;simp only[zpw]at h;obtain⟨cur,gcur,h⟩:=bind_some h;obtain⟨pc,gpc,h⟩:=bind_some h;obtain⟨sz,gsz,h⟩:=bind_some h;rw[congrFun hT (r,a)];simp only[zt7,ze3];refine zab ?_;simp only[rnA,Nat.reduceEqDiff,Nat.reduceLT,Nat.reduceAdd,Nat.reduceLeDiff];refine EvL.fn (zcZ gpc) rfl rfl (.cons (.zc5 (.cons (.lit _) (.cons (zav (e:=zaa) rfl (.inl rfl) (by rw[qat,qaw]; exact hl.symm) (by rw[qat,qaw]; exact hl.symm) (fun k h=>by cases h; exact qaj _) (zxg gcur (.cons (.lit _) (.cons (zne _ _ (fun h=>nomatch h)) (.cons (zal (e:=(eL (eI .i64))) (t:=true) rfl (.inr rfl) rfl rfl (fun k h=>nomatch h) (fun h=>nomatch h)) .nil))))) .nil))) (.cons (.lit _) .nil)) ?_;simp only[rnA,Nat.reduceLT];refine EvL.fn (zh7 gsz) rfl rfl (.cons (zat _ _ (fun h=>nomatch h)) .nil) ?_;cases c1:decide (r<sz)with
 | false=>
  rw[c1,cond_false]at h;replace h:=qac h; subst h;simp only[rnA,Nat.reduceEqDiff,Nat.reduceLT,c1];exact⟨(),qdc,wm0 [.k,.k,.k,.k,.k,.f] ⟨.same (hb0 _),.same (hb1 _),MB.close g (.cons (.same trivial) (.cons (.same (zkZ _ _ _ _)) (.cons (.fr (zqn (t:=true) rfl rfl rfl rfl (fun h=>by cases h<;>rfl))) .nil))),MB.cs ⟨qdc,rfl,qdc⟩,MB.cs ⟨hc0 _,hc1 _,qdc,qdc⟩,qdc⟩⟩
 | true=>
  rw[c1,cond_true]at h;obtain⟨y,gy,h⟩:=bind_some h;obtain⟨b2,gb,h⟩:=bind_some h;simp only[rnA,Nat.reduceEqDiff,Nat.reduceLT,c1,hv0,hv1,qat,hl,hgs];refine EvL.fn (zoS gy) rfl rfl (.cons (.lit _) (.cons (.lit _) (.cons (zat _ _ (fun h=>nomatch h)) (.cons (.lit _) .nil)))) ?_;simp only[rnA,Nat.reduceEqDiff,Nat.reduceLT,Nat.reduceAdd,Nat.reduceLeDiff,Nat.reduceBEq,hv0,hv1,qat,hl,hgs,qbJ,zbP gb,(show a.length+1=b2.length from zbf gb),(show a.map ((eL (eI .i64)).c true)++ [[fzE true (eI .i64) y]]=b2.map ((eL (eI .i64)).c true)from zbG gb ((eL (eI .i64)).c true))];exact⟨(w64 (r+1),b2),h,by rw[hT]; exact wm0 [.k,.k,.k,.k,.k,.k] ⟨.same (hb0 _),.same (hb1 _),MB.opn ⟨qdc,zkZ _ _ _ _,rfl,qdc⟩,MB.cs ⟨qdc,rfl,qdc⟩,MB.cs ⟨hc0 _,hc1 _,qdc,qdc⟩,MB.gs (eL (eI .i64)) true b2,qdc⟩⟩
theorem zox{N:Nat}{grain v:Int}{W:List Int}{nodes nodes':List S_api_Node}(g:zmB N grain v W nodes=some nodes'):nodes'.length=nodes.length:=by
 unfold zmB at g;obtain⟨x,gx,g⟩:=bind_some g;cases hp:x.rows.isEmpty with
 | false=>rw[hp]at g; cases g
 | true=>
 rw[hp,cond_true]at g;obtain⟨ps,gu,g⟩:=bind_some g;exact zbd g
def zdI(x:S_api_Node):Option S_api_Node:=some x
def ziF:C:=
 .seq (rg [oW 1 0,
 ⟨some 2,.mov (.c .nilFunc),none⟩])
 (.seq (rg [⟨some 3,.clo 156 [] [(.s 1)],none⟩,
 oM 2 3])
 (.ret))
theorem zkB:zkn mC 127=some (4,ziF,[.tmp 2],false):=zb5 (by kernel_rfl)
theorem zhJ{x r:S_api_Node}(h:zdI x=some r):Lx.FnA mC 127 [.agg (zaa.c false x)] (.clo 156 [] [.fptr false (zaa.c false r)]):=by
 cases h;refine FnA.of zkB (zbF rfl) (qaf rfl) ?_;simp only[ziF,ze3];refine zab ?_;simp only[rnA,Nat.reduceEqDiff,reduceIte,Nat.reduceLT,Nat.reduceAdd,Nat.reduceLeDiff,Nat.reduceMul,Nat.reduceSub,Int.reduceLE,Int.reduceLT,Int.reduceBEq,Nat.reduceBEq,reduceCtorEq,zad];refine zl3.ret rfl (.clo rfl rfl (fun i d d' h1 h2=>by simp at h1) fun i d d' h1 h2=>?_);cases i with
 | zero=>
  simp only[qb1,qae]at h1 h2;subst h1;subst h2;exact .ptr rfl (qaj _) fun k d d' h3 h4=>by
   rw[qaZ]at h3;exact(zaa.snp (L:=_) (t:=false) (t':=false) x id).get k d d' h3 h4
 | succ i=>simp at h1
def zkv:C:=
 (.seq (rg [oB 9 .lss 8 7])
 (.seq (.cond (.s 9) (.skip)
 (.exit 0))
 (.seq (.block 1 (.seq (rg [oM 10 8,
 oI 11 1 6 8,
 oL 12 11,
 oM 3 10,
 oM 4 12])
 (.seq (rg [oM 13 0,
 oM 14 3,
 oM 15 4,
 ⟨some 16,.callv (.s 13) [(.s 14),(.s 15)],none⟩,
 ⟨some 17,.un .not (.s 16),none⟩])
 (.cond (.s 17) (.ret)
 (.skip)))))
 (rg [oD 18 .add 8 1,
 oM 8 18]))))
def zt6:C:=
 .seq (rg [oF 5 2 1,
 oL 6 5,
 oE 7 6,
 oK 8 0])
 (.scope (.block 0 (.loop zkv)))
theorem zs8:zkn mC 156=some (19,zt6,[],false):=zb5 (by kernel_rfl)
theorem ztg{α:Type}{xs:List α}{i:Nat}{x:α}(h:xs[i]? = some x):(znT xs)[i]? = some ((i:Int),x):=by
 simp[znT,h]
theorem zsK{α:Type}(xs:List α):(znT xs).length=xs.length:=by simp[znT]
theorem zpa{L L1:List LB}(h:L=L1 ++ []):L=L1:=by simpa using h
theorem zgX(x:S_api_Node){u:Unit}(hu:ze0 x.rows=some u):Gen mC 156 [] [.fptr false (zaa.c false x)] (znT x.rows) (fun y n0 args G=>args=[dI y.1,fzE false (eI .i64) y.2]∧G=[]):=by
 intro n0 β P Ps hβ hlen hround L hP;refine zeh.ofM zs8 (zbF rfl) (qaf rfl) ?_;simp only[zt6,ze3];refine zab ?_;simp only[rnA,Nat.reduceEqDiff,Nat.reduceLT,Nat.reduceAdd,Nat.reduceLeDiff,reduceCtorEq,zad,zam];refine EvL.scope (zab ?_);simp only[rnA];have hw:∀(i:Nat),(i:Int)<x.rows.length→IntKind.i64.wrap ((i:Int)+1)=((i+1:Nat):Int):=by
  intro i hi;have:=zq9 hu;rw[wrap64 (by omega) (by omega)];omega
 refine EvL.loop (α:=Nat×List LB) (fun a=>⟨19,[(0,.yld β),(6,fzE false (eL (eI .i64)) x.rows),(7,dI x.rows.length),(8,dI a.1)],a.2⟩) (fun a=>P a.1 a.2∧a.1≤x.rows.length) (fun a=>x.rows.length - a.1) (0,L) (zbx.sub ⟨rfl,rfl,rfl,rfl,qdc⟩) ⟨hP,qay _⟩ ?_;rintro⟨i,L'⟩ ⟨hPi,hi⟩;simp only[zkv,ze3];refine zab ?_;cases hc:decide ((i:Int)<(x.rows.length:Int))with
 | false=>
  simp only[rnA,Nat.reduceEqDiff,Nat.reduceLT,reduceCtorEq,hc];refine⟨[],rfl,L',[],by simp,hlen _ _ hPi,.inl ?_⟩;rw[zsK];have h1:=of_decide_eq_false hc;have h2:i=x.rows.length:=by omega
  rw[← h2];exact hPi
 | true=>
  have h1:=of_decide_eq_true hc;have h2:i<x.rows.length:=by omega
  have hg:zaP x.rows (i:Int)=some x.rows[i]:=zdt h2;simp only[rnA,Nat.reduceEqDiff,Nat.reduceLT,reduceCtorEq,hc,zak (n:=1) (e:=eL (eI .i64)) rfl hg];refine EvL.yield rfl rfl rfl (hround i ((i:Int),x.rows[i]) L' _ [] (ztg (qad h2)) hPi ⟨rfl,rfl⟩|> fun h=>by rw[qaN]at h; exact h) ?_;rintro b L2 ⟨L1,hL2,hl1,hb⟩;have:=zpa hL2;subst this;cases b with
  | true=>
   simp only[rnA,Nat.reduceEqDiff,Nat.reduceLT,reduceCtorEq];refine⟨(i+1,L2),⟨hb,h2⟩,?_,zbx.sub ⟨rfl,rfl,rfl,?_,qdc⟩⟩
   ·show x.rows.length - (i+1)<x.rows.length - i; omega
   ·simp only[lk,if_true];rw[hw i h1]
  | false=>
   simp only[rnA,Nat.reduceEqDiff,Nat.reduceLT,reduceCtorEq];exact⟨[],rfl,L2,[],by simp,hl1,.inr hb⟩
end Go.Dc
