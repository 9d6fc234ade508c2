/-
 What r02_Size computes. Conditions: none.
-/
import Derived.Test.YtbjogdohfhdaiaaGreatESDm
set_option linter.unusedSimpArgs false
set_option linter.unusedVariables false
set_option maxRecDepth 100000
set_option maxHeartbeats 4000000
namespace Go.Dc
open Go Go.Mx Go.Lx Go.Proofs
def zcY(p0:(List Int)):Nat→Int→Int→Option Int
 | 0,_,_=>none
 | n+1,v3,v4=>(
bif (decide (v4<(p0.length:Int)))then(
(za3 p0 v4).bind fun x2=>
zcY p0 n (w64 (v3 * x2)) (w64 (v4+1)))
else(
some v3))
def zd9(p0:(List Int)):Option Int:=
((zcY p0 ((p0.length:Int) - 0+2:Int).toNat 1 0:Option Int)).bind fun v3=>
some v3
theorem znw{p0:(List Int)}{r:Int}(h:zd9 p0=some r):Lx.Fn mC 36 [(fzE false (eI .i64) p0)] (dI r):=by
 refine fnO (by conv=>lhs; cbv) ?_;unfold zd9 at h;refine zaa ?_;try simp only[rnA,Nat.reduceEqDiff,reduceIte,Nat.reduceLT,Nat.reduceAdd,Nat.reduceLeDiff,Nat.reduceMul,Nat.reduceSub,Int.reduceLE,Int.reduceLT,Int.reduceBEq,Nat.reduceBEq,reduceCtorEq]
 obtain⟨o1,j1,h⟩:=bind_some h;obtain⟨T1,hT1⟩:=mkT fun a:Int=>⟨18,[(3,(dI a))],[]⟩
 refine EvL.jn T1 (fun a=>a=o1) ?_ ?_
 ·refine zaa ?_;simp only[rnA,Nat.reduceEqDiff,reduceIte,Nat.reduceLT,Nat.reduceAdd,Nat.reduceLeDiff,Nat.reduceMul,Nat.reduceSub,Int.reduceLE,Int.reduceLT,Int.reduceBEq,Nat.reduceBEq,reduceCtorEq];obtain⟨T2,hT2⟩:=mkT fun a:(Int×Int)=>⟨18,[(0,(fzE false (eI .i64) p0)),(3,(dI a.1)),(4,(dI a.2))],[]⟩
  refine EvL.rounds (α:=(Int×Int)) T2 (fun n a=>zcY p0 n a.1 a.2=some o1) ((p0.length:Int) - 0+2:Int).toNat (1,0) (by rw[hT2]; exact wm0 [] (by exact trivial)) j1 (fun _ h=>nomatch (show(none:Option Int)=some o1 from h)) ?_;rintro n ⟨v3,v4⟩ j1;simp only[zcY]at j1;rw[congrFun hT2 (v3,v4)];refine zaa ?_;try simp only[rnA,Nat.reduceEqDiff,reduceIte,Nat.reduceLT,Nat.reduceAdd,Nat.reduceLeDiff,Nat.reduceMul,Nat.reduceSub,Int.reduceLE,Int.reduceLT,Int.reduceBEq,Nat.reduceBEq,reduceCtorEq,zaC]
  cases c1:(decide (v4<(p0.length:Int)))
  ·rw[c1,cond_false]at j1;try simp only[rnA,Nat.reduceEqDiff,reduceIte,Nat.reduceLT,Nat.reduceAdd,Nat.reduceLeDiff,Nat.reduceMul,Nat.reduceSub,Int.reduceLE,Int.reduceLT,Int.reduceBEq,Nat.reduceBEq,reduceCtorEq,c1]
   replace j1:=qae j1; subst j1;exact lfj hT1 rfl (wm0 [] (by exact trivial))
  rw[c1,cond_true]at j1;obtain⟨x2,g3,j1⟩:=bind_some j1;try simp only[rnA,Nat.reduceEqDiff,reduceIte,Nat.reduceLT,Nat.reduceAdd,Nat.reduceLeDiff,Nat.reduceMul,Nat.reduceSub,Int.reduceLE,Int.reduceLT,Int.reduceBEq,Nat.reduceBEq,reduceCtorEq,zaS (n:=1) (e:=(eI .i64)) rfl g3,c1]
  exact⟨((w64 (v3 * x2)),(w64 (v4+1))),j1,by rw[hT2]; exact wm0 [] (by exact trivial)⟩
 rintro v3 rfl;rw[congrFun hT1 v3];refine zaa ?_;try simp only[rnA,Nat.reduceEqDiff,reduceIte,Nat.reduceLT,Nat.reduceAdd,Nat.reduceLeDiff,Nat.reduceMul,Nat.reduceSub,Int.reduceLE,Int.reduceLT,Int.reduceBEq,Nat.reduceBEq,reduceCtorEq]
 replace h:=qae h; subst h;exact zeb.ret rfl (.lit _)
def zei(p1:(List Int))(p0:(List Int)):Nat→Int→(List Int)→Option (List Int)
 | 0,_,_=>none
 | n+1,v6,l0=>(
bif (decide (v6<(p1.length:Int)))then(
(za3 p1 v6).bind fun x2=>
(za3 p0 x2).bind fun x4=>
(zem 8 l0 [x4]).bind fun y6=>
zei p1 p0 n (w64 (v6+1)) y6)
else(
some l0))
def zgG(p0:(List Int))(p1:(List Int)):Option (List Int):=
((zei p1 p0 ((p1.length:Int) - 0+2:Int).toNat 0 []:Option (List Int))).bind fun l0=>
some l0
theorem zsu{p0:(List Int)}{p1:(List Int)}{r:(List Int)}(h:zgG p0 p1=some r):Lx.Fn mC 65 [(fzE false (eI .i64) p0),(fzE false (eI .i64) p1)] (fzE true (eI .i64) r):=by
 refine fnO (by conv=>lhs; cbv) ?_;unfold zgG at h;refine zaa ?_;try simp only[rnA,Nat.reduceLT,Nat.reduceAdd]
 obtain⟨o1,j1,h⟩:=bind_some h;obtain⟨T1,hT1⟩:=mkT fun a:(List Int)=>⟨24,[(5,(.sl 0 0 1 a.length none a.length))],[.grow 1 (a.map ((eI .i64).c true))]⟩
 refine EvL.jn T1 (fun a=>a=o1) ?_ ?_
 ·refine zaa ?_;simp only[rnA];obtain⟨T2,hT2⟩:=mkT fun a:(Int×(List Int))=>⟨24,[(0,(fzE false (eI .i64) p0)),(1,(fzE false (eI .i64) p1)),(5,(.sl 0 0 1 a.2.length none a.2.length)),(6,(dI a.1))],[.grow 1 (a.2.map ((eI .i64).c true))]⟩
  refine EvL.zqA (zbP.ghost (n:=1) (k:=5) (by decide) rfl) ?_;refine EvL.rounds (α:=(Int×(List Int))) T2 (fun n a=>zei p1 p0 n a.1 a.2=some o1) ((p1.length:Int) - 0+2:Int).toNat (0,[]) (by rw[hT2]; exact wm0 [.k] ⟨MB.gs (eI .i64) true [],qdn⟩) j1 (fun _ h=>nomatch (show(none:Option (List Int))=some o1 from h)) ?_;rintro n ⟨v6,l0⟩ j1;simp only[zei]at j1;rw[congrFun hT2 (v6,l0)];refine zaa ?_;try simp only[rnA,Nat.reduceEqDiff,Nat.reduceLT,reduceCtorEq,zaC]
  cases c1:(decide (v6<(p1.length:Int)))
  ·rw[c1,cond_false]at j1;try simp only[rnA]
   replace j1:=qae j1; subst j1;exact lfj hT1 rfl (wm0 [.k] ⟨MB.gs (eI .i64) true l0,qdn⟩)
  rw[c1,cond_true]at j1;obtain⟨x2,g3,j1⟩:=bind_some j1;obtain⟨x4,g5,j1⟩:=bind_some j1;obtain⟨y6,g7,j1⟩:=bind_some j1;try simp only[rnA,Nat.reduceEqDiff,Nat.reduceLT,Nat.reduceLeDiff,reduceCtorEq,zaS (n:=1) (e:=(eI .i64)) rfl g3,zaS (n:=1) (e:=(eI .i64)) rfl g5,zdP g7,(show l0.length+1=y6.length from zcN g7),(show l0.map ((eI .i64).c true)++ [[(dI x4)]]=y6.map ((eI .i64).c true)from zdg g7 ((eI .i64).c true))]
  exact⟨((w64 (v6+1)),y6),j1,by rw[hT2]; exact wm0 [.k] ⟨MB.gs (eI .i64) true y6,qdn⟩⟩
 rintro l0 rfl;rw[congrFun hT1 l0];refine zaa ?_;try simp only[rnA,Nat.reduceEqDiff,Nat.reduceLT]
 replace h:=qae h; subst h;exact zeb.ret rfl (zcn (e:=(eI .i64)) (t:=true) rfl (.inr rfl) rfl rfl (fun k h=>nomatch h) (fun _=>rfl))
def zcw(p0:S_api_Net):Nat→Int→(List Int)→Option (List Int)
 | 0,_,_=>none
 | n+1,v4,l1=>(
bif (decide (v4<(p0.nodes.length:Int)))then(
(za3 p0.nodes v4).bind fun x2=>
(zem 8 l1 [x2.zaD]).bind fun y4=>
zcw p0 n (w64 (v4+1)) y4)
else(
some l1))
def zdG(p0:S_api_Net):Option (List Int):=
((zcw p0 ((p0.nodes.length:Int) - 0+2:Int).toNat 0 []:Option (List Int))).bind fun l1=>
some l1
theorem zl8{p0:S_api_Net}{r:(List Int)}(h:zdG p0=some r):Lx.Fn mC 66 [(.agg [(dI p0.grain),(fzE false zab p0.nodes)])] (fzE true (eI .i64) r):=by
 refine fnO (by conv=>lhs; cbv) ?_;unfold zdG at h;refine zaa ?_;try simp only[rnA,Nat.reduceLT]
 obtain⟨o1,j1,h⟩:=bind_some h;obtain⟨T1,hT1⟩:=mkT fun a:(List Int)=>⟨22,[(3,(.sl 1 0 1 a.length none a.length))],[.gone,.grow 1 (a.map ((eI .i64).c true))]⟩
 refine EvL.jn T1 (fun a=>a=o1) ?_ ?_
 ·refine zaa ?_;simp only[rnA];obtain⟨T2,hT2⟩:=mkT fun a:(Int×(List Int))=>⟨22,[(1,(.ptr 0 0)),(3,(.sl 1 0 1 a.2.length none a.2.length)),(4,(dI a.1))],[.cells [(dI p0.grain),(fzE false zab p0.nodes)],.grow 1 (a.2.map ((eI .i64).c true))]⟩
  refine EvL.zqA (zbP.ghost (n:=1) (k:=3) (by decide) rfl) ?_;refine EvL.rounds (α:=(Int×(List Int))) T2 (fun n a=>zcw p0 n a.1 a.2=some o1) ((p0.nodes.length:Int) - 0+2:Int).toNat (0,[]) (by rw[hT2]; exact wm0 [.k,.k] ⟨MB.cs ⟨qdn,qdn,qdn⟩,⟨MB.gs (eI .i64) true [],qdn⟩⟩) j1 (fun _ h=>nomatch (show(none:Option (List Int))=some o1 from h)) ?_;rintro n ⟨v4,l1⟩ j1;simp only[zcw]at j1;rw[congrFun hT2 (v4,l1)];refine zaa ?_;try simp only[rnA,Nat.reduceEqDiff,Nat.reduceLT,zaC]
  cases c1:(decide (v4<(p0.nodes.length:Int)))
  ·rw[c1,cond_false]at j1;try simp only[rnA]
   replace j1:=qae j1; subst j1;exact lfj hT1 rfl (wm0 [.d,.k] ⟨rfl,⟨MB.gs (eI .i64) true l1,qdn⟩⟩)
  rw[c1,cond_true]at j1;obtain⟨x2,g3,j1⟩:=bind_some j1;obtain⟨y4,g5,j1⟩:=bind_some j1;try simp only[rnA,Nat.reduceEqDiff,Nat.reduceLT,Nat.reduceAdd,Nat.reduceLeDiff,zak,zaS (n:=3) (e:=zab) rfl g3,zdP g5,(show l1.length+1=y4.length from zcN g5),(show l1.map ((eI .i64).c true)++ [[(dI x2.zaD)]]=y4.map ((eI .i64).c true)from zdg g5 ((eI .i64).c true))]
  exact⟨((w64 (v4+1)),y4),j1,by rw[hT2]; exact wm0 [.k,.k] ⟨MB.cs ⟨qdn,qdn,qdn⟩,⟨MB.gs (eI .i64) true y4,qdn⟩⟩⟩
 rintro l1 rfl;rw[congrFun hT1 l1];refine zaa ?_;try simp only[rnA,Nat.reduceEqDiff,Nat.reduceLT]
 replace h:=qae h; subst h;exact zeb.ret rfl (zcn (e:=(eI .i64)) (t:=true) rfl (.inr rfl) rfl rfl (fun k h=>nomatch h) (fun _=>rfl))
def zcv(p1:Int)(p2:(List Int))(p3:Int):Nat→Int→Int→(List Int)→Option (Int×(List Int))
 | 0,_,_,_=>none
 | n+1,v10,v11,l0=>(
bif (decide (v11<p1))then(
((bif (decide (0<(p2.length:Int)))then(
(zpW (w64 (p3+v11)) (p2.length:Int)).bind fun q5=>
(za3 p2 q5).bind fun x7=>
(za3 l0 v11).bind fun x9=>
(zfo l0 v11 (w64 (x7.tmod 8))).bind fun y11=>
some y11)
else(
some l0):Option (List Int))).bind fun l0'=>
(za3 l0' v11).bind fun x13=>
zcv p1 p2 p3 n (w64 (v10+x13)) (w64 (v11+1)) l0')
else(
some (v10,l0)))
def zcX(p1:Int)(p0:Int)(v10:Int):Nat→Int→Int→Int→(List Int)→Option (Int×Int×(List Int))
 | 0,_,_,_,_=>none
 | n+1,v12,v13,v14,l0'=>(
bif (decide (v14<p1))then(
(za3 l0' v14).bind fun x16=>
((bif (decide (0<x16))then(
(ztA .i64 (w64 (p0 * x16)) v10).bind fun q19=>
(zfo l0' v14 q19).bind fun y21=>
some (v14,y21))
else(
some (v13,l0')):Option ((Int×(List Int))))).bind fun o=>match o with
|(v13',l0'')=>(
(za3 l0'' v14).bind fun x23=>
zcX p1 p0 v10 n (w64 (v12 - x23)) v13' (w64 (v14+1)) l0''))
else(
some (v12,v13,l0')))
def ze1(p0:Int)(p1:Int)(p2:(List Int))(p3:Int):Option (List Int):=
(zen 8 p1 0).bind fun y1=>
((zcv p1 p2 p3 (p1 - 0+2:Int).toNat 0 0 y1:Option ((Int×(List Int))))).bind fun o=>match o with
|(v10,l0)=>(
((zcX p1 p0 v10 (p1 - 0+2:Int).toNat p0 0 0 l0:Option ((Int×Int×(List Int))))).bind fun o=>match o with
|(v12,v13,l0')=>(
(za3 l0' v13).bind fun x25=>
(zfo l0' v13 (w64 (x25+v12))).bind fun y27=>
some y27))
theorem zp7{p0:Int}{p1:Int}{p2:(List Int)}{p3:Int}{r:(List Int)}(h:ze1 p0 p1 p2 p3=some r):Lx.Fn mC 38 [(dI p0),(dI p1),(fzE false (eI .u8) p2),(dI p3)] (fzE true (eI .i64) r):=by
 refine fnO (by conv=>lhs; cbv) ?_;unfold ze1 at h;refine zaa ?_;obtain⟨y1,g2,h⟩:=bind_some h;try simp only[rnA,Nat.reduceEqDiff,Nat.reduceLT,Nat.reduceAdd,reduceCtorEq,(zbX g2).1.1,(zbX g2).1.2,qdi,(show List.replicate (Int.toNat p1) [(dI 0)]=y1.map ((eI .i64).c true)from zec g2 ((eI .i64).c true))]
 obtain⟨o4,j4,h⟩:=bind_some h;obtain⟨T4,hT4⟩:=mkT fun a:(Int×(List Int))=>⟨84,[(0,(dI p0)),(1,(dI p1)),(9,(.sl 0 0 1 (Int.toNat p1) (some (Int.toNat p1)) (Int.toNat p1))),(10,(dI a.1))],[.els 1 (a.2.map ((eI .i64).c true))]⟩
 refine EvL.jn T4 (fun a=>a=o4∧a.2.length=(Int.toNat p1)) ?_ ?_
 ·refine zaa ?_;simp only[rnA];obtain⟨T7,hT7⟩:=mkT fun a:(Int×Int×(List Int))=>⟨84,[(0,(dI p0)),(1,(dI p1)),(2,(fzE false (eI .u8) p2)),(3,(dI p3)),(9,(.sl 0 0 1 (Int.toNat p1) (some (Int.toNat p1)) (Int.toNat p1))),(10,(dI a.1)),(11,(dI a.2.1))],[.els 1 (a.2.2.map ((eI .i64).c true))]⟩
  refine EvL.rounds (α:=(Int×Int×(List Int))) T7 (fun n a=>zcv p1 p2 p3 n a.1 a.2.1 a.2.2=some o4∧a.2.2.length=(Int.toNat p1)) (p1 - 0+2:Int).toNat (0,0,y1) (by rw[hT7]; exact wm0 [.k] ⟨MB.es (eI .i64) true y1,qdn⟩) ⟨j4,zdi g2⟩ (fun _ h=>nomatch (show(none:Option (Int×(List Int)))=some o4 from h.1)) ?_;rintro n ⟨v10,v11,l0⟩ ⟨j4,el0⟩;simp only[zcv]at j4;rw[congrFun hT7 (v10,v11,l0)];refine zaa ?_;try simp only[rnA,Nat.reduceEqDiff,Nat.reduceLT,reduceCtorEq]
  cases c3:(decide (v11<p1))
  ·rw[c3,cond_false]at j4;try simp only[rnA]
   replace j4:=qae j4; subst j4;exact⟨_,⟨rfl,el0⟩,by rw[hT4]; exact wm0 [.k] ⟨MB.es (eI .i64) true l0,qdn⟩⟩
  rw[c3,cond_true]at j4;try simp only[rnA,Nat.reduceEqDiff,Nat.reduceLT,reduceCtorEq,zaC]
  obtain⟨o8,j8,j4⟩:=bind_some j4;obtain⟨T8,hT8⟩:=mkT fun a:(List Int)=>⟨84,[(0,(dI p0)),(1,(dI p1)),(2,(fzE false (eI .u8) p2)),(3,(dI p3)),(9,(.sl 0 0 1 (Int.toNat p1) (some (Int.toNat p1)) (Int.toNat p1))),(10,(dI v10)),(11,(dI v11))],[.els 1 (a.map ((eI .i64).c true))]⟩
  refine EvL.jn T8 (fun a=>a=o8∧a.length=(Int.toNat p1)) ?_ ?_
  ·refine zaa ?_;try simp only[rnA,Nat.reduceEqDiff,reduceCtorEq]
   cases c4:(decide (0<(p2.length:Int)))
   ·rw[c4,cond_false]at j8;try simp only[rnA]
    replace j8:=qae j8; subst j8;exact⟨_,⟨rfl,el0⟩,by rw[hT8]; exact wm0 [.k] ⟨MB.es (eI .i64) true l0,qdn⟩⟩
   rw[c4,cond_true]at j8;obtain⟨q5,g6,j8⟩:=bind_some j8;obtain⟨x7,g8,j8⟩:=bind_some j8;obtain⟨x9,g10,j8⟩:=bind_some j8;obtain⟨y11,g12,j8⟩:=bind_some j8;try simp only[rnA,Nat.reduceEqDiff,Nat.reduceLT,Nat.reduceLeDiff,Int.reduceBEq,reduceCtorEq,zaC,zh8 g6,zjU g6,zaS (n:=1) (e:=(eI .u8)) rfl g8,el0,zcd g10,(show v11<(((Int.toNat p1):Nat):Int)from el0 ▸ zcm g10),zby g10 ((eI .i64).c true),(show(l0.map ((eI .i64).c true)).set v11.toNat [(dI (w64 (x7.tmod 8)))]=y11.map ((eI .i64).c true)from zdb g12 ((eI .i64).c true))]
   replace j8:=qae j8; subst j8;exact⟨_,⟨rfl,(zcM g12).trans el0⟩,by rw[hT8]; exact wm0 [.k] ⟨MB.es (eI .i64) true y11,qdn⟩⟩
  rintro l0' ⟨rfl,el0'⟩;rw[congrFun hT8 l0'];refine zaa ?_;obtain⟨x13,g14,j4⟩:=bind_some j4;try simp only[rnA,Nat.reduceEqDiff,Nat.reduceLT,reduceCtorEq,el0',zcd g14,(show v11<(((Int.toNat p1):Nat):Int)from el0' ▸ zcm g14),zby g14 ((eI .i64).c true)]
  exact⟨((w64 (v10+x13)),(w64 (v11+1)),l0'),⟨j4,el0'⟩,by rw[hT7]; exact wm0 [.k] ⟨MB.es (eI .i64) true l0',qdn⟩⟩
 rintro⟨v10,l0⟩ ⟨rfl,el0⟩;dsimp only at h;rw[congrFun hT4 (v10,l0)];refine zaa ?_;try simp only[rnA,Nat.reduceEqDiff,Nat.reduceLT,reduceCtorEq]
 obtain⟨o13,j13,h⟩:=bind_some h;obtain⟨T13,hT13⟩:=mkT fun a:(Int×Int×(List Int))=>⟨84,[(9,(.sl 0 0 1 (Int.toNat p1) (some (Int.toNat p1)) (Int.toNat p1))),(12,(dI a.1)),(13,(dI a.2.1))],[.els 1 (a.2.2.map ((eI .i64).c true))]⟩
 refine EvL.jn T13 (fun a=>a=o13∧a.2.2.length=(Int.toNat p1)) ?_ ?_
 ·refine zaa ?_;simp only[rnA];obtain⟨T17,hT17⟩:=mkT fun a:(Int×Int×Int×(List Int))=>⟨84,[(0,(dI p0)),(1,(dI p1)),(9,(.sl 0 0 1 (Int.toNat p1) (some (Int.toNat p1)) (Int.toNat p1))),(10,(dI v10)),(12,(dI a.1)),(13,(dI a.2.1)),(14,(dI a.2.2.1))],[.els 1 (a.2.2.2.map ((eI .i64).c true))]⟩
  refine EvL.rounds (α:=(Int×Int×Int×(List Int))) T17 (fun n a=>zcX p1 p0 v10 n a.1 a.2.1 a.2.2.1 a.2.2.2=some o13∧a.2.2.2.length=(Int.toNat p1)) (p1 - 0+2:Int).toNat (p0,0,0,l0) (by rw[hT17]; exact wm0 [.k] ⟨MB.es (eI .i64) true l0,qdn⟩) ⟨j13,el0⟩ (fun _ h=>nomatch (show(none:Option (Int×Int×(List Int)))=some o13 from h.1)) ?_;rintro n ⟨v12,v13,v14,l0'⟩ ⟨j13,el0'⟩;simp only[zcX]at j13;rw[congrFun hT17 (v12,v13,v14,l0')];refine zaa ?_;try simp only[rnA,Nat.reduceEqDiff,Nat.reduceLT,reduceCtorEq]
  cases c15:(decide (v14<p1))
  ·rw[c15,cond_false]at j13;try simp only[rnA]
   replace j13:=qae j13; subst j13;exact⟨_,⟨rfl,el0'⟩,by rw[hT13]; exact wm0 [.k] ⟨MB.es (eI .i64) true l0',qdn⟩⟩
  rw[c15,cond_true]at j13;obtain⟨x16,g17,j13⟩:=bind_some j13;try simp only[rnA,Nat.reduceEqDiff,Nat.reduceLT,reduceCtorEq,el0',zcd g17,(show v14<(((Int.toNat p1):Nat):Int)from el0' ▸ zcm g17),zby g17 ((eI .i64).c true)]
  obtain⟨o18,j18,j13⟩:=bind_some j13;obtain⟨T18,hT18⟩:=mkT fun a:(Int×(List Int))=>⟨84,[(0,(dI p0)),(1,(dI p1)),(9,(.sl 0 0 1 (Int.toNat p1) (some (Int.toNat p1)) (Int.toNat p1))),(10,(dI v10)),(12,(dI v12)),(13,(dI a.1)),(14,(dI v14))],[.els 1 (a.2.map ((eI .i64).c true))]⟩
  refine EvL.jn T18 (fun a=>a=o18∧a.2.length=(Int.toNat p1)) ?_ ?_
  ·refine zaa ?_;try simp only[rnA,Nat.reduceEqDiff,reduceCtorEq]
   cases c18:(decide (0<x16))
   ·rw[c18,cond_false]at j18;try simp only[rnA]
    replace j18:=qae j18; subst j18;exact⟨_,⟨rfl,el0'⟩,by rw[hT18]; exact wm0 [.k] ⟨MB.es (eI .i64) true l0',qdn⟩⟩
   rw[c18,cond_true]at j18;obtain⟨q19,g20,j18⟩:=bind_some j18;obtain⟨y21,g22,j18⟩:=bind_some j18;try simp only[rnA,Nat.reduceEqDiff,Nat.reduceLT,Nat.reduceLeDiff,reduceCtorEq,el0',zcd g17,(show v14<(((Int.toNat p1):Nat):Int)from el0' ▸ zcm g17),zby g17 ((eI .i64).c true),zsD g20,zv9 g20,(show(l0'.map ((eI .i64).c true)).set v14.toNat [(dI q19)]=y21.map ((eI .i64).c true)from zdb g22 ((eI .i64).c true))]
   replace j18:=qae j18; subst j18;exact⟨_,⟨rfl,(zcM g22).trans el0'⟩,by rw[hT18]; exact wm0 [.k] ⟨MB.es (eI .i64) true y21,qdn⟩⟩
  rintro⟨v13',l0''⟩ ⟨rfl,el0''⟩;dsimp only at j13;rw[congrFun hT18 (v13',l0'')];refine zaa ?_;obtain⟨x23,g24,j13⟩:=bind_some j13;try simp only[rnA,Nat.reduceEqDiff,Nat.reduceLT,reduceCtorEq,el0'',zcd g24,(show v14<(((Int.toNat p1):Nat):Int)from el0'' ▸ zcm g24),zby g24 ((eI .i64).c true)]
  exact⟨((w64 (v12 - x23)),v13',(w64 (v14+1)),l0''),⟨j13,el0''⟩,by rw[hT17]; exact wm0 [.k] ⟨MB.es (eI .i64) true l0'',qdn⟩⟩
 rintro⟨v12,v13,l0'⟩ ⟨rfl,el0'⟩;dsimp only at h;rw[congrFun hT13 (v12,v13,l0')];refine zaa ?_;obtain⟨x25,g26,h⟩:=bind_some h;obtain⟨y27,g28,h⟩:=bind_some h;try simp only[rnA,Nat.reduceEqDiff,Nat.reduceLT,Nat.reduceLeDiff,el0',zcd g26,(show v13<(((Int.toNat p1):Nat):Int)from el0' ▸ zcm g26),zby g26 ((eI .i64).c true),(show(l0'.map ((eI .i64).c true)).set v13.toNat [(dI (w64 (x25+v12)))]=y27.map ((eI .i64).c true)from zdb g28 ((eI .i64).c true))]
 replace h:=qae h; subst h;exact zeb.ret rfl (zcn (e:=(eI .i64)) (t:=true) rfl (.inl rfl) ((zcM g28).trans el0').symm ((zcM g28).trans el0').symm (fun k h=>by cases h; exact qan _) (fun _=>rfl))
def zuV(num:List Int)(ps8 u k:Int)(ps:List Int):Option Bool:=
 (za3 num k).bind fun x=>bif x == u then((zhP .u8 ps8 (IntKind.u64.wrap k)).bind fun q=>bif zfz .u8 q 1 == 1 then some (decide ((ps.length:Int)<3))else some false)else some false
def zm7(num:List Int)(i ps8 u:Int):Nat→Int→List Int→Option (List Int)
 | 0,_,_=>none
 | n+1,k,ps=>bif decide (k<i)then((zuV num ps8 u k ps).bind fun b=>bif b then((zem 8 ps [u]).bind fun ps2=>zm7 num i ps8 u n (w64 (k+1)) ps2)else zm7 num i ps8 u n (w64 (k+1)) ps)else some ps
def zqd(num:List Int)(i ps8 count:Int):Nat→Int→List Int→Option (List Int)
 | 0,_,_=>none
 | n+1,u,ps=>bif decide (u<count)then((zm7 num i ps8 u (i.toNat+2) 0 ps).bind fun ps2=>zqd num i ps8 count n (w64 (u+1)) ps2)else some ps
def znf(num:List Int)(i v count ps8:Int)(nodes:List S_api_Node):Option (List S_api_Node):=
 (za3 nodes v).bind fun x=>bif x.parents.isEmpty then((zqd num i ps8 count (count.toNat+2) 0 []).bind fun ps=>zfo nodes v ⟨x.zaD,ps,x.rows⟩)else none
def zv8:C:=
 (.seq (.seq (rg [oM 101 14,
 oM 102 10,
 oB 103 .lss 101 102])
 (.cond (.s 103) (.skip)
 (.exit 6)))
 (.seq (.block 7 (.seq (.scope (rg [oM 106 5,
 oM 107 14,
 oI 108 1 106 107,
 oL 109 108,
 oM 110 13,
 oB 111 .eql 109 110,
 oM 112 111,
 oFg 113 1 11 112 true,
 oLg 114 113 112 true,
 oMg 115 14 112 true,
 ⟨some 116,.conv .u64 (.s 115),some (112,true)⟩,
 ⟨some 117,.bin .shr (.s 114) (.s 116),some (112,true)⟩,
 ⟨some 118,.bin .and (.s 117) (.c (.int .u8 1)),some (112,true)⟩,
 ⟨some 119,.bin .eql (.s 118) (.c (.int .u8 1)),some (112,true)⟩,
 ⟨some 120,.pick (.s 112) (.s 119) (.c (.bool false)),none⟩,
 oM 121 120,
 oFg 122 1 4 121 true,
 oLg 123 122 121 true,
 oMg 124 12 121 true,
 ⟨some 125,.idxS 3 (.s 123) (.s 124),some (121,true)⟩,
 oFg 126 1 125 121 true,
 oLg 127 126 121 true,
 ⟨some 128,.len (.s 127),some (121,true)⟩,
 oDg 129 .lss 128 3 121 true,
 ⟨some 130,.pick (.s 121) (.s 129) (.c (.bool false)),none⟩]))
 (.scope (.cond (.s 130) (.reg true false [oF 131 1 4,
 oL 132 131,
 oM 133 12,
 oF 134 1 4,
 oL 135 134,
 oM 136 12,
 oI 137 3 135 136,
 oF 138 1 137,
 oL 139 138,
 oM 140 13,
 ⟨some 141,.bsl 1 1 [(.int .i64 0)] [(0,(.s 140))],none⟩,
 ⟨none,.avo [(.s 131)] (.s 139),none⟩,
 oT 142 1 8 139 141,
 oI 143 3 132 133,
 oF 144 1 143,
 oS 1 144 142])
 (.skip)))))
 (rg [oM 104 14,
 oD 105 .add 104 1,
 oM 14 105])))
def zvO:C:=
 (.seq (.seq (rg [oM 96 13,
 oM 97 3,
 oB 98 .lss 96 97])
 (.cond (.s 98) (.skip)
 (.exit 4)))
 (.seq (.block 5 (.seq (rg [oK 14 0])
 (.scope (.block 6 (.loop zv8)))))
 (rg [oM 99 13,
 oD 100 .add 99 1,
 oM 13 100])))
section
variable (b0 b1:LB) (c40 c42:D) (num:List Int) (i v count ps8 grain:Int) (cnt:Nat) (nodes:List S_api_Node) (x:S_api_Node)
end
theorem zyl{k:List K}{Q:LX→LSt→Prop}{b0 b1:LB}{c40 c42:D}{num:List Int}{i v count ps8 grain:Int}{cnt:Nat}{nodes nodes':List S_api_Node}
  (g:znf num i v count ps8 nodes=some nodes') (hb0:∀ kp,LB.kin kp b0) (hb1:∀ kp,LB.kin kp b1) (hc0:∀ kp,D.kin kp c40) (hc2:∀ kp,D.kin kp c42) (hl:nodes.length=cnt)
  (hk:EvL mC 0 k ⟨187,[(1,.ptr 0 0),(2,.ptr 1 0),(3,dI count),(4,.ptr 3 0),(5,fzE true (eI .i64) num),(10,dI i),(11,.ptr 4 0),(12,dI v)],[b0,b1,.els 3 (nodes'.map (zaf.c true)),.cells [dI grain,.sl 2 0 3 cnt (some cnt) cnt],.cells [c40,dU8 ps8,c42]]⟩ Q):
  EvL mC 0 (.code (.scope (.block 4 (.loop zvO))):: k) ⟨187,[(1,.ptr 0 0),(2,.ptr 1 0),(3,dI count),(4,.ptr 3 0),(5,fzE true (eI .i64) num),(10,dI i),(11,.ptr 4 0),(12,dI v),(13,dI 0)],[b0,b1,.els 3 (nodes.map (zaf.c true)),.cells [dI grain,.sl 2 0 3 cnt (some cnt) cnt],.cells [c40,dU8 ps8,c42]]⟩ Q:=by
 unfold znf at g;obtain⟨x,gx,g⟩:=bind_some g;cases hp:x.parents.isEmpty with
 | false=>rw[hp]at g; cases g
 | true=>
 rw[hp,cond_true]at g;obtain⟨ps,gu,g⟩:=bind_some g;have hv0:=zcd gx;have hv1:v<((cnt:Nat):Int):=hl ▸ zcm gx;have hxe:=zby gx (zaf.c true);have hxl:=(qab.1 (zkS gx)).1;have hgs:∀ C:List D,((nodes.map (zaf.c true)).set v.toNat C)[v.toNat]? = some C:=fun C=>by rw[qaD (by simpa using hxl)]
 obtain⟨HP,hHP⟩:∃ HP:List Int→List LB,HP=(fun a=>[b0,b1,.els 3 ((nodes.map (zaf.c true)).set v.toNat [dI x.zaD,.sl 5 0 1 a.length none a.length,nE true (eL (eI .i64)) x.rows]),.cells [dI grain,.sl 2 0 3 cnt (some cnt) cnt],.cells [c40,dU8 ps8,c42],.grow 1 (a.map ((eI .i64).c true))]):=⟨_,rfl⟩;refine EvL.jn (α:=Unit) (fun _=>⟨187,[(1,.ptr 0 0),(2,.ptr 1 0),(3,dI count),(4,.ptr 3 0),(5,fzE true (eI .i64) num),(10,dI i),(11,.ptr 4 0),(12,dI v)],[b0,b1,.els 3 (nodes'.map (zaf.c true)),.cells [dI grain,.sl 2 0 3 cnt (some cnt) cnt],.cells [c40,dU8 ps8,c42]]⟩) (fun _=>True) ?_ (fun _ _=>hk);refine zaa ?_;simp only[rnA];refine EvL.zqA (zbP.zvs (n:=1) (b:=2) (i:=v.toNat) (o:=1) (by decide) rfl hxe (by rw[zdY,zvi _ _ hp]; rfl)) ?_;obtain⟨T,hT⟩:∃ T:Int×List Int→LSt,T=(fun a=>⟨187,[(1,.ptr 0 0),(2,.ptr 1 0),(3,dI count),(4,.ptr 3 0),(5,fzE true (eI .i64) num),(10,dI i),(11,.ptr 4 0),(12,dI v),(13,dI a.1)],HP a.2⟩):=⟨_,rfl⟩;refine EvL.rounds T (fun n a=>zqd num i ps8 count n a.1 a.2=some ps) (count.toNat+2) (0,[]) (by rw[hT,hHP]; exact zbP.sub ⟨rfl,rfl,rfl,rfl,rfl,rfl,rfl,rfl,rfl,qdn⟩) gu (fun _ h=>nomatch h) ?_;rintro n ⟨u,a⟩ h;simp only[zqd]at h;rw[congrFun hT (u,a),congrFun hHP a];simp only[zvO,zss];refine zaa ?_;cases c1:decide (u<count)with
 | false=>
  rw[c1,cond_false]at h;cases h;simp only[rnA,Nat.reduceEqDiff,Nat.reduceLT,c1];exact⟨(),qdn,wm0 [.k,.k,.k,.k,.k,.f] ⟨.same (hb0 _),.same (hb1 _),MB.close g (.cons (.same trivial) (.cons (.fr (zsH (t:=true) rfl rfl rfl rfl (fun h=>by cases h<;>rfl))) (.cons (.same (zlW _ _ _ _)) .nil))),MB.cs ⟨qdn,rfl,qdn⟩,MB.cs ⟨hc0 _,qdn,hc2 _,qdn⟩,qdn⟩⟩
 | true=>
  rw[c1,cond_true]at h;obtain⟨a2,gk,h⟩:=bind_some h;simp only[rnA,Nat.reduceEqDiff,Nat.reduceLT,c1];refine EvL.scope (zaa ?_);simp only[rnA];obtain⟨TK,hTK⟩:∃ TK:Int×List Int→LSt,TK=(fun a=>⟨187,[(1,.ptr 0 0),(2,.ptr 1 0),(3,dI count),(4,.ptr 3 0),(5,fzE true (eI .i64) num),(10,dI i),(11,.ptr 4 0),(12,dI v),(13,dI u),(14,dI a.1)],HP a.2⟩):=⟨_,rfl⟩;refine EvL.rounds TK (fun n a=>zm7 num i ps8 u n a.1 a.2=some a2) (i.toNat+2) (0,a) (by rw[hTK,hHP]; exact zbP.sub ⟨rfl,rfl,rfl,rfl,rfl,rfl,rfl,rfl,rfl,rfl,qdn⟩) gk (fun _ h=>nomatch h) ?_;rintro m ⟨kk,b⟩ hk2;simp only[zm7]at hk2;rw[congrFun hTK (kk,b),congrFun hHP b];simp only[zv8,zss];refine zaa ?_;cases c2:decide (kk<i)with
  | false=>
   rw[c2,cond_false]at hk2;replace hk2:=qae hk2; subst hk2;simp only[rnA,Nat.reduceEqDiff,Nat.reduceLT,c2];exact⟨(w64 (u+1),b),h,by rw[hT,hHP]; exact zbP.sub ⟨rfl,rfl,rfl,rfl,rfl,rfl,rfl,rfl,rfl,qdn⟩⟩
  | true=>
   rw[c2,cond_true]at hk2;obtain⟨t,gc,hk2⟩:=bind_some hk2;unfold zuV at gc;obtain⟨y,gy,gc⟩:=bind_some gc;simp only[rnA,Nat.reduceEqDiff,Nat.reduceLT,c2];refine EvL.scope (zaa ?_);cases c3:(y == u)with
   | false=>
    rw[c3,cond_false]at gc;replace gc:=qae gc; subst gc;rw[cond_false]at hk2;simp only[rnA,Nat.reduceEqDiff,Nat.reduceLT,c3,zaS (n:=1) (e:=(eI .i64)) rfl gy];refine EvL.scope (zaa ?_);simp only[rnA,Nat.reduceEqDiff,Nat.reduceLT];exact⟨(w64 (kk+1),b),hk2,by rw[hTK,hHP]; exact zbP.sub ⟨rfl,rfl,rfl,rfl,rfl,rfl,rfl,rfl,rfl,rfl,qdn⟩⟩
   | true=>
    rw[c3,cond_true]at gc;obtain⟨q,gq,gc⟩:=bind_some gc;cases c4:(zfz .u8 q 1 == 1)with
    | false=>
     rw[c4,cond_false]at gc;replace gc:=qae gc; subst gc;rw[cond_false]at hk2;simp only[rnA,Nat.reduceEqDiff,Nat.reduceLT,c3,c4,zaS (n:=1) (e:=(eI .i64)) rfl gy,(zaX gq).1,(zaX gq).2];refine EvL.scope (zaa ?_);simp only[rnA,Nat.reduceEqDiff,Nat.reduceLT];exact⟨(w64 (kk+1),b),hk2,by rw[hTK,hHP]; exact zbP.sub ⟨rfl,rfl,rfl,rfl,rfl,rfl,rfl,rfl,rfl,rfl,qdn⟩⟩
    | true=>
     rw[c4,cond_true]at gc;replace gc:=qae gc; subst gc;simp only[rnA,Nat.reduceEqDiff,Nat.reduceLT,c3,c4,zaS (n:=1) (e:=(eI .i64)) rfl gy,(zaX gq).1,(zaX gq).2,hv0,hv1,qaH,hl,hgs];refine EvL.scope (zaa ?_);cases c5:decide ((b.length:Int)<3)with
     | false=>
      rw[c5,cond_false]at hk2;simp only[rnA,Nat.reduceEqDiff,Nat.reduceLT];exact⟨(w64 (kk+1),b),hk2,by rw[hTK,hHP]; exact zbP.sub ⟨rfl,rfl,rfl,rfl,rfl,rfl,rfl,rfl,rfl,rfl,qdn⟩⟩
     | true=>
      rw[c5,cond_true]at hk2;obtain⟨b2,gb,hk2⟩:=bind_some hk2;simp only[rnA,Nat.reduceEqDiff,Nat.reduceLT,Nat.reduceAdd,Nat.reduceLeDiff,Nat.reduceBEq,hv0,hv1,qaH,hl,hgs,List.set_set,zdP gb,(show b.length+1=b2.length from zcN gb),(show b.map ((eI .i64).c true)++ [[dI u]]=b2.map ((eI .i64).c true)from zdg gb ((eI .i64).c true))];exact⟨(w64 (kk+1),b2),hk2,by rw[hTK,hHP]; exact wm0 [.k,.k,.k,.k,.k,.k] ⟨.same (hb0 _),.same (hb1 _),MB.opn ⟨qdn,rfl,zlW _ _ _ _,qdn⟩,MB.cs ⟨qdn,rfl,qdn⟩,MB.cs ⟨hc0 _,qdn,hc2 _,qdn⟩,MB.gs (eI .i64) true b2,qdn⟩⟩
theorem zjs{num:List Int}{i v count ps8:Int}{nodes nodes':List S_api_Node}(g:znf num i v count ps8 nodes=some nodes'):nodes'.length=nodes.length:=by
 unfold znf at g;obtain⟨x,gx,g⟩:=bind_some g;cases hp:x.parents.isEmpty with
 | false=>rw[hp]at g; cases g
 | true=>
 rw[hp,cond_true]at g;obtain⟨ps,gu,g⟩:=bind_some g;exact zcM g
def zbm(p0:S_api_Net)(p1:Int):Option (List Int):=
(za3 p0.nodes p1).bind fun x1=>
(zdG p0).bind fun r3=>
(zgG r3 x1.parents).bind fun r5=>
some r5
theorem zgF{p0:S_api_Net}{p1:Int}{r:(List Int)}(h:zbm p0 p1=some r):Lx.Fn mC 37 [(.agg [(dI p0.grain),(fzE false zab p0.nodes)]),(dI p1)] (fzE true (eI .i64) r):=by
 refine fnO (by conv=>lhs; cbv) ?_;unfold zbm at h;refine zaa ?_;obtain⟨x1,g2,h⟩:=bind_some h;obtain⟨r3,g4,h⟩:=bind_some h;try simp only[rnA,Nat.reduceEqDiff,reduceIte,Nat.reduceLT,Nat.reduceAdd,Nat.reduceLeDiff,Nat.reduceMul,Nat.reduceSub,Int.reduceLE,Int.reduceLT,Int.reduceBEq,Nat.reduceBEq,reduceCtorEq,zak,zaL,zea,zaS (n:=3) (e:=zab) rfl g2]
 refine EvL.fn (zl8 g4) rfl rfl (.cons (.zhg (.cons (.lit _) (.cons (zaO _ _ (fun h=>nomatch h)) .nil))) .nil) ?_;obtain⟨r5,g6,h⟩:=bind_some h;try simp only[rnA,Nat.reduceEqDiff,reduceIte,Nat.reduceLT,Nat.reduceAdd,Nat.reduceLeDiff,Nat.reduceMul,Nat.reduceSub,Int.reduceLE,Int.reduceLT,Int.reduceBEq,Nat.reduceBEq,reduceCtorEq,zak,zaL]
 refine EvL.fn (zsu g6) rfl rfl (.cons (zaO _ _ (fun h=>nomatch h)) (.cons (zaO _ _ (fun h=>nomatch h)) .nil)) ?_;try simp only[rnA,Nat.reduceEqDiff,reduceIte,Nat.reduceLT,Nat.reduceAdd,Nat.reduceLeDiff,Nat.reduceMul,Nat.reduceSub,Int.reduceLE,Int.reduceLT,Int.reduceBEq,Nat.reduceBEq,reduceCtorEq,zak,zaL]
 replace h:=qae h; subst h;exact zeb.ret rfl (zaO _ _ (fun _=>rfl))
def zp1(grain v:Int)(W:List Int)(nodes:List S_api_Node)(x:S_api_Node):Nat→Int→List (List Int)→Option (List (List Int))
 | 0,_,_=>none
 | n+1,r,rows=>(zfo nodes v ⟨x.zaD,x.parents,rows⟩).bind fun cur=>
   (zbm ⟨grain,cur⟩ v).bind fun pc=>(zd9 pc).bind fun sz=>
   bif decide (r<sz)then((ze1 grain x.zaD W (w64 (r * w64 (x.zaD+1)))).bind fun y=>(zem 24 rows [y]).bind fun rows2=>zp1 grain v W nodes x n (w64 (r+1)) rows2)else some rows
def zn1(N:Nat)(grain v:Int)(W:List Int)(nodes:List S_api_Node):Option (List S_api_Node):=
 (za3 nodes v).bind fun x=>bif x.rows.isEmpty then((zp1 grain v W nodes x N 0 []).bind fun rows=>zfo nodes v ⟨x.zaD,x.parents,rows⟩)else none
def zv1:C:=
 (.seq (.seq (rg [oM 145 15,
 oN 146 2 4,
 oM 147 12,
 oV 148 37 146 147,
 oU 149 36 148,
 oB 150 .lss 145 149])
 (.cond (.s 150) (.skip)
 (.exit 8)))
 (.seq (.block 9 (.reg true true [oF 153 1 4,
 oL 154 153,
 oM 155 12,
 oF 156 1 4,
 oL 157 156,
 oM 158 12,
 oI 159 3 157 158,
 oF 160 2 159,
 oL 161 160,
 oF 162 0 4,
 oL 163 162,
 oF 164 1 4,
 oL 165 164,
 oM 166 12,
 oI 167 3 165 166,
 oF 168 0 167,
 oL 169 168,
 oF 170 2 11,
 oL 171 170,
 oM 172 15,
 oF 173 1 4,
 oL 174 173,
 oM 175 12,
 oI 176 3 174 175,
 oF 177 0 176,
 oL 178 177,
 oD 179 .add 178 1,
 oB 180 .mul 172 179,
 ⟨some 181,.call 38 [(.s 163),(.s 169),(.s 171),(.s 180)],none⟩,
 ⟨some 182,.bsl 1 1 [(.slice none 0 0)] [(0,(.s 181))],none⟩,
 ⟨none,.avo [(.s 153)] (.s 161),none⟩,
 oT 183 1 24 161 182,
 oI 184 3 154 155,
 oF 185 2 184,
 oS 1 185 183]))
 (rg [oM 151 15,
 oD 152 .add 151 1,
 oM 15 152])))
theorem zye{L:List LB}{nodes cur:List S_api_Node}{v:Int}{y:S_api_Node}{c:List D}(g:zfo nodes v y=some cur)(hc:Snps L false c (zab.c false y)):
  Pw (Snp L false) ((nodes.map (zaf.c true)).set v.toNat c) (cur.map (zab.c false)):=by
 rw[← zdb g (zab.c false)];exact Pw.set (Pw.map (fun x=>⟨(zcK (L:=L) (t:=true) (u:=false) (fun h=>nomatch h) x).len,(zcK (L:=L) (t:=true) (u:=false) (fun h=>nomatch h) x).get⟩) nodes) hc.len hc.get _
theorem zzl{k:List K}{Q:LX→LSt→Prop}{b0 b1:LB}{c40 c41:D}{num W:List Int}{i v count grain:Int}{cnt N:Nat}{nodes nodes':List S_api_Node}
  (g:zn1 N grain v W nodes=some nodes') (hb0:∀ kp,LB.kin kp b0) (hb1:∀ kp,LB.kin kp b1) (hc0:∀ kp,D.kin kp c40) (hc1:∀ kp,D.kin kp c41) (hl:nodes.length=cnt)
  (hk:EvL mC 0 k ⟨187,[(1,.ptr 0 0),(2,.ptr 1 0),(3,dI count),(4,.ptr 3 0),(5,fzE true (eI .i64) num),(10,dI i),(11,.ptr 4 0),(12,dI v)],[b0,b1,.els 3 (nodes'.map (zaf.c true)),.cells [dI grain,.sl 2 0 3 cnt (some cnt) cnt],.cells [c40,c41,fzE false (eI .u8) W]]⟩ Q):
  EvL mC 0 (.code (.scope (.block 8 (.loop zv1))):: k) ⟨187,[(1,.ptr 0 0),(2,.ptr 1 0),(3,dI count),(4,.ptr 3 0),(5,fzE true (eI .i64) num),(10,dI i),(11,.ptr 4 0),(12,dI v),(15,dI 0)],[b0,b1,.els 3 (nodes.map (zaf.c true)),.cells [dI grain,.sl 2 0 3 cnt (some cnt) cnt],.cells [c40,c41,fzE false (eI .u8) W]]⟩ Q:=by
 unfold zn1 at g;obtain⟨x,gx,g⟩:=bind_some g;cases hp:x.rows.isEmpty with
 | false=>rw[hp]at g; cases g
 | true=>
 rw[hp,cond_true]at g;obtain⟨rows,gu,g⟩:=bind_some g;have hv0:=zcd gx;have hv1:v<((cnt:Nat):Int):=hl ▸ zcm gx;have hxe:=zby gx (zaf.c true);have hxl:=(qab.1 (zkS gx)).1;have hgs:∀ C:List D,((nodes.map (zaf.c true)).set v.toNat C)[v.toNat]? = some C:=fun C=>by rw[qaD (by simpa using hxl)]
 refine EvL.jn (α:=Unit) (fun _=>⟨187,[(1,.ptr 0 0),(2,.ptr 1 0),(3,dI count),(4,.ptr 3 0),(5,fzE true (eI .i64) num),(10,dI i),(11,.ptr 4 0),(12,dI v)],[b0,b1,.els 3 (nodes'.map (zaf.c true)),.cells [dI grain,.sl 2 0 3 cnt (some cnt) cnt],.cells [c40,c41,fzE false (eI .u8) W]]⟩) (fun _=>True) ?_ (fun _ _=>hk);refine zaa ?_;simp only[rnA];refine EvL.zqA (zbP.zvs (n:=1) (b:=2) (i:=v.toNat) (o:=2) (by decide) rfl hxe (by rw[zdY,zvi _ _ hp]; rfl)) ?_;obtain⟨T,hT⟩:∃ T:Int×List (List Int)→LSt,T=(fun a=>⟨187,[(1,.ptr 0 0),(2,.ptr 1 0),(3,dI count),(4,.ptr 3 0),(5,fzE true (eI .i64) num),(10,dI i),(11,.ptr 4 0),(12,dI v),(15,dI a.1)],[b0,b1,.els 3 ((nodes.map (zaf.c true)).set v.toNat [dI x.zaD,nE true (eI .i64) x.parents,.sl 5 0 1 a.2.length none a.2.length]),.cells [dI grain,.sl 2 0 3 cnt (some cnt) cnt],.cells [c40,c41,fzE false (eI .u8) W],.grow 1 (a.2.map ((eL (eI .i64)).c true))]⟩):=⟨_,rfl⟩;refine EvL.rounds T (fun n a=>zp1 grain v W nodes x n a.1 a.2=some rows) N (0,[]) (by rw[hT]; exact zbP.sub ⟨rfl,rfl,rfl,rfl,rfl,rfl,rfl,rfl,rfl,qdn⟩) gu (fun _ h=>nomatch h) ?_;rintro n ⟨r,a⟩ h;simp only[zp1]at h;obtain⟨cur,gcur,h⟩:=bind_some h;obtain⟨pc,gpc,h⟩:=bind_some h;obtain⟨sz,gsz,h⟩:=bind_some h;rw[congrFun hT (r,a)];simp only[zv1,zss];refine zaa ?_;simp only[rnA,Nat.reduceEqDiff,Nat.reduceLT,Nat.reduceAdd,Nat.reduceLeDiff];refine EvL.fn (zgF gpc) rfl rfl (.cons (.zhg (.cons (.lit _) (.cons (zo3 (e:=zab) rfl (.inl rfl) (by rw[qaH,qaA]; exact hl.symm) (by rw[qaH,qaA]; exact hl.symm) (fun k h=>by cases h; exact qan _) (zye gcur (.cons (.lit _) (.cons (znk _ _ (fun h=>nomatch h)) (.cons (zcn (e:=(eL (eI .i64))) (t:=true) rfl (.inr rfl) rfl rfl (fun k h=>nomatch h) (fun h=>nomatch h)) .nil))))) .nil))) (.cons (.lit _) .nil)) ?_;simp only[rnA,Nat.reduceLT];refine EvL.fn (znw gsz) rfl rfl (.cons (zaO _ _ (fun h=>nomatch h)) .nil) ?_;cases c1:decide (r<sz)with
 | false=>
  rw[c1,cond_false]at h;replace h:=qae h; subst h;simp only[rnA,Nat.reduceEqDiff,Nat.reduceLT,c1];exact⟨(),qdn,wm0 [.k,.k,.k,.k,.k,.f] ⟨.same (hb0 _),.same (hb1 _),MB.close g (.cons (.same trivial) (.cons (.same (zlW _ _ _ _)) (.cons (.fr (zsH (t:=true) rfl rfl rfl rfl (fun h=>by cases h<;>rfl))) .nil))),MB.cs ⟨qdn,rfl,qdn⟩,MB.cs ⟨hc0 _,hc1 _,qdn,qdn⟩,qdn⟩⟩
 | true=>
  rw[c1,cond_true]at h;obtain⟨y,gy,h⟩:=bind_some h;obtain⟨b2,gb,h⟩:=bind_some h;simp only[rnA,Nat.reduceEqDiff,Nat.reduceLT,c1,hv0,hv1,qaH,hl,hgs];refine EvL.fn (zp7 gy) rfl rfl (.cons (.lit _) (.cons (.lit _) (.cons (zaO _ _ (fun h=>nomatch h)) (.cons (.lit _) .nil)))) ?_;simp only[rnA,Nat.reduceEqDiff,Nat.reduceLT,Nat.reduceAdd,Nat.reduceLeDiff,Nat.reduceBEq,hv0,hv1,qaH,hl,hgs,List.set_set,zdP gb,(show a.length+1=b2.length from zcN gb),(show a.map ((eL (eI .i64)).c true)++ [[fzE true (eI .i64) y]]=b2.map ((eL (eI .i64)).c true)from zdg gb ((eL (eI .i64)).c true))];exact⟨(w64 (r+1),b2),h,by rw[hT]; exact wm0 [.k,.k,.k,.k,.k,.k] ⟨.same (hb0 _),.same (hb1 _),MB.opn ⟨qdn,zlW _ _ _ _,rfl,qdn⟩,MB.cs ⟨qdn,rfl,qdn⟩,MB.cs ⟨hc0 _,hc1 _,qdn,qdn⟩,MB.gs (eL (eI .i64)) true b2,qdn⟩⟩
theorem zps{N:Nat}{grain v:Int}{W:List Int}{nodes nodes':List S_api_Node}(g:zn1 N grain v W nodes=some nodes'):nodes'.length=nodes.length:=by
 unfold zn1 at g;obtain⟨x,gx,g⟩:=bind_some g;cases hp:x.rows.isEmpty with
 | false=>rw[hp]at g; cases g
 | true=>
 rw[hp,cond_true]at g;obtain⟨ps,gu,g⟩:=bind_some g;exact zcM g
def zgZ(x:S_api_Node):Option S_api_Node:=some x
def zjB:C:=
 .seq (rg [oW 1 0,
 ⟨some 2,.mov (.c .nilFunc),none⟩])
 (.seq (rg [⟨some 3,.clo 129 [] [(.s 1)],none⟩,
 oM 2 3])
 (.ret))
theorem zmn:zl2 mC 114=some (4,zjB,[.tmp 2],false):=zcP (by kernel_rfl)
theorem znq{x r:S_api_Node}(h:zgZ x=some r):Lx.FnA mC 114 [.agg (zab.c false x)] (.clo 129 [] [.fptr false (zab.c false r)]):=by
 cases h;refine FnA.of zmn (zcj rfl) (qai rfl) ?_;simp only[zjB,zss];refine zaa ?_;simp only[rnA,Nat.reduceEqDiff,reduceIte,Nat.reduceLT,Nat.reduceAdd,Nat.reduceLeDiff,Nat.reduceMul,Nat.reduceSub,Int.reduceLE,Int.reduceLT,Int.reduceBEq,Nat.reduceBEq,reduceCtorEq,zak];refine zmU.ret rfl (.clo rfl rfl (fun i d d' h1 h2=>by simp at h1) fun i d d' h1 h2=>?_);cases i with
 | zero=>
  simp only[qca,qad]at h1 h2;subst h1;subst h2;exact .ptr rfl (qan _) fun k d d' h3 h4=>by
   rw[qaP]at h3;exact(zab.snp (L:=_) (t:=false) (t':=false) x id).get k d d' h3 h4
 | succ i=>simp at h1
def zlC:C:=
 (.seq (rg [oB 9 .lss 8 7])
 (.seq (.cond (.s 9) (.skip)
 (.exit 0))
 (.seq (.block 1 (.seq (rg [oM 10 8,
 oI 11 1 6 8,
 oL 12 11,
 oM 3 10,
 oM 4 12])
 (.seq (rg [oM 13 0,
 oM 14 3,
 oM 15 4,
 ⟨some 16,.zde (.s 13) [(.s 14),(.s 15)],none⟩,
 ⟨some 17,.un .not (.s 16),none⟩])
 (.cond (.s 17) (.ret)
 (.skip)))))
 (rg [oD 18 .add 8 1,
 oM 8 18]))))
def zvh:C:=
 .seq (rg [oF 5 2 1,
 oL 6 5,
 oE 7 6,
 oK 8 0])
 (.scope (.block 0 (.loop zlC)))
theorem zuW:zl2 mC 129=some (19,zvh,[],false):=zcP (by kernel_rfl)
theorem zuP{α:Type}{xs:List α}{i:Nat}{x:α}(h:xs[i]? = some x):(zvd xs)[i]? = some ((i:Int),x):=by
 simp[zvd,h]
theorem zuJ{α:Type}(xs:List α):(zvd xs).length=xs.length:=by simp[zvd]
theorem zpP{L L1:List LB}(h:L=L1 ++ []):L=L1:=by simpa using h
theorem zml(x:S_api_Node){u:Unit}(hu:zhf x.rows=some u):Gen mC 129 [] [.fptr false (zab.c false x)] (zvd x.rows) (fun y n0 args G=>args=[dI y.1,fzE false (eI .i64) y.2]∧G=[]):=by
 intro n0 β P Ps hβ hlen hround L hP;refine zdH.ofM zuW (zcj rfl) (qai rfl) ?_;simp only[zvh,zss];refine zaa ?_;simp only[rnA,Nat.reduceEqDiff,Nat.reduceLT,Nat.reduceAdd,Nat.reduceLeDiff,reduceCtorEq,zak,zaC];refine EvL.scope (zaa ?_);simp only[rnA];have hw:∀(i:Nat),(i:Int)<x.rows.length→IntKind.i64.wrap ((i:Int)+1)=((i+1:Nat):Int):=by
  intro i hi;have:=zsX hu;rw[wrap64 (by omega) (by omega)];omega
 refine EvL.loop (α:=Nat×List LB) (fun a=>⟨19,[(0,.yld β),(6,fzE false (eL (eI .i64)) x.rows),(7,dI x.rows.length),(8,dI a.1)],a.2⟩) (fun a=>P a.1 a.2∧a.1≤x.rows.length) (fun a=>x.rows.length - a.1) (0,L) (zbP.sub ⟨rfl,rfl,rfl,rfl,qdn⟩) ⟨hP,qaC _⟩ ?_;rintro⟨i,L'⟩ ⟨hPi,hi⟩;simp only[zlC,zss];refine zaa ?_;cases hc:decide ((i:Int)<(x.rows.length:Int))with
 | false=>
  simp only[rnA,Nat.reduceEqDiff,Nat.reduceLT,reduceCtorEq,hc];refine⟨[],rfl,L',[],by simp,hlen _ _ hPi,.inl ?_⟩;rw[zuJ];have h1:=of_decide_eq_false hc;have h2:i=x.rows.length:=by omega
  rw[← h2];exact hPi
 | true=>
  have h1:=of_decide_eq_true hc;have h2:i<x.rows.length:=by omega
  have hg:za3 x.rows (i:Int)=some x.rows[i]:=zt1 h2;simp only[rnA,Nat.reduceEqDiff,Nat.reduceLT,reduceCtorEq,hc,zaS (n:=1) (e:=eL (eI .i64)) rfl hg];refine EvL.yield rfl rfl rfl (hround i ((i:Int),x.rows[i]) L' _ [] (zuP (qac h2)) hPi ⟨rfl,rfl⟩|> fun h=>by rw[qbi]at h; exact h) ?_;rintro b L2 ⟨L1,hL2,hl1,hb⟩;have:=zpP hL2;subst this;cases b with
  | true=>
   simp only[rnA,Nat.reduceEqDiff,Nat.reduceLT,reduceCtorEq];refine⟨(i+1,L2),⟨hb,h2⟩,?_,zbP.sub ⟨rfl,rfl,rfl,?_,qdn⟩⟩
   ·show x.rows.length - (i+1)<x.rows.length - i; omega
   ·simp only[lk,if_true];rw[hw i h1]
  | false=>
   simp only[rnA,Nat.reduceEqDiff,Nat.reduceLT,reduceCtorEq];exact⟨[],rfl,L2,[],by simp,hl1,.inr hb⟩
def zfK(g:List Int)(again:Int→Int→Option Int)(set:Int):Nat→Int→Int→Option Int
 | 0,_,_=>none
 | n+1,v,r=>bif decide (v<(g.length:Int))then
   (zhP .u64 (zub .u64 set r) v).bind fun q=>
   bif zfz .u64 q 1 == 1 then
    (zmB .u64 1 v).bind fun b=>(za3 g v).bind fun x=>(again x (orI .u64 r b)).bind fun r2=>zfK g again set n (w64 (v+1)) r2
   else zfK g again set n (w64 (v+1)) r
  else some r
def zfQ(g:List Int):Nat→Int→Int→Option Int
 | 0,_,_=>none
 | n+1,set,r=>zfK g (zfQ g n) set (g.length+2) 0 r
def zrW:C:=
 .seq (.reg false false [⟨some 6,.load none (.s 1),none⟩,
 ⟨some 7,.len (.s 6),none⟩,
 ⟨some 8,.mov (.c (.int .i64 0)),none⟩])
 (.scope (.block 0 (.loop (.seq (.reg false false [⟨some 9,.bin .lss (.s 8) (.s 7),none⟩])
 (.seq (.cond (.s 9) (.skip)
 (.exit 0))
 (.seq (.block 1 (.seq (.reg false false [⟨some 10,.mov (.s 8),none⟩,
 ⟨some 5,.mov (.s 10),none⟩])
 (.seq (.reg false false [⟨some 11,.mov (.s 0),none⟩,
 ⟨some 12,.load none (.s 2),none⟩,
 ⟨some 13,.bin .andNot (.s 11) (.s 12),none⟩,
 ⟨some 14,.mov (.s 5),none⟩,
 ⟨some 15,.bin .shr (.s 13) (.s 14),none⟩,
 ⟨some 16,.bin .and (.s 15) (.c (.int .u64 1)),none⟩,
 ⟨some 17,.bin .eql (.s 16) (.c (.int .u64 1)),none⟩])
 (.scope (.cond (.s 17) (.seq (.reg true false [⟨some 18,.load none (.s 2),none⟩,
 ⟨some 19,.mov (.s 5),none⟩,
 ⟨some 20,.bin .shl (.c (.int .u64 1)) (.s 19),none⟩,
 ⟨some 21,.bin .or (.s 18) (.s 20),none⟩,
 ⟨none,.store 1 (.s 2) (.s 21),none⟩])
 (.reg true false [⟨some 22,.load none (.s 3),none⟩,
 ⟨some 23,.load none (.s 1),none⟩,
 ⟨some 24,.mov (.s 5),none⟩,
 ⟨some 25,.idxS 1 (.s 23) (.s 24),none⟩,
 ⟨some 26,.load none (.s 25),none⟩,
 ⟨some 27,.zde (.s 22) [(.s 26)],none⟩]))
 (.skip))))))
 (.reg false false [⟨some 28,.bin .add (.s 8) (.c (.int .i64 1)),none⟩,
 ⟨some 8,.mov (.s 28),none⟩])))))))
theorem zrN:zl2 mC 90=some (29,zrW,[],false):=zcP (by kernel_rfl)
def L3(g:List Int)(r:Int):List LB:=[.cells [fzE false (eI .u64) g],.cells [dU r],.cells [.clo 90 [] [.ptr 0 0,.ptr 1 0,.ptr 2 0]]]
theorem zpf(g:List Int):∀(N:Nat) {set r r':Int},zfQ g N set r=some r'→zdH mC false 90 [dU set,.ptr 0 0,.ptr 1 0,.ptr 2 0] (L3 g r) (fun _ L'=>L'=L3 g r') (fun _ _=>False)
 | 0,set,r,r',h=>by cases h
 | N+1,set,r,r',h=>by
  refine zdH.ofM zrN (zcj rfl) (qai rfl) ?_;unfold zrW L3;refine zaa ?_;simp only[rnA,Nat.reduceEqDiff,Nat.reduceLT,Nat.reduceAdd,reduceCtorEq,zaC];refine EvL.scope (zaa ?_);simp only[rnA];obtain⟨T,hT⟩:∃ T:Int×Int→LSt,T=(fun a=>⟨29,[(0,dU set),(1,.ptr 0 0),(2,.ptr 1 0),(3,.ptr 2 0),(6,fzE false (eI .u64) g),(7,dI g.length),(8,dI a.1)],[.cells [fzE false (eI .u64) g],.cells [dU a.2],.cells [.clo 90 [] [.ptr 0 0,.ptr 1 0,.ptr 2 0]]]⟩):=⟨_,rfl⟩;refine EvL.rounds T (fun n a=>zfK g (zfQ g N) set n a.1 a.2=some r') (g.length+2) (0,r) (by rw[hT]; exact zbP.sub ⟨rfl,rfl,rfl,rfl,rfl,rfl,rfl,qdn⟩) h (fun _ h=>nomatch h) ?_;rintro n ⟨v,r⟩ h;simp only[zfK]at h;rw[congrFun hT (v,r)];refine zaa ?_;cases c1:decide (v<(g.length:Int))with
  | false=>
   rw[c1,cond_false]at h;simp only[rnA,Nat.reduceEqDiff,Nat.reduceLT,reduceCtorEq,c1];cases h;exact⟨[],rfl,rfl⟩
  | true=>
   rw[c1,cond_true]at h;obtain⟨q,g1,h⟩:=bind_some h;simp only[rnA,Nat.reduceEqDiff,Nat.reduceLT,reduceCtorEq,c1,(zaX g1).1,(zaX g1).2];refine EvL.scope (zaa ?_);cases c2:(zfz .u64 q 1 == 1)with
   | false=>
    rw[c2,cond_false]at h;simp only[rnA,Nat.reduceEqDiff,Nat.reduceLT,reduceCtorEq];exact⟨(w64 (v+1),r),h,by rw[hT]; exact zbP.sub ⟨rfl,rfl,rfl,rfl,rfl,rfl,rfl,qdn⟩⟩
   | true=>
    rw[c2,cond_true]at h;obtain⟨b,g2,h⟩:=bind_some h;obtain⟨x,g3,h⟩:=bind_some h;obtain⟨r2,g4,h⟩:=bind_some h;simp only[rnA,Nat.reduceEqDiff,Nat.reduceLT,Nat.reduceLeDiff,reduceCtorEq,(za6 g2).1,(za6 g2).2,zaS (n:=1) (e:=(eI .u64)) rfl g3];refine EvL.zde rfl rfl rfl (zpf g N g4) ?_ (fun _ _ h=>h.elim);rintro d L' rfl;unfold L3;simp only[rnA,Nat.reduceEqDiff,Nat.reduceLT,reduceCtorEq];exact⟨(w64 (v+1),r2),h,by rw[hT]; exact zbP.sub ⟨rfl,rfl,rfl,rfl,rfl,rfl,rfl,qdn⟩⟩
def zdt(N:Nat)(g:List Int)(set:Int):Option Int:=zfQ g N set 0
def zgJ:C:=
 .seq (rg [oW 2 0,
 ⟨some 4,.mov (.c (.int .u64 0)),none⟩])
 (.seq (rg [⟨some 5,.alloc [(.int .u64 0)],none⟩,
 ⟨none,.store 1 (.s 5) (.c (.int .u64 0)),none⟩])
 (.seq (rg [⟨some 6,.alloc [.nilFunc],none⟩])
 (.seq (rg [⟨some 7,.clo 90 [] [(.s 2),(.s 5),(.s 6)],none⟩,
 oS 1 6 7])
 (.seq (rg [oL 8 6,
 oM 9 1,
 ⟨some 10,.zde (.s 8) [(.s 9)],none⟩])
 (.seq (rg [oL 11 5,
 oM 4 11])
 (.ret))))))
theorem ziA:zl2 mC 61=some (12,zgJ,[.tmp 4],false):=zcP (by kernel_rfl)
theorem ziZ{N:Nat}{p0:List Int}{p1 r:Int}(h:zdt N p0 p1=some r):Lx.Fn mC 61 [(fzE false (eI .u64) p0),(dU p1)] (dU r):=by
 refine Fn.of ziA (zcj rfl) (qai rfl) ?_;simp only[zgJ,zss];refine zaa ?_;simp only[rnA,Nat.reduceEqDiff,Nat.reduceLT,Nat.reduceAdd,Nat.reduceLeDiff,reduceCtorEq];refine EvL.zde rfl rfl rfl (zpf p0 N h) ?_ (fun _ _ h=>h.elim);rintro d L' rfl;unfold L3;simp only[rnA,Nat.reduceEqDiff,Nat.reduceLT,reduceCtorEq];exact zeb.ret rfl (.lit _)
end Go.Dc
set_option maxRecDepth 100000
set_option maxHeartbeats 4000000
namespace Go.Dc
open Go Go.Mx Go.Lx Go.Proofs
abbrev KB(n:Nat)(es:List (List D)):Prop:=∀ kp:Nat→Bool,(∀ j,j<n→kp j=true)→∀ cs∈es,D.zgY kp cs
theorem Mt.zgY{L:List LB}{F kp:Nat→Bool}:∀ {es:List (List D)},(∀ cs∈es,D.zgY kp cs)→Mt L F kp es es
 | [],_=>.nil
 | x :: r,h=>.cons (Mos.kin (h x qao)) (Mt.zgY fun cs hc=>h cs (qaj _ hc))
theorem KB.app{n:Nat}{a b:List (List D)}(ha:KB n a)(hb:KB n b):KB n (a ++ b):=by
 intro kp h cs hm;rcases qa9.1 hm with hm | hm
 ·exact ha kp h cs hm
 exact hb kp h cs hm
theorem KB.map{α:Type}{n:Nat}(e:En α)(t:Bool)(xs:List α):KB n (xs.map (e.c t)):=fun kp _=>zkh e kp t xs
theorem KB.one{n:Nat}{c:List D}(h:∀ kp:Nat→Bool,(∀ j,j<n→kp j=true)→D.zgY kp c):KB n [c]:=fun kp hk cs hm=>by rw[qaQ.1 hm]; exact h kp hk
theorem KB.le{n m:Nat}{a:List (List D)}(ha:KB n a)(h:n≤m):KB m a:=fun kp hk=>ha kp fun j hj=>hk j (qbq hj h)
abbrev fzR(r:List Int):List D:=[fzE true (eI .i64) r]
theorem kfz{kp:Nat→Bool}{rs:List (List Int)}:∀ cs∈rs.map fzR,D.zgY kp cs:=zkh (eL (eI .i64)) kp true rs
theorem KB.fz{n:Nat}{rs:List (List Int)}:KB n (rs.map fzR):=fun kp _=>kfz
theorem KB.nil{n:Nat}:KB n []:=fun _ _ _ h=>nomatch h
structure FitN (x:S_api_Node):Prop where
 ps:(x.parents.length+1)* 8≤zai
 rs:(x.rows.length+1)* 24≤zai
 row:∀ r∈x.rows,(r.length+1)* 8≤zai
theorem FitN.p1{x:S_api_Node}(h:FitN x):x.parents.length * 8≤zai:=by have:=h.ps; omega
theorem FitN.r1{x:S_api_Node}(h:FitN x):x.rows.length * 24≤zai:=by have:=h.rs; omega
theorem FitN.w1{x:S_api_Node}(h:FitN x):∀ r∈x.rows,r.length * 8≤zai:=fun r hr=>by have:=h.row r hr; omega
instance (x:S_api_Node):Decidable (FitN x):=decidable_of_iff ((x.parents.length+1)* 8≤zai∧(x.rows.length+1)* 24≤zai∧∀ r∈x.rows,(r.length+1)* 8≤zai) ⟨fun h=>⟨h.1,h.2.1,h.2.2⟩,fun h=>⟨h.ps,h.rs,h.row⟩⟩
def zdm(zay steps:List Int):Option (List Int×List Int):=some (zay,steps)
end Go.Dc
