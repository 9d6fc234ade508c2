/-
 What index_count computes. Conditions: none.
-/
import Derived.Test.YtnfgibomhkbcpaaFgQt
import Derived.Test.YtnfgibomhkbcpaaFgLi
set_option linter.unusedSimpArgs false
set_option linter.unusedVariables false
set_option maxRecDepth 100000
set_option maxHeartbeats 4000000
namespace Go.Dc
open Go Go.Mx Go.Lx Go.Proofs
def zbR(p0:(List Int)):Nat→Int→Int→Option (Int×Bool)
 | 0,_,_=>none
 | n+1,v2,v11=>(
bif (decide (v11<(p0.length:Int)))then(
(zbr p0 v11).bind fun x3=>
((bif (decide (x3<1))then(
some true)
else(
bif (decide (8<x3))then(
some true)
else(
some (decide (4096<(w64 (v2 * x3)))))):Option Bool)).bind fun v15=>
bif v15 then(
some (0,false))
else(
zbR p0 n (w64 (v2 * x3)) (w64 (v11+1))))
else(
some (v2,true)))
def zc9(p0:(List Int)):Option (Int×Bool):=
bif (decide (12<(p0.length:Int)))then(
some (0,false))
else(
((zbR p0 ((p0.length:Int) - 0+2:Int).toNat 1 0:Option ((Int×Bool)))).bind fun o=>match o with
|(v2,v3)=>(
some (v2,v3)))
theorem zhr{p0:(List Int)}{r:(Int×Bool)}(h:zc9 p0=some r):Lx.Fn mC 134 [(fzE false (eI .i64) p0)] (.tup [(dI r.1),(dB r.2)]):=by
 refine fnO (by conv=>lhs; cbv) ?_;unfold zc9 at h;refine zab ?_;try simp only[rnA,Nat.reduceLT]
 refine EvL.scope (zab ?_);try simp only[rnA,Nat.reduceEqDiff,Nat.reduceLT,reduceCtorEq,zaY]
 cases c1:(decide (12<(p0.length:Int)))
 ·rw[c1,cond_false]at h;try simp only[rnA,Nat.reduceEqDiff,Nat.reduceLT,reduceCtorEq,zaY]
  obtain⟨o12,j12,h⟩:=bind_some h;obtain⟨T12,hT12⟩:=mkT fun a:(Int×Bool)=>⟨30,[(2,(dI a.1)),(3,(dB a.2))],[]⟩
  refine EvL.jn T12 (fun a=>a=o12) ?_ ?_
  ·refine zab ?_;simp only[rnA];obtain⟨T15,hT15⟩:=mkT fun a:(Int×Int)=>⟨30,[(2,(dI a.1)),(3,(dB true)),(9,(fzE false (eI .i64) p0)),(10,(dI (p0.length:Int))),(11,(dI a.2))],[]⟩
   refine EvL.rounds (α:=(Int×Int)) T15 (fun n a=>zbR p0 n a.1 a.2=some o12) ((p0.length:Int) - 0+2:Int).toNat (1,0) (by rw[hT15]; exact wm0 [] (by exact trivial)) j12 (fun _ h=>nomatch (show(none:Option (Int×Bool))=some o12 from h)) ?_;rintro n ⟨v2,v11⟩ j12;simp only[zbR]at j12;rw[congrFun hT15 (v2,v11)];refine zab ?_;try simp only[rnA,Nat.reduceEqDiff,Nat.reduceLT]
   cases c2:(decide (v11<(p0.length:Int)))
   ·rw[c2,cond_false]at j12;try simp only[rnA]
    replace j12:=qab j12; subst j12;exact lfj hT12 rfl (wm0 [] (by exact trivial))
   rw[c2,cond_true]at j12;obtain⟨x3,g4,j12⟩:=bind_some j12;try simp only[rnA,Nat.reduceEqDiff,Nat.reduceLT,zat (n:=1) (e:=(eI .i64)) rfl g4]
   obtain⟨o16,j16,j12⟩:=bind_some j12;obtain⟨T16,hT16⟩:=mkT fun a:Bool=>⟨30,[(2,(dI v2)),(3,(dB true)),(5,(dI x3)),(9,(fzE false (eI .i64) p0)),(10,(dI (p0.length:Int))),(11,(dI v11)),(15,(dB a))],[]⟩
   refine EvL.jn T16 (fun a=>a=o16) ?_ ?_
   ·refine zab ?_;try simp only[rnA,Nat.reduceEqDiff]
    cases c5:(decide (x3<1))
    ·rw[c5,cond_false]at j16;try simp only[rnA,Nat.reduceEqDiff,Nat.reduceLT]
     cases c6:(decide (8<x3))
     ·rw[c6,cond_false]at j16;try simp only[rnA,Nat.reduceEqDiff,Nat.reduceLT]
      replace j16:=qab j16; subst j16;exact lfj hT16 rfl (wm0 [] (by exact trivial))
     rw[c6,cond_true]at j16;try simp only[rnA]
     replace j16:=qab j16; subst j16;exact lfj hT16 rfl (wm0 [] (by exact trivial))
    rw[c5,cond_true]at j16;try simp only[rnA]
    replace j16:=qab j16; subst j16;exact lfj hT16 rfl (wm0 [] (by exact trivial))
   rintro v15 rfl;rw[congrFun hT16 v15];refine zab ?_;try simp only[rnA,Nat.reduceEqDiff]
   cases c7:v15
   ·rw[c7,cond_false]at j12;try simp only[rnA,Nat.reduceEqDiff,Nat.reduceLT]
    exact⟨((w64 (v2 * x3)),(w64 (v11+1))),j12,by rw[hT15]; exact wm0 [] (by exact trivial)⟩
   rw[c7,cond_true]at j12;try simp only[rnA,Nat.reduceEqDiff,Nat.reduceLT,reduceCtorEq]
   replace j12:=qab j12; subst j12;exact lfj hT12 rfl (wm0 [] (by exact trivial))
  rintro⟨v2,v3⟩ rfl;dsimp only at h;rw[congrFun hT12 (v2,v3)];refine zab ?_;try simp only[rnA,Nat.reduceEqDiff,Nat.reduceLT]
  replace h:=qab h; subst h;exact zcH.ret rfl (Snp.zdf (.cons (.lit _) (.cons (.lit _) .nil)))
 rw[c1,cond_true]at h;try simp only[rnA,Nat.reduceLT]
 replace h:=qab h; subst h;exact zcH.ret rfl (Snp.zdf (.cons (.lit _) (.cons (.lit _) .nil)))
def zb6(p0:(List Int)):Option (Int×Int):=
(zc9 p0).bind fun r1=>
bif r1.2 then(
some (r1.1,0))
else(
some (0,20))
theorem zfl{p0:(List Int)}{r:(Int×Int)}(h:zb6 p0=some r):Lx.Fn mC 92 [(fzE false (eI .i64) p0)] (.tup [(dI r.1),(dI r.2)]):=by
 refine fnO (by conv=>lhs; cbv) ?_;unfold zb6 at h;refine zab ?_;obtain⟨r1,g2,h⟩:=bind_some h;try simp only[rnA,Nat.reduceEqDiff,reduceIte,Nat.reduceLT,Nat.reduceAdd,Nat.reduceLeDiff,Nat.reduceMul,Nat.reduceSub,Int.reduceLE,Int.reduceLT,Int.reduceBEq,Nat.reduceBEq,reduceCtorEq]
 refine EvL.fn (zhr g2) rfl rfl (.cons (zaa _ _ (fun h=>nomatch h)) .nil) ?_;try simp only[rnA,Nat.reduceEqDiff,reduceIte,Nat.reduceLT,Nat.reduceAdd,Nat.reduceLeDiff,Nat.reduceMul,Nat.reduceSub,Int.reduceLE,Int.reduceLT,Int.reduceBEq,Nat.reduceBEq,reduceCtorEq]
 cases c3:r1.2
 ·rw[c3,cond_false]at h;try simp only[rnA,Nat.reduceEqDiff,reduceIte,Nat.reduceLT,Nat.reduceAdd,Nat.reduceLeDiff,Nat.reduceMul,Nat.reduceSub,Int.reduceLE,Int.reduceLT,Int.reduceBEq,Nat.reduceBEq,reduceCtorEq,c3]
  replace h:=qab h; subst h;exact zcH.ret rfl (Snp.zdf (.cons (.lit _) (.cons (.lit _) .nil)))
 rw[c3,cond_true]at h;try simp only[rnA,Nat.reduceEqDiff,reduceIte,Nat.reduceLT,Nat.reduceAdd,Nat.reduceLeDiff,Nat.reduceMul,Nat.reduceSub,Int.reduceLE,Int.reduceLT,Int.reduceBEq,Nat.reduceBEq,reduceCtorEq,c3]
 replace h:=qab h; subst h;exact zcH.ret rfl (Snp.zdf (.cons (.lit _) (.cons (.lit _) .nil)))
def zbS(p0:S_api_Factor):Nat→Int→Int→Option (Out Unit (S_factor_table×Int))
 | 0,_,_=>none
 | n+1,v6,v42=>(
bif (decide (v42<(p0.vars.length:Int)))then(
(zbr p0.vars v42).bind fun x7=>
((bif (decide (x7≤v6))then(
some true)
else(
some (decide (63<x7))):Option Bool)).bind fun v52=>
bif v52 then(
some (.ret ((S_factor_table.mk (S_api_Factor.mk [] [] []) []),30)))
else(
zbS p0 n x7 (w64 (v42+1))))
else(
some (.go ())))
def zbT(p0:S_api_Factor):Nat→Int→Option (Out Unit (S_factor_table×Int))
 | 0,_=>none
 | n+1,v59=>(
bif (decide (v59<(p0.w.length:Int)))then(
(zbr p0.w v59).bind fun x12=>
((bif (decide (x12<0))then(
some true)
else(
some (decide (4611686018427387903<x12))):Option Bool)).bind fun v68=>
bif v68 then(
some (.ret ((S_factor_table.mk (S_api_Factor.mk [] [] []) []),30)))
else(
zbT p0 n (w64 (v59+1))))
else(
some (.go ())))
def zbs(p0:S_api_Factor):Nat→Int→Int→(List Int)→Option (List Int)
 | 0,_,_,_=>none
 | n+1,v12,v13,l2=>(
bif (decide (0≤v13))then(
(zbr l2 v13).bind fun x19=>
(zgs l2 v13 v12).bind fun y21=>
(zbr p0.zad v13).bind fun x23=>
zbs p0 n (w64 (v12 * x23)) (w64 (v13 - 1)) y21)
else(
some l2))
def zaw(p0:S_api_Factor):Option (S_factor_table×Int):=
(zb6 p0.zad).bind fun r1=>
((bif (r1.2 == 0)then(
bif ((p0.vars.length:Int)==(p0.zad.length:Int))then(
some (!((p0.w.length:Int)== r1.1)))
else(
some true))
else(
some true):Option Bool)).bind fun v37=>
bif v37 then(
some ((S_factor_table.mk (S_api_Factor.mk [] [] []) []),30))
else(
((zbS p0 ((p0.vars.length:Int) - 0+2:Int).toNat (-1) 0:Option (Out Unit (S_factor_table×Int)))).bind fun o=>match o with
| .go _=>(
((zbT p0 ((p0.w.length:Int) - 0+2:Int).toNat 0:Option (Out Unit (S_factor_table×Int)))).bind fun o=>match o with
| .go _=>(
(zd3 8 (p0.zad.length:Int) 0).bind fun y16=>
((zbs p0 ((w64 ((((Int.toNat (p0.zad.length:Int)):Nat):Int) - 1)) - 0+2:Int).toNat 1 (w64 ((((Int.toNat (p0.zad.length:Int)):Nat):Int) - 1)) y16:Option (List Int))).bind fun l2=>
some ((S_factor_table.mk p0 l2),0))
| .ret r=>some r)
| .ret r=>some r)
theorem zaR{p0:S_api_Factor}{r:(S_factor_table×Int)}(h:zaw p0=some r):Lx.FnA mC 89 [(.agg [(fzE false (eI .i64) p0.vars),(fzE false (eI .i64) p0.zad),(fzE false (eI .i64) p0.w)])] (.tup [(.agg [(fzE false (eI .i64) r.1.factor.vars),(fzE false (eI .i64) r.1.factor.zad),(fzE false (eI .i64) r.1.factor.w),(fzE false (eI .i64) r.1.steps)]),(dI r.2)]):=by
 refine zsp (by conv=>lhs; cbv) ?_;unfold zaw at h;refine zab ?_;obtain⟨r1,g2,h⟩:=bind_some h;try simp only[rnA,Nat.reduceEqDiff,Nat.reduceLT,reduceCtorEq]
 refine EvL.fn (zfl g2) rfl rfl (.cons (zaa _ _ (fun h=>nomatch h)) .nil) ?_;try simp only[rnA,Nat.reduceEqDiff,Nat.reduceLT,reduceCtorEq]
 obtain⟨o1,j1,h⟩:=bind_some h;obtain⟨T1,hT1⟩:=mkT fun a:Bool=>⟨96,[(1,(.ptr 0 0)),(2,(.ptr 1 0)),(37,(dB a))],[.cells [(fzE false (eI .i64) p0.vars),(fzE false (eI .i64) p0.zad),(fzE false (eI .i64) p0.w)],.cells [zar,zar,zar,zar]]⟩
 refine EvL.jn T1 (fun a=>a=o1) ?_ ?_
 ·refine zab ?_;try simp only[rnA,Nat.reduceEqDiff,Nat.reduceLT,reduceCtorEq]
  cases c3:(r1.2 == 0)
  ·rw[c3,cond_false]at j1;try simp only[rnA,Nat.reduceEqDiff,Nat.reduceLT,reduceCtorEq]
   replace j1:=qab j1; subst j1;exact lfj hT1 rfl (wm0 [.k,.k] ⟨MB.cs ⟨qcf,qcf,qcf,qcf⟩,⟨MB.cs ⟨qcf,qcf,qcf,qcf,qcf⟩,qcf⟩⟩)
  rw[c3,cond_true]at j1;try simp only[rnA,Nat.reduceEqDiff,Nat.reduceLT,reduceCtorEq,zaY]
  cases c4:((p0.vars.length:Int)==(p0.zad.length:Int))
  ·rw[c4,cond_false]at j1;try simp only[rnA,Nat.reduceEqDiff,Nat.reduceLT,reduceCtorEq]
   replace j1:=qab j1; subst j1;exact lfj hT1 rfl (wm0 [.k,.k] ⟨MB.cs ⟨qcf,qcf,qcf,qcf⟩,⟨MB.cs ⟨qcf,qcf,qcf,qcf,qcf⟩,qcf⟩⟩)
  rw[c4,cond_true]at j1;try simp only[rnA,Nat.reduceEqDiff,Nat.reduceLT,reduceCtorEq,zaY]
  replace j1:=qab j1; subst j1;exact lfj hT1 rfl (wm0 [.k,.k] ⟨MB.cs ⟨qcf,qcf,qcf,qcf⟩,⟨MB.cs ⟨qcf,qcf,qcf,qcf,qcf⟩,qcf⟩⟩)
 rintro v37 rfl;rw[congrFun hT1 v37];refine zab ?_;try simp only[rnA,Nat.reduceEqDiff]
 cases c5:v37
 ·rw[c5,cond_false]at h;try simp only[rnA,Nat.reduceEqDiff,Nat.reduceLT,zaY]
  obtain⟨o5,j5,h⟩:=bind_some h;obtain⟨T5,hT5⟩:=mkT fun a:Unit=>⟨96,[(1,(.ptr 0 0)),(2,(.ptr 1 0))],[.cells [(fzE false (eI .i64) p0.vars),(fzE false (eI .i64) p0.zad),(fzE false (eI .i64) p0.w)],.cells [zar,zar,zar,zar]]⟩
  refine EvL.jn T5 (fun a=>o5=.go a) ?_ ?_
  ·refine zab ?_;simp only[rnA];obtain⟨T8,hT8⟩:=mkT fun a:(Int×Int)=>⟨96,[(1,(.ptr 0 0)),(2,(.ptr 1 0)),(6,(dI a.1)),(40,(fzE false (eI .i64) p0.vars)),(41,(dI (p0.vars.length:Int))),(42,(dI a.2))],[.cells [(fzE false (eI .i64) p0.vars),(fzE false (eI .i64) p0.zad),(fzE false (eI .i64) p0.w)],.cells [zar,zar,zar,zar]]⟩
   refine EvL.rounds (α:=(Int×Int)) T8 (fun n a=>zbS p0 n a.1 a.2=some o5) ((p0.vars.length:Int) - 0+2:Int).toNat ((-1),0) (by rw[hT8]; exact wm0 [.k,.k] ⟨MB.cs ⟨qcf,qcf,qcf,qcf⟩,⟨MB.cs ⟨qcf,qcf,qcf,qcf,qcf⟩,qcf⟩⟩) j5 (fun _ h=>nomatch (show(none:Option (Out Unit (S_factor_table×Int)))=some o5 from h)) ?_;rintro n ⟨v6,v42⟩ j5;simp only[zbS]at j5;rw[congrFun hT8 (v6,v42)];refine zab ?_;try simp only[rnA,Nat.reduceEqDiff,Nat.reduceLT]
   cases c6:(decide (v42<(p0.vars.length:Int)))
   ·rw[c6,cond_false]at j5;try simp only[rnA]
    replace j5:=qab j5; subst j5;exact lfj hT5 rfl (wm0 [.k,.k] ⟨MB.cs ⟨qcf,qcf,qcf,qcf⟩,⟨MB.cs ⟨qcf,qcf,qcf,qcf,qcf⟩,qcf⟩⟩)
   rw[c6,cond_true]at j5;obtain⟨x7,g8,j5⟩:=bind_some j5;try simp only[rnA,Nat.reduceEqDiff,Nat.reduceLT,zat (n:=1) (e:=(eI .i64)) rfl g8]
   obtain⟨o9,j9,j5⟩:=bind_some j5;obtain⟨T9,hT9⟩:=mkT fun a:Bool=>⟨96,[(1,(.ptr 0 0)),(2,(.ptr 1 0)),(8,(dI x7)),(40,(fzE false (eI .i64) p0.vars)),(41,(dI (p0.vars.length:Int))),(42,(dI v42)),(52,(dB a))],[.cells [(fzE false (eI .i64) p0.vars),(fzE false (eI .i64) p0.zad),(fzE false (eI .i64) p0.w)],.cells [zar,zar,zar,zar]]⟩
   refine EvL.jn T9 (fun a=>a=o9) ?_ ?_
   ·refine zab ?_;try simp only[rnA,Nat.reduceEqDiff,Nat.reduceLT]
    cases c9:(decide (x7≤v6))
    ·rw[c9,cond_false]at j9;try simp only[rnA,Nat.reduceEqDiff,Nat.reduceLT]
     replace j9:=qab j9; subst j9;exact lfj hT9 rfl (wm0 [.k,.k] ⟨MB.cs ⟨qcf,qcf,qcf,qcf⟩,⟨MB.cs ⟨qcf,qcf,qcf,qcf,qcf⟩,qcf⟩⟩)
    rw[c9,cond_true]at j9;try simp only[rnA,Nat.reduceEqDiff,Nat.reduceLT]
    replace j9:=qab j9; subst j9;exact lfj hT9 rfl (wm0 [.k,.k] ⟨MB.cs ⟨qcf,qcf,qcf,qcf⟩,⟨MB.cs ⟨qcf,qcf,qcf,qcf,qcf⟩,qcf⟩⟩)
   rintro v52 rfl;rw[congrFun hT9 v52];refine zab ?_;try simp only[rnA,Nat.reduceEqDiff]
   cases c10:v52
   ·rw[c10,cond_false]at j5;try simp only[rnA,Nat.reduceEqDiff,Nat.reduceLT]
    exact⟨(x7,(w64 (v42+1))),j5,by rw[hT8]; exact wm0 [.k,.k] ⟨MB.cs ⟨qcf,qcf,qcf,qcf⟩,⟨MB.cs ⟨qcf,qcf,qcf,qcf,qcf⟩,qcf⟩⟩⟩
   rw[c10,cond_true]at j5;try simp only[rnA,Nat.reduceEqDiff,Nat.reduceLT,Nat.reduceAdd,Nat.reduceLeDiff]
   replace j5:=qab j5; subst j5;dsimp only at h;replace h:=qab h; subst h;exact ze4.ret rfl (Snp.zdf (.cons (.zaS (.cons (zai (eI .i64)) (.cons (zai (eI .i64)) (.cons (zai (eI .i64)) (.cons (zai (eI .i64)) .nil))))) (.cons (.lit _) .nil)))
  rintro⟨⟩ rfl;dsimp only at h;rw[congrFun hT5 ()];refine zab ?_;try simp only[rnA,Nat.reduceEqDiff,Nat.reduceLT,zaY]
  obtain⟨o13,j13,h⟩:=bind_some h;obtain⟨T13,hT13⟩:=mkT fun a:Unit=>⟨96,[(1,(.ptr 0 0)),(2,(.ptr 1 0))],[.cells [(fzE false (eI .i64) p0.vars),(fzE false (eI .i64) p0.zad),(fzE false (eI .i64) p0.w)],.cells [zar,zar,zar,zar]]⟩
  refine EvL.jn T13 (fun a=>o13=.go a) ?_ ?_
  ·refine zab ?_;simp only[rnA];obtain⟨T16,hT16⟩:=mkT fun a:Int=>⟨96,[(1,(.ptr 0 0)),(2,(.ptr 1 0)),(57,(fzE false (eI .i64) p0.w)),(58,(dI (p0.w.length:Int))),(59,(dI a))],[.cells [(fzE false (eI .i64) p0.vars),(fzE false (eI .i64) p0.zad),(fzE false (eI .i64) p0.w)],.cells [zar,zar,zar,zar]]⟩
   refine EvL.rounds (α:=Int) T16 (fun n a=>zbT p0 n a=some o13) ((p0.w.length:Int) - 0+2:Int).toNat 0 (by rw[hT16]; exact wm0 [.k,.k] ⟨MB.cs ⟨qcf,qcf,qcf,qcf⟩,⟨MB.cs ⟨qcf,qcf,qcf,qcf,qcf⟩,qcf⟩⟩) j13 (fun _ h=>nomatch (show(none:Option (Out Unit (S_factor_table×Int)))=some o13 from h)) ?_;rintro n v59 j13;simp only[zbT]at j13;rw[congrFun hT16 v59];refine zab ?_;try simp only[rnA,Nat.reduceEqDiff,Nat.reduceLT]
   cases c11:(decide (v59<(p0.w.length:Int)))
   ·rw[c11,cond_false]at j13;try simp only[rnA]
    replace j13:=qab j13; subst j13;exact lfj hT13 rfl (wm0 [.k,.k] ⟨MB.cs ⟨qcf,qcf,qcf,qcf⟩,⟨MB.cs ⟨qcf,qcf,qcf,qcf,qcf⟩,qcf⟩⟩)
   rw[c11,cond_true]at j13;obtain⟨x12,g13,j13⟩:=bind_some j13;try simp only[rnA,Nat.reduceEqDiff,Nat.reduceLT,zat (n:=1) (e:=(eI .i64)) rfl g13]
   obtain⟨o17,j17,j13⟩:=bind_some j13;obtain⟨T17,hT17⟩:=mkT fun a:Bool=>⟨96,[(1,(.ptr 0 0)),(2,(.ptr 1 0)),(57,(fzE false (eI .i64) p0.w)),(58,(dI (p0.w.length:Int))),(59,(dI v59)),(68,(dB a))],[.cells [(fzE false (eI .i64) p0.vars),(fzE false (eI .i64) p0.zad),(fzE false (eI .i64) p0.w)],.cells [zar,zar,zar,zar]]⟩
   refine EvL.jn T17 (fun a=>a=o17) ?_ ?_
   ·refine zab ?_;try simp only[rnA,Nat.reduceEqDiff,Nat.reduceLT]
    cases c14:(decide (x12<0))
    ·rw[c14,cond_false]at j17;try simp only[rnA,Nat.reduceEqDiff,Nat.reduceLT]
     replace j17:=qab j17; subst j17;exact lfj hT17 rfl (wm0 [.k,.k] ⟨MB.cs ⟨qcf,qcf,qcf,qcf⟩,⟨MB.cs ⟨qcf,qcf,qcf,qcf,qcf⟩,qcf⟩⟩)
    rw[c14,cond_true]at j17;try simp only[rnA,Nat.reduceEqDiff,Nat.reduceLT]
    replace j17:=qab j17; subst j17;exact lfj hT17 rfl (wm0 [.k,.k] ⟨MB.cs ⟨qcf,qcf,qcf,qcf⟩,⟨MB.cs ⟨qcf,qcf,qcf,qcf,qcf⟩,qcf⟩⟩)
   rintro v68 rfl;rw[congrFun hT17 v68];refine zab ?_;try simp only[rnA,Nat.reduceEqDiff]
   cases c15:v68
   ·rw[c15,cond_false]at j13;try simp only[rnA,Nat.reduceEqDiff,Nat.reduceLT]
    exact⟨(w64 (v59+1)),j13,by rw[hT16]; exact wm0 [.k,.k] ⟨MB.cs ⟨qcf,qcf,qcf,qcf⟩,⟨MB.cs ⟨qcf,qcf,qcf,qcf,qcf⟩,qcf⟩⟩⟩
   rw[c15,cond_true]at j13;try simp only[rnA,Nat.reduceEqDiff,Nat.reduceLT,Nat.reduceAdd,Nat.reduceLeDiff]
   replace j13:=qab j13; subst j13;dsimp only at h;replace h:=qab h; subst h;exact ze4.ret rfl (Snp.zdf (.cons (.zaS (.cons (zai (eI .i64)) (.cons (zai (eI .i64)) (.cons (zai (eI .i64)) (.cons (zai (eI .i64)) .nil))))) (.cons (.lit _) .nil)))
  rintro⟨⟩ rfl;dsimp only at h;rw[congrFun hT13 ()];refine zab ?_;obtain⟨y16,g17,h⟩:=bind_some h;try simp only[rnA,Nat.reduceEqDiff,Nat.reduceLT,Nat.reduceAdd,zaY,(zas g17).1.1,(zas g17).1.2,qbv,(show List.replicate (Int.toNat (p0.zad.length:Int)) [(dI 0)]=y16.map ((eI .i64).c true)from zbD g17 ((eI .i64).c true)),zbm g17]
  obtain⟨o18,j18,h⟩:=bind_some h;obtain⟨T18,hT18⟩:=mkT fun a:(List Int)=>⟨96,[(1,(.ptr 0 0)),(2,(.ptr 1 0)),(11,(.sl 2 0 1 (Int.toNat (p0.zad.length:Int)) (some (Int.toNat (p0.zad.length:Int))) (Int.toNat (p0.zad.length:Int))))],[.cells [(fzE false (eI .i64) p0.vars),(fzE false (eI .i64) p0.zad),(fzE false (eI .i64) p0.w)],.cells [zar,zar,zar,zar],.els 1 (a.map ((eI .i64).c true))]⟩
  refine EvL.jn T18 (fun a=>a=o18∧a.length=(Int.toNat (p0.zad.length:Int))) ?_ ?_
  ·refine zab ?_;simp only[rnA];obtain⟨T19,hT19⟩:=mkT fun a:(Int×Int×(List Int))=>⟨96,[(1,(.ptr 0 0)),(2,(.ptr 1 0)),(11,(.sl 2 0 1 (Int.toNat (p0.zad.length:Int)) (some (Int.toNat (p0.zad.length:Int))) (Int.toNat (p0.zad.length:Int)))),(12,(dI a.1)),(13,(dI a.2.1))],[.cells [(fzE false (eI .i64) p0.vars),(fzE false (eI .i64) p0.zad),(fzE false (eI .i64) p0.w)],.cells [zar,zar,zar,zar],.els 1 (a.2.2.map ((eI .i64).c true))]⟩
   refine EvL.rounds (α:=(Int×Int×(List Int))) T19 (fun n a=>zbs p0 n a.1 a.2.1 a.2.2=some o18∧a.2.2.length=(Int.toNat (p0.zad.length:Int))) ((w64 ((((Int.toNat (p0.zad.length:Int)):Nat):Int) - 1)) - 0+2:Int).toNat (1,(w64 ((((Int.toNat (p0.zad.length:Int)):Nat):Int) - 1)),y16) (by rw[hT19]; exact wm0 [.k,.k,.k] ⟨MB.cs ⟨qcf,qcf,qcf,qcf⟩,⟨MB.cs ⟨qcf,qcf,qcf,qcf,qcf⟩,⟨MB.es (eI .i64) true y16,qcf⟩⟩⟩) ⟨j18,zbm g17⟩ (fun _ h=>nomatch (show(none:Option (List Int))=some o18 from h.1)) ?_;rintro n ⟨v12,v13,l2⟩ ⟨j18,el2⟩;simp only[zbs]at j18;rw[congrFun hT19 (v12,v13,l2)];refine zab ?_;try simp only[rnA,Nat.reduceEqDiff,Nat.reduceLT]
   cases c18:(decide (0≤v13))
   ·rw[c18,cond_false]at j18;try simp only[rnA]
    replace j18:=qab j18; subst j18;exact⟨_,⟨rfl,el2⟩,by rw[hT18]; exact wm0 [.k,.k,.k] ⟨MB.cs ⟨qcf,qcf,qcf,qcf⟩,⟨MB.cs ⟨qcf,qcf,qcf,qcf,qcf⟩,⟨MB.es (eI .i64) true l2,qcf⟩⟩⟩⟩
   rw[c18,cond_true]at j18;obtain⟨x19,g20,j18⟩:=bind_some j18;obtain⟨y21,g22,j18⟩:=bind_some j18;obtain⟨x23,g24,j18⟩:=bind_some j18;try simp only[rnA,Nat.reduceEqDiff,Nat.reduceLT,Nat.reduceLeDiff,el2,zbh g20,(show v13<(((Int.toNat (p0.zad.length:Int)):Nat):Int)from el2 ▸ zbe g20),zaH g20 ((eI .i64).c true),(show(l2.map ((eI .i64).c true)).set v13.toNat [(dI v12)]=y21.map ((eI .i64).c true)from zbv g22 ((eI .i64).c true)),zat (n:=1) (e:=(eI .i64)) rfl g24]
   exact⟨((w64 (v12 * x23)),(w64 (v13 - 1)),y21),⟨j18,(za8 g22).trans el2⟩,by rw[hT19]; exact wm0 [.k,.k,.k] ⟨MB.cs ⟨qcf,qcf,qcf,qcf⟩,⟨MB.cs ⟨qcf,qcf,qcf,qcf,qcf⟩,⟨MB.es (eI .i64) true y21,qcf⟩⟩⟩⟩
  rintro l2 ⟨rfl,el2⟩;rw[congrFun hT18 l2];refine zab ?_;try simp only[rnA,Nat.reduceEqDiff,Nat.reduceLT,Nat.reduceAdd,Nat.reduceLeDiff]
  replace h:=qab h; subst h;exact ze4.ret rfl (Snp.zdf (.cons (.zaS (.cons (zaa _ _ (fun h=>nomatch h)) (.cons (zaa _ _ (fun h=>nomatch h)) (.cons (zaa _ _ (fun h=>nomatch h)) (.cons (zb2 (e:=(eI .i64)) (t:=true) rfl (.inl rfl) (el2).symm (el2).symm (fun k h=>by cases h; exact qaj _) (fun h=>nomatch h)) .nil))))) (.cons (.lit _) .nil)))
 rw[c5,cond_true]at h;try simp only[rnA,Nat.reduceEqDiff,Nat.reduceLT,Nat.reduceAdd,Nat.reduceLeDiff]
 replace h:=qab h; subst h;exact ze4.ret rfl (Snp.zdf (.cons (.zaS (.cons (zai (eI .i64)) (.cons (zai (eI .i64)) (.cons (zai (eI .i64)) (.cons (zai (eI .i64)) .nil))))) (.cons (.lit _) .nil)))
theorem zii{α:Type}{L:List LB}{β:Nat}(e:En α)(x:α)(h:L[β]? = some (.cells (e.c false x))):Snp L false (.ptr β 0) (.fptr false (e.c false x)):=
 .ptr h (by omega) fun k d d' h3 h4=>by
  rw[qaQ]at h3;exact(e.snp (L:=L) (t:=false) (t':=false) x id).get k d d' h3 h4
def zaT(zad steps:List Int):Option (List Int×List Int):=some (zad,steps)
def zec:C:=
 .seq (rg [oW 2 0,
 oW 3 1,
 ⟨some 4,.mov (.c .nilFunc),none⟩])
 (.seq (rg [⟨some 5,.clo 135 [] [(.s 2),(.s 3)],none⟩,
 oM 4 5])
 (.ret))
theorem zfu:zgu mC 93=some (6,zec,[.tmp 4],false):=za5 (by kernel_rfl)
theorem zbd{zad steps:List Int}{r:List Int×List Int}(h:zaT zad steps=some r):
  Lx.FnA mC 93 [fzE false (eI .i64) zad,fzE false (eI .i64) steps] (.clo 135 [] [.fptr false ((eL (eI .i64)).c false r.1),.fptr false ((eL (eI .i64)).c false r.2)]):=by
 cases h;refine FnA.of zfu (zaW rfl) (qac rfl) ?_;simp only[zec,zkp];refine zab ?_;simp only[rnA,Nat.reduceEqDiff,reduceIte,Nat.reduceLT,Nat.reduceAdd,Nat.reduceLeDiff,Nat.reduceMul,Nat.reduceSub,Int.reduceLE,Int.reduceLT,Int.reduceBEq,Nat.reduceBEq,reduceCtorEq];exact ze4.ret rfl (.clo rfl rfl (Snps.get .nil) (Snps.get (.cons (zii (eL (eI .i64)) zad rfl) (.cons (zii (eL (eI .i64)) steps rfl) .nil))))
def zhV(zad steps:List Int):Nat→List Int→Int→Option (List Int×Int×Int)
 | 0,vals,a=>some (vals,a,-1)
 | k+1,vals,a=>(zbr vals (k:Int)).bind fun v=>(zbr zad (k:Int)).bind fun c=>bif v == w64 (c - 1)then(zbr steps (k:Int)).bind fun st=>(zgs vals (k:Int) 0).bind fun vals'=>zhV zad steps k vals' (w64 (a - w64 (v * st)))else some (vals,a,(k:Int))
def zry(zad steps:List Int):Nat→List Int→Int→Int→Option (List (Int×Int×List Int))
 | 0,_,_,_=>none
 | n+1,vals,i,a=>(zhV zad steps zad.length vals a).bind fun r=>bif decide (r.2.2<0)then some [(i,a,vals)]else
   (zbr r.1 r.2.2).bind fun v=>(zgs r.1 r.2.2 (w64 (v+1))).bind fun vals'=>(zbr steps r.2.2).bind fun st=>(zry zad steps n vals' (w64 (i+1)) (w64 (r.2.1+st))).map fun l=>(i,a,vals):: l
def zoZ(zad steps:List Int):Option (List (Int×Int×List Int)):=(zlX zad).bind fun _=>(zd3 8 (zad.length:Int) 0).bind fun z=>zry zad steps ((zad.foldl (· * ·) 1).toNat) z 0 0
theorem zjX{α β:Type}{o:Option α}{f:α→β}{b:β}(h:o.map f=some b):∃ a,o=some a∧b=f a:=by
 cases o with
 | none=>cases h
 | some a=>cases h; exact⟨a,rfl,rfl⟩
theorem zq7{L:List LB}{n:Nat}(h:L.length=n)(x:LB):(L ++ [x])[n]? = some x:=by subst h; simp
theorem zqH{L:List LB}{n:Nat}(h:L.length=n)(x y:LB):(L ++ [x]).set n y=L ++ [y]:=by subst h; simp
def zp7:C:=
 (.seq (.seq (.scope (.reg true false [oM 19 7,
 oD 20 .geq 19 0,
 oM 21 20,
 oMg 22 4 21 true,
 oMg 23 7 21 true,
 ⟨some 24,.idxS 1 (.s 22) (.s 23),some (21,true)⟩,
 oLg 25 24 21 true,
 oLg 26 1 21 true,
 oMg 27 7 21 true,
 ⟨some 28,.idxS 1 (.s 26) (.s 27),some (21,true)⟩,
 oLg 29 28 21 true,
 oDg 30 .sub 29 1 21 true,
 ⟨some 31,.bin .eql (.s 25) (.s 30),some (21,true)⟩,
 ⟨some 32,.pick (.s 21) (.s 31) (.c (.bool false)),none⟩]))
 (.cond (.s 32) (.skip)
 (.exit 2)))
 (.block 3 (.seq (.reg true false [oM 33 6,
 oM 34 4,
 oM 35 7,
 oI 36 1 34 35,
 oL 37 36,
 oL 38 2,
 oM 39 7,
 oI 40 1 38 39,
 oL 41 40,
 oB 42 .mul 37 41,
 oB 43 .sub 33 42,
 oM 6 43])
 (.seq (rg [oM 44 4,
 oM 45 7,
 oI 46 1 44 45,
 ⟨none,.store 1 (.s 46) (.c (.int .i64 0)),none⟩])
 (rg [oM 47 7,
 oD 48 .sub 47 1,
 oM 7 48])))))
def zl7:C:=.block 1 (.seq (.seq (.reg false false [⟨some 11,.mov (.s 0),none⟩,
 ⟨some 12,.mov (.s 5),none⟩,
 ⟨some 13,.mov (.s 6),none⟩,
 ⟨some 14,.zbF (.s 11) [(.s 12),(.s 13)],none⟩,
 ⟨some 15,.un .not (.s 14),none⟩])
 (.cond (.s 15) (.ret)
 (.skip)))
 (.seq (.reg false false [⟨some 16,.load none (.s 1),none⟩,
 ⟨some 17,.len (.s 16),none⟩,
 ⟨some 18,.bin .sub (.s 17) (.c (.int .i64 1)),none⟩,
 ⟨some 7,.mov (.s 18),none⟩])
 (.seq (.scope (.block 2 (.loop zp7)))
 (.seq (.seq (.reg false false [⟨some 49,.mov (.s 7),none⟩,
 ⟨some 50,.bin .lss (.s 49) (.c (.int .i64 0)),none⟩])
 (.cond (.s 50) (.ret)
 (.skip)))
 (.seq (.reg false false [⟨some 51,.mov (.s 4),none⟩,
 ⟨some 52,.mov (.s 7),none⟩,
 ⟨some 53,.idxS 1 (.s 51) (.s 52),none⟩,
 ⟨some 54,.load none (.s 53),none⟩,
 ⟨some 55,.bin .add (.s 54) (.c (.int .i64 1)),none⟩,
 ⟨some 56,.idxS 1 (.s 51) (.s 52),none⟩,
 ⟨none,.store 1 (.s 56) (.s 55),none⟩])
 (.seq (.reg false false [⟨some 57,.mov (.s 6),none⟩,
 ⟨some 58,.load none (.s 2),none⟩,
 ⟨some 59,.mov (.s 7),none⟩,
 ⟨some 60,.idxS 1 (.s 58) (.s 59),none⟩,
 ⟨some 61,.load none (.s 60),none⟩,
 ⟨some 62,.bin .add (.s 57) (.s 61),none⟩,
 ⟨some 6,.mov (.s 62),none⟩])
 (.reg false false [⟨some 63,.mov (.s 5),none⟩,
 ⟨some 64,.bin .add (.s 63) (.c (.int .i64 1)),none⟩,
 ⟨some 5,.mov (.s 64),none⟩])))))))
def zse:C:=.seq (.reg false false [⟨some 8,.load none (.s 1),none⟩,
 ⟨some 9,.len (.s 8),none⟩,
 ⟨some 10,.mk 1 8 [(.int .i64 0)] (.s 9) (.s 9),none⟩,
 ⟨some 4,.mov (.s 10),none⟩,
 ⟨some 5,.mov (.c (.int .i64 0)),none⟩,
 ⟨some 6,.mov (.c (.int .i64 0)),none⟩])
 (.scope (.block 0 (.loop zl7)))
theorem zrb:zgu mC 135=some (65,zse,[],false):=za5 (by kernel_rfl)
theorem za9{zad steps:List Int}{u:List (Int×Int×List Int)}(hu:zoZ zad steps=some u):
  Gen mC 135 [] [.fptr false ((eL (eI .i64)).c false zad),.fptr false ((eL (eI .i64)).c false steps)] u (fun y n0 args G=>args=[dI y.1,dI y.2.1]∧G=[.els 1 (y.2.2.map ((eI .i64).c true))]):=by
 intro n0 β P Ps hβ hlen hround L hP;refine zdW.ofM zrb (zaW rfl) (qac rfl) ?_;obtain⟨_,hsm,hu⟩:=bind_some hu;obtain⟨z,hz,hv⟩:=bind_some hu;have hL:=hlen _ _ hP;have hm:IntKind.i64.wrap ((zad.length:Int) - 1)=(zad.length:Int) - 1:=by
  have:=zjN hsm;exact wrap64 (by omega) (by omega)
 unfold zse;refine zab ?_;simp only[rnA,Nat.reduceEqDiff,reduceIte,Nat.reduceLT,Nat.reduceAdd,Nat.reduceLeDiff,Nat.reduceMul,Nat.reduceSub,Int.reduceLE,Int.reduceLT,Int.reduceBEq,Nat.reduceBEq,reduceCtorEq,zaY,(zas hz).1.1,(zas hz).1.2,qbv,qaI,(show List.replicate zad.length [(dI 0)]=z.map ((eI .i64).c true)from(zbD hz ((eI .i64).c true)))];refine EvL.scope (zab ?_);simp only[rnA,Nat.reduceEqDiff,reduceIte,Nat.reduceLT,Nat.reduceAdd,Nat.reduceLeDiff,Nat.reduceMul,Nat.reduceSub,Int.reduceLE,Int.reduceLT,Int.reduceBEq,Nat.reduceBEq,reduceCtorEq];rw[hL];refine EvL.loop (α:=Nat×Nat×List Int×Int×Int×List LB) (fun a=>⟨65,[(0,.yld β),(1,.fptr false ((eL (eI .i64)).c false zad)),(2,.fptr false ((eL (eI .i64)).c false steps)),(4,.sl n0 0 1 zad.length (some zad.length) zad.length),(5,dI a.2.2.2.1),(6,dI a.2.2.2.2.1)],a.2.2.2.2.2 ++ [.els 1 (a.2.2.1.map ((eI .i64).c true))]⟩)
  (fun a=>P a.2.1 a.2.2.2.2.2∧zry zad steps a.1 a.2.2.1 a.2.2.2.1 a.2.2.2.2.1=some (u.drop a.2.1)∧a.2.2.1.length=zad.length) (fun a=>a.1) ((zad.foldl (· * ·) 1).toNat,0,z,0,0,L) (by refine zbH.sub ?_; exact⟨rfl,rfl,rfl,rfl,rfl,rfl,qcf⟩) ⟨hP,hv,by rw[zbm hz,qaI]⟩ ?_
 rintro⟨n,j,vals,i,at_,L'⟩ ⟨hPi,hvk,hvl⟩;simp only at hPi hvk hvl;cases n with
 | zero=>cases hvk
 | succ n=>
 unfold zry at hvk;obtain⟨⟨vals1,at1,kk⟩,hc,hvk⟩:=bind_some hvk;simp only at hvk;have hul:∃ r,u.drop j=(i,at_,vals):: r:=by
  cases hk:decide (kk<0)with
  | true=>rw[hk,cond_true]at hvk; exact⟨[],(qab hvk).symm⟩
  | false=>
   rw[hk,cond_false]at hvk;obtain⟨v,_,hvk⟩:=bind_some hvk;obtain⟨vals2,_,hvk⟩:=bind_some hvk;obtain⟨st,_,hvk⟩:=bind_some hvk;obtain⟨l,_,hl⟩:=zjX hvk;exact⟨l,hl⟩
 obtain⟨r,hul⟩:=hul;have hj:j<u.length:=by
  refine Nat.lt_of_not_le fun hn=>?_
  rw[qbA hn]at hul;cases hul
 have huj:u[j]? = some (i,at_,vals):=by
  rw[qaz hj]at hul;rw[qaf hj,(List.cons.inj hul).1]
 have hur:u.drop (j+1)=r:=by
  rw[qaz hj]at hul;exact(List.cons.inj hul).2
 unfold zl7;refine zab ?_;simp only[rnA,Nat.reduceEqDiff,reduceIte,Nat.reduceLT,Nat.reduceAdd,Nat.reduceLeDiff,Nat.reduceMul,Nat.reduceSub,Int.reduceLE,Int.reduceLT,Int.reduceBEq,Nat.reduceBEq,reduceCtorEq];refine EvL.yield rfl rfl rfl (hround j (i,at_,vals) L' _ [.els 1 (vals.map ((eI .i64).c true))] huj hPi ⟨rfl,rfl⟩) ?_;rintro b L2 ⟨L1,rfl,hl1,hb⟩;cases b with
 | false=>
  simp only[rnA,Nat.reduceEqDiff,reduceIte,Nat.reduceLT,Nat.reduceAdd,Nat.reduceLeDiff,Nat.reduceMul,Nat.reduceSub,Int.reduceLE,Int.reduceLT,Int.reduceBEq,Nat.reduceBEq,reduceCtorEq];exact⟨[],rfl,L1,_,rfl,hl1,.inr hb⟩
 | true=>
 have hga:=zq7 hl1;have hsa:=zqH hl1;simp only[rnA,Nat.reduceEqDiff,reduceIte,Nat.reduceLT,Nat.reduceAdd,Nat.reduceLeDiff,Nat.reduceMul,Nat.reduceSub,Int.reduceLE,Int.reduceLT,Int.reduceBEq,Nat.reduceBEq,reduceCtorEq,zaY,hm];refine EvL.jn (fun a:List Int×Int×Int=>⟨65,[(0,.yld β),(1,.fptr false ((eL (eI .i64)).c false zad)),(2,.fptr false ((eL (eI .i64)).c false steps)),(4,.sl n0 0 1 zad.length (some zad.length) zad.length),(5,dI i),(6,dI a.2.1),(7,dI a.2.2)],L1 ++ [.els 1 (a.1.map ((eI .i64).c true))]⟩) (fun a=>a=(vals1,at1,kk)∧a.1.length=zad.length) ?_ ?_
 ·refine zab ?_;simp only[rnA,Nat.reduceEqDiff,reduceIte,Nat.reduceLT,Nat.reduceAdd,Nat.reduceLeDiff,Nat.reduceMul,Nat.reduceSub,Int.reduceLE,Int.reduceLT,Int.reduceBEq,Nat.reduceBEq,reduceCtorEq];refine EvL.loop (α:=Nat×List Int×Int) (fun a=>⟨65,[(0,.yld β),(1,.fptr false ((eL (eI .i64)).c false zad)),(2,.fptr false ((eL (eI .i64)).c false steps)),(4,.sl n0 0 1 zad.length (some zad.length) zad.length),(5,dI i),(6,dI a.2.2),(7,dI ((a.1:Int) - 1))],L1 ++ [.els 1 (a.2.1.map ((eI .i64).c true))]⟩)
   (fun a=>zhV zad steps a.1 a.2.1 a.2.2=some (vals1,at1,kk)∧a.2.1.length=zad.length∧a.1≤zad.length) (fun a=>a.1) (zad.length,vals,at_) (by refine zbH.sub ?_; exact⟨rfl,rfl,rfl,rfl,rfl,rfl,rfl,qcf⟩) ⟨hc,hvl,qaj _⟩ ?_
  rintro⟨f,vs,a⟩ ⟨hf,hvs,hfl⟩;simp only at hf hvs hfl;simp only[zp7,zkp];refine zab ?_;simp only[rnA,Nat.reduceEqDiff,reduceIte,Nat.reduceLT,Nat.reduceAdd,Nat.reduceLeDiff,Nat.reduceMul,Nat.reduceSub,Int.reduceLE,Int.reduceLT,Int.reduceBEq,Nat.reduceBEq,reduceCtorEq];cases f with
  | zero=>
   cases hf;refine EvL.scope (zab ?_);have hk:((0:Nat):Int) - 1 = -1:=rfl;simp only[rnA,Nat.reduceEqDiff,reduceIte,Nat.reduceLT,Nat.reduceAdd,Nat.reduceLeDiff,Nat.reduceMul,Nat.reduceSub,Int.reduceLE,Int.reduceLT,Int.reduceBEq,Nat.reduceBEq,reduceCtorEq,hk];exact⟨_,⟨rfl,hvs⟩,zbH.sub ⟨rfl,rfl,rfl,rfl,rfl,rfl,rfl,qcf⟩⟩
  | succ f=>
   have hk:((f+1:Nat):Int) - 1=(f:Int):=by omega
   have hk0:(0:Int)≤(f:Int):=by omega
   unfold zhV at hf;obtain⟨v,q1,hf⟩:=bind_some hf;obtain⟨c,q2,hf⟩:=bind_some hf;refine EvL.scope (zab ?_);cases hb:(v == w64 (c - 1))with
   | false=>
    rw[hb,cond_false]at hf;cases hf;simp only[rnA,Nat.reduceEqDiff,reduceIte,Nat.reduceLT,Nat.reduceAdd,Nat.reduceLeDiff,Nat.reduceMul,Nat.reduceSub,Int.reduceLE,Int.reduceLT,Int.reduceBEq,Nat.reduceBEq,reduceCtorEq,hk,hk0,hga,hsa,hvs,(show(f:Int)<((zad.length:Nat):Int)from hvs ▸ zbe q1),zaH q1 ((eI .i64).c true),zat (n:=1) (e:=eI .i64) rfl q2,hb];exact⟨_,⟨rfl,hvs⟩,zbH.sub ⟨rfl,rfl,rfl,rfl,rfl,rfl,rfl,qcf⟩⟩
   | true=>
    rw[hb,cond_true]at hf;obtain⟨st,q3,hf⟩:=bind_some hf;obtain⟨vs',q4,hf⟩:=bind_some hf;have hw:IntKind.i64.wrap ((f:Int) - 1)=(f:Int) - 1:=by
     have:=zjN hsm;exact wrap64 (by omega) (by omega)
    simp only[rnA,Nat.reduceEqDiff,reduceIte,Nat.reduceLT,Nat.reduceAdd,Nat.reduceLeDiff,Nat.reduceMul,Nat.reduceSub,Int.reduceLE,Int.reduceLT,Int.reduceBEq,Nat.reduceBEq,reduceCtorEq,hk,hk0,hga,hsa,hvs,(show(f:Int)<((zad.length:Nat):Int)from hvs ▸ zbe q1),zaH q1 ((eI .i64).c true),zat (n:=1) (e:=eI .i64) rfl q2,zat (n:=1) (e:=eI .i64) rfl q3,hb,(show(vs.map ((eI .i64).c true)).set (f:Int).toNat [dI 0]=vs'.map ((eI .i64).c true)from zbv q4 ((eI .i64).c true)),hw];exact⟨(f,vs',w64 (a - w64 (v * st))),⟨hf,by rw[za8 q4]; exact hvs,by omega⟩,qbu f,zbH.sub ⟨rfl,rfl,rfl,rfl,rfl,rfl,rfl,qcf⟩⟩
 rintro a ⟨rfl,hvs⟩;simp only at hvs;refine zab ?_;cases hk:decide (kk<0)with
 | true=>
  rw[hk,cond_true]at hvk;simp only[rnA,Nat.reduceEqDiff,reduceIte,Nat.reduceLT,Nat.reduceAdd,Nat.reduceLeDiff,Nat.reduceMul,Nat.reduceSub,Int.reduceLE,Int.reduceLT,Int.reduceBEq,Nat.reduceBEq,reduceCtorEq,hk];have h1:u.length=j+1:=by
   have h2:=qab hvk;have h3:u.drop (j+1)=[]:=by
    rw[hur];rw[← h2]at hul;exact(List.cons.inj hul).2.symm
   have h4:=List.drop_eq_nil_iff.1 h3;omega
  exact⟨[],rfl,L1,_,rfl,hl1,.inl (by rw[h1]; exact hb)⟩
 | false=>
  rw[hk,cond_false]at hvk;obtain⟨v,q1,hvk⟩:=bind_some hvk;obtain⟨vals2,q2,hvk⟩:=bind_some hvk;obtain⟨st,q3,hvk⟩:=bind_some hvk;obtain⟨l,q4,hl⟩:=zjX hvk;simp only[rnA,Nat.reduceEqDiff,reduceIte,Nat.reduceLT,Nat.reduceAdd,Nat.reduceLeDiff,Nat.reduceMul,Nat.reduceSub,Int.reduceLE,Int.reduceLT,Int.reduceBEq,Nat.reduceBEq,reduceCtorEq,hk,hga,hsa,hvs,zbh q1,(show kk<((zad.length:Nat):Int)from hvs ▸ zbe q1),zaH q1 ((eI .i64).c true),(show(vals1.map ((eI .i64).c true)).set kk.toNat [dI (w64 (v+1))]=vals2.map ((eI .i64).c true)from zbv q2 ((eI .i64).c true)),zat (n:=1) (e:=eI .i64) rfl q3];refine⟨(n,j+1,vals2,w64 (i+1),w64 (at1+st),L1),⟨hb,?_,by rw[za8 q2]; exact hvs⟩,qbu n,zbH.sub ⟨rfl,rfl,rfl,rfl,rfl,rfl,qcf⟩⟩;simp only;rw[q4,hur];rw[hul]at hl;rw[(List.cons.inj hl).2]
def zaG(p0:(List Int))(p1:Int):Nat→Int→Option (Out Unit Int)
 | 0,_=>none
 | n+1,v8=>(
bif (decide (v8<(p0.length:Int)))then(
(zbr p0 v8).bind fun x2=>
bif (p1 == x2)then(
some (.ret v8))
else(
zaG p0 p1 n (w64 (v8+1))))
else(
some (.go ())))
def zaV(p0:(List Int))(p1:Int):Option Int:=
((zaG p0 p1 ((p0.length:Int) - 0+2:Int).toNat 0:Option (Out Unit Int))).bind fun o=>match o with
| .go _=>(
some (-1))
| .ret r=>some r
theorem zd4{p0:(List Int)}{p1:Int}{r:Int}(h:zaV p0 p1=some r):Lx.Fn mC 136 [(fzE false (eI .i64) p0),(dI p1)] (dI r):=by
 refine fnO (by conv=>lhs; cbv) ?_;unfold zaV at h;refine zab ?_;try simp only[rnA,Nat.reduceEqDiff,Nat.reduceLT,Nat.reduceAdd,reduceCtorEq,zaY]
 obtain⟨o1,j1,h⟩:=bind_some h;obtain⟨T1,hT1⟩:=mkT fun a:Unit=>⟨19,[],[]⟩
 refine EvL.jn T1 (fun a=>o1=.go a) ?_ ?_
 ·refine zab ?_;simp only[rnA];obtain⟨T2,hT2⟩:=mkT fun a:Int=>⟨19,[(0,(fzE false (eI .i64) p0)),(1,(dI p1)),(7,(dI (p0.length:Int))),(8,(dI a))],[]⟩
  refine EvL.rounds (α:=Int) T2 (fun n a=>zaG p0 p1 n a=some o1) ((p0.length:Int) - 0+2:Int).toNat 0 (by rw[hT2]; exact wm0 [] (by exact trivial)) j1 (fun _ h=>nomatch (show(none:Option (Out Unit Int))=some o1 from h)) ?_;rintro n v8 j1;simp only[zaG]at j1;rw[congrFun hT2 v8];refine zab ?_;try simp only[rnA,Nat.reduceEqDiff,Nat.reduceLT,reduceCtorEq]
  cases c1:(decide (v8<(p0.length:Int)))
  ·rw[c1,cond_false]at j1;try simp only[rnA]
   replace j1:=qab j1; subst j1;exact lfj hT1 rfl (wm0 [] (by exact trivial))
  rw[c1,cond_true]at j1;obtain⟨x2,g3,j1⟩:=bind_some j1;try simp only[rnA,Nat.reduceEqDiff,Nat.reduceLT,reduceCtorEq,zat (n:=1) (e:=(eI .i64)) rfl g3]
  cases c4:(p1 == x2)
  ·rw[c4,cond_false]at j1;try simp only[rnA,Nat.reduceEqDiff,Nat.reduceLT,reduceCtorEq]
   exact⟨(w64 (v8+1)),j1,by rw[hT2]; exact wm0 [] (by exact trivial)⟩
  rw[c4,cond_true]at j1;try simp only[rnA,Nat.reduceEqDiff,Nat.reduceLT,reduceCtorEq]
  replace j1:=qab j1; subst j1;dsimp only at h;replace h:=qab h; subst h;exact zcH.ret rfl (.lit _)
 rintro⟨⟩ rfl;dsimp only at h;rw[congrFun hT1 ()];refine zab ?_;try simp only[rnA,Nat.reduceLT]
 replace h:=qab h; subst h;exact zcH.ret rfl (.lit _)
def zak(p0:S_factor_table)(p1:Int):Option Int:=
(zaV p0.factor.vars p1).bind fun r1=>
some r1
theorem zam{p0:S_factor_table}{p1:Int}{r:Int}(h:zak p0 p1=some r):Lx.Fn mC 96 [(.agg [(fzE false (eI .i64) p0.factor.vars),(fzE false (eI .i64) p0.factor.zad),(fzE false (eI .i64) p0.factor.w),(fzE false (eI .i64) p0.steps)]),(dI p1)] (dI r):=by
 refine fnO (by conv=>lhs; cbv) ?_;unfold zak at h;refine zab ?_;obtain⟨r1,g2,h⟩:=bind_some h;try simp only[rnA,Nat.reduceEqDiff,reduceIte,Nat.reduceLT,Nat.reduceAdd,Nat.reduceLeDiff,Nat.reduceMul,Nat.reduceSub,Int.reduceLE,Int.reduceLT,Int.reduceBEq,Nat.reduceBEq,reduceCtorEq,zdM,zcC]
 refine EvL.fn (zd4 g2) rfl rfl (.cons (zaa _ _ (fun h=>nomatch h)) (.cons (.lit _) .nil)) ?_;try simp only[rnA,Nat.reduceEqDiff,reduceIte,Nat.reduceLT,Nat.reduceAdd,Nat.reduceLeDiff,Nat.reduceMul,Nat.reduceSub,Int.reduceLE,Int.reduceLT,Int.reduceBEq,Nat.reduceBEq,reduceCtorEq,zdM]
 replace h:=qab h; subst h;exact zcH.ret rfl (.lit _)
def zbY(want:S_api_Factor):Option S_api_Factor:=some want
def zlZ:C:=
 .seq (rg [oW 1 0,
 ⟨some 2,.mov (.c .nilFunc),none⟩])
 (.seq (rg [⟨some 3,.clo 107 [] [(.s 1)],none⟩,
 oM 2 3])
 (.ret))
theorem zmJ:zgu mC 44=some (4,zlZ,[.tmp 2],false):=za5 (by kernel_rfl)
theorem zbN{want r:S_api_Factor}(h:zbY want=some r):Lx.FnA mC 44 [.agg (zaj.c false want)] (.clo 107 [] [.fptr false (zaj.c false r)]):=by
 cases h;refine FnA.of zmJ (zaW rfl) (qac rfl) ?_;simp only[zlZ,zkp];refine zab ?_;simp only[rnA,Nat.reduceEqDiff,reduceIte,Nat.reduceLT,Nat.reduceAdd,Nat.reduceLeDiff,Nat.reduceMul,Nat.reduceSub,Int.reduceLE,Int.reduceLT,Int.reduceBEq,Nat.reduceBEq,reduceCtorEq,zae];exact ze4.ret rfl (.clo rfl rfl (Snps.get .nil) (Snps.get (.cons (zii zaj want rfl) .nil)))
def zcl(want:Int):Option Int:=some want
def zhm:C:=
 .seq (rg [oW 1 0,
 ⟨some 2,.mov (.c .nilFunc),none⟩])
 (.seq (rg [⟨some 3,.clo 108 [] [(.s 1)],none⟩,
 oM 2 3])
 (.ret))
theorem ziL:zgu mC 47=some (4,zhm,[.tmp 2],false):=za5 (by kernel_rfl)
theorem zco{want r:Int}(h:zcl want=some r):Lx.FnA mC 47 [dI want] (.clo 108 [] [.fptr false ((eI .i64).c false r)]):=by
 cases h;refine FnA.of ziL (zaW rfl) (qac rfl) ?_;simp only[zhm,zkp];refine zab ?_;simp only[rnA,Nat.reduceEqDiff,reduceIte,Nat.reduceLT,Nat.reduceAdd,Nat.reduceLeDiff,Nat.reduceMul,Nat.reduceSub,Int.reduceLE,Int.reduceLT,Int.reduceBEq,Nat.reduceBEq,reduceCtorEq];exact ze4.ret rfl (.clo rfl rfl (Snps.get .nil) (Snps.get (.cons (zii (eI .i64) want rfl) .nil)))
def zeo(p0:Int)(p1:Int):Option (Int×Bool):=
some ((w64 (p0+p1)),(decide ((w64 (p0+p1))≤4611686018427387903)))
theorem ziD{p0:Int}{p1:Int}{r:(Int×Bool)}(h:zeo p0 p1=some r):Lx.Fn mC 101 [(dI p0),(dI p1)] (.tup [(dI r.1),(dB r.2)]):=by
 refine fnO (by conv=>lhs; cbv) ?_;unfold zeo at h;refine zab ?_;try simp only[rnA,Nat.reduceEqDiff,reduceIte,Nat.reduceLT,Nat.reduceAdd,Nat.reduceLeDiff,Nat.reduceMul,Nat.reduceSub,Int.reduceLE,Int.reduceLT,Int.reduceBEq,Nat.reduceBEq,reduceCtorEq]
 replace h:=qab h; subst h;exact zcH.ret rfl (Snp.zdf (.cons (.lit _) (.cons (.lit _) .nil)))
def za3(p1:(List Int))(p0:S_factor_table):Nat→Int→Int→(List Int)→Option (Int×(List Int))
 | 0,_,_,_=>none
 | n+1,v9,v24,l3=>(
bif (decide (v24<(p1.length:Int)))then(
(zbr p1 v24).bind fun x4=>
(zak p0 x4).bind fun r6=>
(zbr p0.factor.zad r6).bind fun x8=>
(zbr l3 v24).bind fun x10=>
(zgs l3 v24 x8).bind fun y12=>
za3 p1 p0 n (w64 (v9 * x8)) (w64 (v24+1)) y12)
else(
some (v9,l3)))
def za2(p1:(List Int))(p0:S_factor_table)(l3:(List Int)):Nat→Int→Int→(List Int)→Option (List Int)
 | 0,_,_,_=>none
 | n+1,v14,v15,l6=>(
bif (decide (0≤v15))then(
(zbr p1 v15).bind fun x19=>
(zak p0 x19).bind fun r21=>
(zbr l6 r21).bind fun x23=>
(zgs l6 r21 v14).bind fun y25=>
(zbr l3 v15).bind fun x27=>
za2 p1 p0 l3 n (w64 (v14 * x27)) (w64 (v15 - 1)) y25)
else(
some l6))
def zaK(p0:S_factor_table)(v9:Int):List (Int×Int×(List Int))→(List Int)→Option (Out3 (List Int) (List Int) Empty)
 | [],l4=>some (.go l4)
 | y33 :: ys,l4=>(
(zbr l4 y33.2.1).bind fun x34=>
(zbr p0.factor.w y33.1).bind fun x36=>
(zeo x34 x36).bind fun r38=>
(zgs l4 y33.2.1 r38.1).bind fun y40=>
bif r38.2 then(
zaK p0 v9 ys y40)
else(
some (.brk y40)))
def zaM(p0:S_factor_table)(p1:(List Int)):Option (S_api_Factor×Int):=
(zd3 8 (p1.length:Int) 0).bind fun y1=>
((za3 p1 p0 ((p1.length:Int) - 0+2:Int).toNat 1 0 y1:Option ((Int×(List Int))))).bind fun o=>match o with
|(v9,l3)=>(
(zd3 8 v9 0).bind fun y14=>
(zd3 8 (p0.factor.vars.length:Int) 0).bind fun y16=>
((za2 p1 p0 l3 ((w64 ((p1.length:Int) - 1)) - 0+2:Int).toNat 1 (w64 ((p1.length:Int) - 1)) y16:Option (List Int))).bind fun l6=>
(zaT p0.factor.zad l6).bind fun r29=>
(((zoZ r29.1 r29.2).bind fun u31=>
((zaK p0 v9 u31 y14:Option (Out3 (List Int) (List Int) Empty))).bind fun o=>match o with
| .go l4=>(
some (true,l4))
| .brk l4=>(
some (false,l4))
| .ret r=>nomatch r:Option ((Bool×(List Int))))).bind fun o=>match o with
|(b7_0,l4)=>(
bif b7_0 then(
some ((S_api_Factor.mk p1 l3 l4),0))
else(
some ((S_api_Factor.mk [] [] []),6))))
def zcu:C:=
 .seq (rg [oW 3 0,
 oW 5 2,
 ⟨some 6,.alloc [(.slice none 0 0),(.slice none 0 0),(.slice none 0 0)],none⟩,
 oK 7 0])
 (.scope (.seq (rg [oM 19 1,
 oE 20 19,
 ⟨some 21,.mk 1 8 [(.int .i64 0)] (.s 20) (.s 20),none⟩,
 oM 8 21,
 oK 9 1])
 (.seq (.seq (rg [oM 22 1,
 oE 23 22,
 oK 24 0])
 (.scope (.block 0 (.loop (.seq (rg [oB 25 .lss 24 23])
 (.seq (.cond (.s 25) (.skip)
 (.exit 0))
 (.seq (.block 1 (.seq (rg [oM 26 24,
 oI 27 1 22 24,
 oL 28 27,
 oM 10 26,
 oM 11 28])
 (.seq (.reg true true [oM 29 8,
 oM 30 10,
 oF 31 0 3,
 oF 32 1 31,
 oL 33 32,
 oN 34 4 3,
 oM 35 11,
 oV 36 96 34 35,
 oI 37 1 33 36,
 oL 38 37,
 oI 39 1 29 30,
 oS 1 39 38])
 (rg [oM 40 9,
 oM 41 8,
 oM 42 10,
 oI 43 1 41 42,
 oL 44 43,
 oB 45 .mul 40 44,
 oM 9 45]))))
 (rg [oD 46 .add 24 1,
 oM 24 46]))))))))
 (.seq (.reg true false [oM 47 9,
 oF 49 0 3,
 oF 50 0 49,
 oL 51 50,
 oE 52 51,
 ⟨some 48,.mk 1 8 [(.int .i64 0)] (.s 47) (.s 47),none⟩,
 ⟨some 12,.alloc [(.slice none 0 0)],none⟩,
 ⟨none,.avo [(.s 50)] (.s 12),none⟩,
 oS 1 12 48,
 ⟨some 53,.mk 1 8 [(.int .i64 0)] (.s 52) (.s 52),none⟩,
 oM 13 53,
 oK 14 1])
 (.seq (.seq (rg [oM 54 1,
 oE 55 54,
 oD 56 .sub 55 1,
 oM 15 56])
 (.scope (.block 2 (.loop (.seq (.seq (rg [oM 57 15,
 oD 58 .geq 57 0])
 (.cond (.s 58) (.skip)
 (.exit 2)))
 (.seq (.block 3 (.seq (.reg true false [oM 61 13,
 oN 62 4 3,
 oM 63 1,
 oM 64 15,
 oI 65 1 63 64,
 oL 66 65,
 oM 68 14,
 oV 67 96 62 66,
 oI 69 1 61 67,
 oS 1 69 68])
 (rg [oM 70 14,
 oM 71 8,
 oM 72 15,
 oI 73 1 71 72,
 oL 74 73,
 oB 75 .mul 70 74,
 oM 14 75])))
 (rg [oM 59 15,
 oD 60 .sub 59 1,
 oM 15 60])))))))
 (.seq (rg [⟨some 16,.alloc [(.bool false)],none⟩,
 ⟨none,.store 1 (.s 16) (.c (.bool true)),none⟩])
 (.seq (.label 0)
 (.seq (.seq (rg [oF 76 0 3,
 oF 77 1 76,
 oL 78 77,
 oM 79 13,
 oV 80 93 78 79])
 (.scope (.block 4 (.zdH (.s 80) [81,82] (.seq (rg [oM 17 81])
 (rg [oM 18 82]))
 (.block 5 (.seq (.reg true true [oL 84 12,
 oM 85 18,
 oF 86 0 5,
 oL 87 86,
 oL 88 12,
 oM 89 18,
 oI 90 1 88 89,
 oL 91 90,
 oF 92 0 3,
 oF 93 2 92,
 oL 94 93,
 oM 95 17,
 oI 96 1 94 95,
 oL 97 96,
 ⟨some 98,.zbF (.s 87) [(.s 91),(.s 97)],none⟩,
 oM 83 98,
 oX 99 83 0,
 oX 100 83 1,
 oI 101 1 84 85,
 oS 1 101 99,
 oS 1 16 100])
 (.block 6 (.seq (rg [oL 103 16,
 ⟨some 104,.un .not (.s 103),none⟩,
 oM 102 104])
 (.cond (.s 102) (.exit 4)
 (.skip))))))))))
 (.seq (.seq (rg [oL 105 16,
 ⟨some 106,.un .not (.s 105),none⟩])
 (.cond (.s 106) (.seq (rg [⟨some 107,.build [(.slice none 0 0),(.slice none 0 0),(.slice none 0 0)] [],none⟩,
 oS 3 6 107,
 oK 7 6])
 (.ret))
 (.skip)))
 (.seq (rg [oM 108 1,
 oM 109 8,
 oL 110 12,
 ⟨some 111,.build [(.slice none 0 0),(.slice none 0 0),(.slice none 0 0)] [(0,1,(.s 108)),(1,1,(.s 109)),(2,1,(.s 110))],none⟩,
 oS 3 6 111,
 oK 7 0])
 (.ret)))))))))))
theorem zdr:zgu mC 106=some (112,zcu,[.cell 6 (some 3),.tmp 7],false):=za5 (by kernel_rfl)
theorem zbu{p0:S_factor_table}{p1:(List Int)}{r:(S_api_Factor×Int)}(h:zaM p0 p1=some r):Lx.FnA mC 106 [(.agg [(fzE false (eI .i64) p0.factor.vars),(fzE false (eI .i64) p0.factor.zad),(fzE false (eI .i64) p0.factor.w),(fzE false (eI .i64) p0.steps)]),(fzE false (eI .i64) p1),(.agg [(.clo 101 [] [])])] (.tup [(.agg [(fzE false (eI .i64) r.1.vars),(fzE false (eI .i64) r.1.zad),(fzE false (eI .i64) r.1.w)]),(dI r.2)]):=by
 refine FnA.of zdr (zaW rfl) (qac rfl) ?_;unfold zaM at h;simp only[zcu,zkp];refine zab ?_;try simp only[rnA,Nat.reduceEqDiff,Nat.reduceLT,Nat.reduceAdd,reduceCtorEq]
 refine EvL.scope (zab ?_);obtain⟨y1,g2,h⟩:=bind_some h;try simp only[rnA,Nat.reduceEqDiff,Nat.reduceLT,Nat.reduceAdd,reduceCtorEq,zaY,(zas g2).1.1,(zas g2).1.2,qbv,(show List.replicate (Int.toNat (p1.length:Int)) [(dI 0)]=y1.map ((eI .i64).c true)from zbD g2 ((eI .i64).c true))]
 obtain⟨o8,j8,h⟩:=bind_some h;obtain⟨T8,hT8⟩:=mkT fun a:(Int×(List Int))=>⟨112,[(1,(fzE false (eI .i64) p1)),(3,(.ptr 0 0)),(5,(.ptr 1 0)),(6,(.ptr 2 0)),(8,(.sl 3 0 1 (Int.toNat (p1.length:Int)) (some (Int.toNat (p1.length:Int))) (Int.toNat (p1.length:Int)))),(9,(dI a.1))],[.cells [(fzE false (eI .i64) p0.factor.vars),(fzE false (eI .i64) p0.factor.zad),(fzE false (eI .i64) p0.factor.w),(fzE false (eI .i64) p0.steps)],.cells [(.clo 101 [] [])],.cells [zar,zar,zar],.els 1 (a.2.map ((eI .i64).c true))]⟩
 refine EvL.jn T8 (fun a=>a=o8∧a.2.length=(Int.toNat (p1.length:Int))) ?_ ?_
 ·refine zab ?_;simp only[rnA];obtain⟨T9,hT9⟩:=mkT fun a:(Int×Int×(List Int))=>⟨112,[(1,(fzE false (eI .i64) p1)),(3,(.ptr 0 0)),(5,(.ptr 1 0)),(6,(.ptr 2 0)),(8,(.sl 3 0 1 (Int.toNat (p1.length:Int)) (some (Int.toNat (p1.length:Int))) (Int.toNat (p1.length:Int)))),(9,(dI a.1)),(22,(fzE false (eI .i64) p1)),(23,(dI (p1.length:Int))),(24,(dI a.2.1))],[.cells [(fzE false (eI .i64) p0.factor.vars),(fzE false (eI .i64) p0.factor.zad),(fzE false (eI .i64) p0.factor.w),(fzE false (eI .i64) p0.steps)],.cells [(.clo 101 [] [])],.cells [zar,zar,zar],.els 1 (a.2.2.map ((eI .i64).c true))]⟩
  refine EvL.rounds (α:=(Int×Int×(List Int))) T9 (fun n a=>za3 p1 p0 n a.1 a.2.1 a.2.2=some o8∧a.2.2.length=(Int.toNat (p1.length:Int))) ((p1.length:Int) - 0+2:Int).toNat (1,0,y1) (by rw[hT9]; exact wm0 [.k,.k,.k,.k] ⟨MB.cs ⟨qcf,qcf,qcf,qcf,qcf⟩,⟨MB.cs ⟨⟨qcf,qcf⟩,qcf⟩,⟨MB.cs ⟨qcf,qcf,qcf,qcf⟩,⟨MB.es (eI .i64) true y1,qcf⟩⟩⟩⟩) ⟨j8,zbm g2⟩ (fun _ h=>nomatch (show(none:Option (Int×(List Int)))=some o8 from h.1)) ?_;rintro n ⟨v9,v24,l3⟩ ⟨j8,el3⟩;simp only[za3]at j8;rw[congrFun hT9 (v9,v24,l3)];refine zab ?_;try simp only[rnA,Nat.reduceEqDiff,Nat.reduceLT]
  cases c3:(decide (v24<(p1.length:Int)))
  ·rw[c3,cond_false]at j8;try simp only[rnA]
   replace j8:=qab j8; subst j8;exact⟨_,⟨rfl,el3⟩,by rw[hT8]; exact wm0 [.k,.k,.k,.k] ⟨MB.cs ⟨qcf,qcf,qcf,qcf,qcf⟩,⟨MB.cs ⟨⟨qcf,qcf⟩,qcf⟩,⟨MB.cs ⟨qcf,qcf,qcf,qcf⟩,⟨MB.es (eI .i64) true l3,qcf⟩⟩⟩⟩⟩
  rw[c3,cond_true]at j8;obtain⟨x4,g5,j8⟩:=bind_some j8;obtain⟨r6,g7,j8⟩:=bind_some j8;try simp only[rnA,Nat.reduceEqDiff,Nat.reduceLT,Nat.reduceAdd,Nat.reduceLeDiff,zat (n:=1) (e:=(eI .i64)) rfl g5]
  refine EvL.fn (zam g7) rfl rfl (.cons (.zaS (.cons (zaa _ _ (fun h=>nomatch h)) (.cons (zaa _ _ (fun h=>nomatch h)) (.cons (zaa _ _ (fun h=>nomatch h)) (.cons (zaa _ _ (fun h=>nomatch h)) .nil))))) (.cons (.lit _) .nil)) ?_;obtain⟨x8,g9,j8⟩:=bind_some j8;obtain⟨x10,g11,j8⟩:=bind_some j8;obtain⟨y12,g13,j8⟩:=bind_some j8;try simp only[rnA,Nat.reduceEqDiff,Nat.reduceLT,Nat.reduceLeDiff,zat (n:=1) (e:=(eI .i64)) rfl g9,el3,zbh g11,(show v24<(((Int.toNat (p1.length:Int)):Nat):Int)from el3 ▸ zbe g11),zaH g11 ((eI .i64).c true),(show(l3.map ((eI .i64).c true)).set v24.toNat [(dI x8)]=y12.map ((eI .i64).c true)from zbv g13 ((eI .i64).c true)),(za8 g13).trans el3,zaH (zkm g13) ((eI .i64).c true)]
  exact⟨((w64 (v9 * x8)),(w64 (v24+1)),y12),⟨j8,(za8 g13).trans el3⟩,by rw[hT9]; exact wm0 [.k,.k,.k,.k] ⟨MB.cs ⟨qcf,qcf,qcf,qcf,qcf⟩,⟨MB.cs ⟨⟨qcf,qcf⟩,qcf⟩,⟨MB.cs ⟨qcf,qcf,qcf,qcf⟩,⟨MB.es (eI .i64) true y12,qcf⟩⟩⟩⟩⟩
 rintro⟨v9,l3⟩ ⟨rfl,el3⟩;dsimp only at h;rw[congrFun hT8 (v9,l3)];refine zab ?_;obtain⟨y14,g15,h⟩:=bind_some h;obtain⟨y16,g17,h⟩:=bind_some h;try simp only[rnA,Nat.reduceEqDiff,Nat.reduceLT,Nat.reduceAdd,Nat.reduceLeDiff,Nat.reduceBEq,zaY,(zas g15).1.1,(zas g15).1.2,qbv,(show List.replicate (Int.toNat v9) [(dI 0)]=y14.map ((eI .i64).c true)from zbD g15 ((eI .i64).c true)),(zas g17).1.1,(zas g17).1.2,(show List.replicate (Int.toNat (p0.factor.vars.length:Int)) [(dI 0)]=y16.map ((eI .i64).c true)from zbD g17 ((eI .i64).c true))]
 obtain⟨o10,j10,h⟩:=bind_some h;obtain⟨T10,hT10⟩:=mkT fun a:(List Int)=>⟨112,[(1,(fzE false (eI .i64) p1)),(3,(.ptr 0 0)),(5,(.ptr 1 0)),(6,(.ptr 2 0)),(8,(.sl 3 0 1 (Int.toNat (p1.length:Int)) (some (Int.toNat (p1.length:Int))) (Int.toNat (p1.length:Int)))),(12,(.ptr 5 0)),(13,(.sl 6 0 1 (Int.toNat (p0.factor.vars.length:Int)) (some (Int.toNat (p0.factor.vars.length:Int))) (Int.toNat (p0.factor.vars.length:Int))))],[.cells [(fzE false (eI .i64) p0.factor.vars),(fzE false (eI .i64) p0.factor.zad),(fzE false (eI .i64) p0.factor.w),(fzE false (eI .i64) p0.steps)],.cells [(.clo 101 [] [])],.cells [zar,zar,zar],.els 1 (l3.map ((eI .i64).c true)),.els 1 (y14.map ((eI .i64).c true)),.cells [(.sl 4 0 1 (Int.toNat v9) (some (Int.toNat v9)) (Int.toNat v9))],.els 1 (a.map ((eI .i64).c true))]⟩
 refine EvL.jn T10 (fun a=>a=o10∧a.length=(Int.toNat (p0.factor.vars.length:Int))) ?_ ?_
 ·refine zab ?_;simp only[rnA];obtain⟨T11,hT11⟩:=mkT fun a:(Int×Int×(List Int))=>⟨112,[(1,(fzE false (eI .i64) p1)),(3,(.ptr 0 0)),(5,(.ptr 1 0)),(6,(.ptr 2 0)),(8,(.sl 3 0 1 (Int.toNat (p1.length:Int)) (some (Int.toNat (p1.length:Int))) (Int.toNat (p1.length:Int)))),(12,(.ptr 5 0)),(13,(.sl 6 0 1 (Int.toNat (p0.factor.vars.length:Int)) (some (Int.toNat (p0.factor.vars.length:Int))) (Int.toNat (p0.factor.vars.length:Int)))),(14,(dI a.1)),(15,(dI a.2.1))],[.cells [(fzE false (eI .i64) p0.factor.vars),(fzE false (eI .i64) p0.factor.zad),(fzE false (eI .i64) p0.factor.w),(fzE false (eI .i64) p0.steps)],.cells [(.clo 101 [] [])],.cells [zar,zar,zar],.els 1 (l3.map ((eI .i64).c true)),.els 1 (y14.map ((eI .i64).c true)),.cells [(.sl 4 0 1 (Int.toNat v9) (some (Int.toNat v9)) (Int.toNat v9))],.els 1 (a.2.2.map ((eI .i64).c true))]⟩
  refine EvL.rounds (α:=(Int×Int×(List Int))) T11 (fun n a=>za2 p1 p0 l3 n a.1 a.2.1 a.2.2=some o10∧a.2.2.length=(Int.toNat (p0.factor.vars.length:Int))) ((w64 ((p1.length:Int) - 1)) - 0+2:Int).toNat (1,(w64 ((p1.length:Int) - 1)),y16) (by rw[hT11]; exact wm0 [.k,.k,.k,.k,.k,.k,.k] ⟨MB.cs ⟨qcf,qcf,qcf,qcf,qcf⟩,⟨MB.cs ⟨⟨qcf,qcf⟩,qcf⟩,⟨MB.cs ⟨qcf,qcf,qcf,qcf⟩,⟨MB.es (eI .i64) true l3,⟨MB.es (eI .i64) true y14,⟨MB.cs ⟨rfl,qcf⟩,⟨MB.es (eI .i64) true y16,qcf⟩⟩⟩⟩⟩⟩⟩) ⟨j10,zbm g17⟩ (fun _ h=>nomatch (show(none:Option (List Int))=some o10 from h.1)) ?_;rintro n ⟨v14,v15,l6⟩ ⟨j10,el6⟩;simp only[za2]at j10;rw[congrFun hT11 (v14,v15,l6)];refine zab ?_;try simp only[rnA,Nat.reduceEqDiff,Nat.reduceLT]
  cases c18:(decide (0≤v15))
  ·rw[c18,cond_false]at j10;try simp only[rnA]
   replace j10:=qab j10; subst j10;exact⟨_,⟨rfl,el6⟩,by rw[hT10]; exact wm0 [.k,.k,.k,.k,.k,.k,.k] ⟨MB.cs ⟨qcf,qcf,qcf,qcf,qcf⟩,⟨MB.cs ⟨⟨qcf,qcf⟩,qcf⟩,⟨MB.cs ⟨qcf,qcf,qcf,qcf⟩,⟨MB.es (eI .i64) true l3,⟨MB.es (eI .i64) true y14,⟨MB.cs ⟨rfl,qcf⟩,⟨MB.es (eI .i64) true l6,qcf⟩⟩⟩⟩⟩⟩⟩⟩
  rw[c18,cond_true]at j10;obtain⟨x19,g20,j10⟩:=bind_some j10;obtain⟨r21,g22,j10⟩:=bind_some j10;try simp only[rnA,Nat.reduceEqDiff,Nat.reduceLT,Nat.reduceAdd,Nat.reduceLeDiff,zat (n:=1) (e:=(eI .i64)) rfl g20]
  refine EvL.fn (zam g22) rfl rfl (.cons (.zaS (.cons (zaa _ _ (fun h=>nomatch h)) (.cons (zaa _ _ (fun h=>nomatch h)) (.cons (zaa _ _ (fun h=>nomatch h)) (.cons (zaa _ _ (fun h=>nomatch h)) .nil))))) (.cons (.lit _) .nil)) ?_;obtain⟨x23,g24,j10⟩:=bind_some j10;obtain⟨y25,g26,j10⟩:=bind_some j10;obtain⟨x27,g28,j10⟩:=bind_some j10;try simp only[rnA,Nat.reduceEqDiff,Nat.reduceLT,Nat.reduceLeDiff,el6,zbh g24,(show r21<(((Int.toNat (p0.factor.vars.length:Int)):Nat):Int)from el6 ▸ zbe g24),zaH g24 ((eI .i64).c true),(show(l6.map ((eI .i64).c true)).set r21.toNat [(dI v14)]=y25.map ((eI .i64).c true)from zbv g26 ((eI .i64).c true)),el3,zbh g28,(show v15<(((Int.toNat (p1.length:Int)):Nat):Int)from el3 ▸ zbe g28),zaH g28 ((eI .i64).c true)]
  exact⟨((w64 (v14 * x27)),(w64 (v15 - 1)),y25),⟨j10,(za8 g26).trans el6⟩,by rw[hT11]; exact wm0 [.k,.k,.k,.k,.k,.k,.k] ⟨MB.cs ⟨qcf,qcf,qcf,qcf,qcf⟩,⟨MB.cs ⟨⟨qcf,qcf⟩,qcf⟩,⟨MB.cs ⟨qcf,qcf,qcf,qcf⟩,⟨MB.es (eI .i64) true l3,⟨MB.es (eI .i64) true y14,⟨MB.cs ⟨rfl,qcf⟩,⟨MB.es (eI .i64) true y25,qcf⟩⟩⟩⟩⟩⟩⟩⟩
 rintro l6 ⟨rfl,el6⟩;rw[congrFun hT10 l6];refine zab ?_;try simp only[rnA,Nat.reduceEqDiff,Nat.reduceLT,Nat.reduceAdd,Nat.reduceLeDiff]
 refine EvL.zeV (S':=⟨112,[(1,(fzE false (eI .i64) p1)),(3,(.ptr 0 0)),(5,(.ptr 1 0)),(6,(.ptr 2 0)),(8,(.sl 3 0 1 (Int.toNat (p1.length:Int)) (some (Int.toNat (p1.length:Int))) (Int.toNat (p1.length:Int)))),(12,(.ptr 5 0)),(16,(.ptr 7 0)),(78,(fzE false (eI .i64) p0.factor.zad)),(79,(fzE true (eI .i64) l6))],[.cells [(fzE false (eI .i64) p0.factor.vars),(fzE false (eI .i64) p0.factor.zad),(fzE false (eI .i64) p0.factor.w),(fzE false (eI .i64) p0.steps)],.cells [(.clo 101 [] [])],.cells [zar,zar,zar],.els 1 (l3.map ((eI .i64).c true)),.els 1 (y14.map ((eI .i64).c true)),.cells [(.sl 4 0 1 (Int.toNat v9) (some (Int.toNat v9)) (Int.toNat v9))],.gone,.cells [(dB true)]]⟩) (zbH.m0 [.k,.k,.k,.k,.k,.k,.f,.k] rfl (msq (msq (msq (msq (msq (msq (msq (msq (mf rfl (zaP (e:=(eI .i64)) (t:=true) rfl rfl (.inl rfl) (el6).symm (el6).symm (fun k h=>by cases h; exact qaj _) (fun h=>by cases h<;>rfl)) trivial))))))))) ⟨MB.cs ⟨qcf,qcf,qcf,qcf,qcf⟩,⟨MB.cs ⟨⟨qcf,qcf⟩,qcf⟩,⟨MB.cs ⟨qcf,qcf,qcf,qcf⟩,⟨MB.es (eI .i64) true l3,⟨MB.es (eI .i64) true y14,⟨MB.cs ⟨rfl,qcf⟩,⟨rfl,⟨MB.cs ⟨qcf,qcf⟩,qcf⟩⟩⟩⟩⟩⟩⟩⟩) (zab ?_);obtain⟨r29,g30,h⟩:=bind_some h;try simp only[rnA]
 refine EvL.fnS (zbd g30) rfl rfl (.cons (zaf _ _ (fun h=>by cases h<;>contradiction)) (.cons (zaf _ _ (fun h=>by cases h<;>contradiction)) .nil)) ⟨(zac _ _),(zac _ _),qcf⟩ ⟨qcf,⟨⟨rfl,zac _ _,qcf⟩,⟨rfl,zac _ _,qcf⟩,qcf⟩⟩ ?_;try simp only[rnA,Nat.reduceLT]
 obtain⟨o13,j13,h⟩:=bind_some h;obtain⟨T13,hT13⟩:=mkT fun a:(Bool×(List Int))=>⟨112,[(1,(fzE false (eI .i64) p1)),(6,(.ptr 2 0)),(8,(.sl 3 0 1 (Int.toNat (p1.length:Int)) (some (Int.toNat (p1.length:Int))) (Int.toNat (p1.length:Int)))),(12,(.ptr 5 0)),(16,(.ptr 7 0))],[.gone,.gone,.cells [zar,zar,zar],.els 1 (l3.map ((eI .i64).c true)),.els 1 (a.2.map ((eI .i64).c true)),.cells [(.sl 4 0 1 (Int.toNat v9) (some (Int.toNat v9)) (Int.toNat v9))],.gone,.cells [(dB a.1)]]⟩
 refine EvL.jn T13 (fun a=>a=o13∧a.2.length=(Int.toNat v9)) ?_ ?_
 ·refine zab ?_;try simp only[rnA]
  obtain⟨u31,g32,j13⟩:=bind_some j13;obtain⟨o14,j14,j13⟩:=bind_some j13;obtain⟨T14,hT14⟩:∃ T:(List Int)→List LB,T=(fun a=>[.cells [(fzE false (eI .i64) p0.factor.vars),(fzE false (eI .i64) p0.factor.zad),(fzE false (eI .i64) p0.factor.w),(fzE false (eI .i64) p0.steps)],.cells [(.clo 101 [] [])],.cells [zar,zar,zar],.els 1 (l3.map ((eI .i64).c true)),.els 1 (a.map ((eI .i64).c true)),.cells [(.sl 4 0 1 (Int.toNat v9) (some (Int.toNat v9)) (Int.toNat v9))],.gone,.cells [(dB true)]]):=⟨_,rfl⟩;obtain⟨TX14,hTX14⟩:∃ T:(List Int)→List LB,T=(fun a=>[.cells [(fzE false (eI .i64) p0.factor.vars),(fzE false (eI .i64) p0.factor.zad),(fzE false (eI .i64) p0.factor.w),(fzE false (eI .i64) p0.steps)],.cells [(.clo 101 [] [])],.cells [zar,zar,zar],.els 1 (l3.map ((eI .i64).c true)),.els 1 (a.map ((eI .i64).c true)),.cells [(.sl 4 0 1 (Int.toNat v9) (some (Int.toNat v9)) (Int.toNat v9))],.gone,.cells [(dB false)]]):=⟨_,rfl⟩;refine EvL.zeV (S':=⟨112,[(1,(fzE false (eI .i64) p1)),(3,(.ptr 0 0)),(5,(.ptr 1 0)),(6,(.ptr 2 0)),(8,(.sl 3 0 1 (Int.toNat (p1.length:Int)) (some (Int.toNat (p1.length:Int))) (Int.toNat (p1.length:Int)))),(12,(.ptr 5 0)),(16,(.ptr 7 0)),(80,(.clo 135 [] [(.fptr false ((eL (eI .i64)).c false r29.1)),(.fptr false ((eL (eI .i64)).c false r29.2))]))],T14 y14⟩) (by rw[hT14]; exact wm0 [.k,.k,.k,.k,.k,.k,.k,.k] ⟨MB.cs ⟨qcf,qcf,qcf,qcf,qcf⟩,⟨MB.cs ⟨⟨qcf,qcf⟩,qcf⟩,⟨MB.cs ⟨qcf,qcf,qcf,qcf⟩,⟨MB.es (eI .i64) true l3,⟨MB.es (eI .i64) true y14,⟨MB.cs ⟨rfl,qcf⟩,⟨MB.same trivial,⟨MB.cs ⟨qcf,qcf⟩,qcf⟩⟩⟩⟩⟩⟩⟩⟩) ?_;refine EvL.zjd (n0:=8) (za9 g32) rfl (bm:=.block 5 (.seq (.reg true true [⟨some 84,.load none (.s 12),none⟩,⟨some 85,.mov (.s 18),none⟩,⟨some 86,.fld 0 (.s 5),none⟩,⟨some 87,.load none (.s 86),none⟩,⟨some 88,.load none (.s 12),none⟩,⟨some 89,.mov (.s 18),none⟩,⟨some 90,.idxS 1 (.s 88) (.s 89),none⟩,⟨some 91,.load none (.s 90),none⟩,⟨some 92,.fld 0 (.s 3),none⟩,⟨some 93,.fld 2 (.s 92),none⟩,⟨some 94,.load none (.s 93),none⟩,⟨some 95,.mov (.s 17),none⟩,⟨some 96,.idxS 1 (.s 94) (.s 95),none⟩,⟨some 97,.load none (.s 96),none⟩,⟨some 98,.zbF (.s 87) [(.s 91),(.s 97)],none⟩,⟨some 83,.mov (.s 98),none⟩,⟨some 99,.ext (.s 83) 0,none⟩,⟨some 100,.ext (.s 83) 1,none⟩,⟨some 101,.idxS 1 (.s 84) (.s 85),none⟩,⟨none,.store 1 (.s 101) (.s 99),none⟩,⟨none,.store 1 (.s 16) (.s 100),none⟩]) (.block 6 (.seq (.reg false false [⟨some 103,.load none (.s 16),none⟩,⟨some 104,.un .not (.s 103),none⟩,⟨some 102,.mov (.s 104),none⟩]) (.cond (.s 102) (.exit 4) (.skip)))))) rfl T14 (fun i a=>zaK p0 v9 (u31.drop i) a=some o14∧a.length=(Int.toNat v9)) (fun x L1=>match x with | .normal=>∃ a,o14=.go a∧a.length=(Int.toNat v9)∧L1=T14 a | .exit id=>∃ a,o14=.brk a∧a.length=(Int.toNat v9)∧id=4∧L1=TX14 a | .ret=>L1.length=8∧zee (8+1) L1∧(ze4 [.cell 6 (some 3),.tmp 7] ((.tup [(.agg [(fzE false (eI .i64) r.1.vars),(fzE false (eI .i64) r.1.zad),(fzE false (eI .i64) r.1.w)]),(dI r.2)]))) .ret ⟨112,[(1,(fzE false (eI .i64) p1)),(3,(.ptr 0 0)),(5,(.ptr 1 0)),(6,(.ptr 2 0)),(8,(.sl 3 0 1 (Int.toNat (p1.length:Int)) (some (Int.toNat (p1.length:Int))) (Int.toNat (p1.length:Int)))),(12,(.ptr 5 0)),(16,(.ptr 7 0)),(80,(.clo 135 [] [(.fptr false ((eL (eI .i64)).c false r29.1)),(.fptr false ((eL (eI .i64)).c false r29.2))]))],L1 ++ [.lost]⟩| _=>False) y14 ?_ (qaV _) ?_ ?_ ?_ (fun d L1 hx=>hx.elim) ?_ ?_ ?_ ?_ ?_ ?_
  ·intro a; rw[hT14]; rfl
  ·exact⟨qcf,(qac rfl),(qac rfl),(qac rfl),(qac rfl),(qac rfl),(qac rfl),⟨qcf,⟨qcf,qcf,qcf⟩⟩,qcf⟩
  ·intro a; rw[hT14]; exact⟨⟨qcf,qcf,qcf,qcf,qcf⟩,⟨⟨qcf,qcf⟩,qcf⟩,⟨qcf,qcf,qcf,qcf⟩,(zca (eI .i64) _ _ _),(zca (eI .i64) _ _ _),⟨(qac rfl),qcf⟩,qcf,⟨qcf,qcf⟩,qcf⟩
  ·intro x L1 hx;cases x with
   | normal=>obtain⟨a,_,_,rfl⟩:=hx; exact⟨by rw[hT14]; rfl,by rw[hT14]; exact⟨⟨qcf,qcf,qcf,qcf,qcf⟩,⟨⟨qcf,qcf⟩,qcf⟩,⟨qcf,qcf,qcf,qcf⟩,(zca (eI .i64) _ _ _),(zca (eI .i64) _ _ _),⟨(qac rfl),qcf⟩,qcf,⟨qcf,qcf⟩,qcf⟩⟩
   | ret=>exact⟨hx.1,hx.2.1⟩
   | exit id=>obtain⟨a,_,_,_,rfl⟩:=hx; exact⟨by rw[hTX14]; rfl,by rw[hTX14]; exact⟨⟨qcf,qcf,qcf,qcf,qcf⟩,⟨⟨qcf,qcf⟩,qcf⟩,⟨qcf,qcf,qcf,qcf⟩,(zca (eI .i64) _ _ _),(zca (eI .i64) _ _ _),⟨(qac rfl),qcf⟩,qcf,⟨qcf,qcf⟩,qcf⟩⟩
   | panic d=>exact hx.elim
  ·exact⟨j14,zbm g15⟩
  ·rintro i l4 y33 args G lpF hy ⟨hi14,el4⟩ ⟨rfl,rfl⟩ hkin;rw[zeN hy]at hi14;simp only[zaK]at hi14;refine⟨_,_,rfl,rfl,?_⟩;rw[congrFun hT14 l4];refine zab ?_;obtain⟨x34,g35,hi14⟩:=bind_some hi14;obtain⟨x36,g37,hi14⟩:=bind_some hi14;obtain⟨r38,g39,hi14⟩:=bind_some hi14;try simp only[rnA,Nat.reduceEqDiff,Nat.reduceLT,Nat.reduceAdd,el4,zbh g35,(show y33.2.1<(((Int.toNat v9):Nat):Int)from el4 ▸ zbe g35),zaH g35 ((eI .i64).c true),zat (n:=1) (e:=(eI .i64)) rfl g37]
   refine EvL.fnv rfl rfl (ziD g39) rfl (.cons (.lit _) (.cons (.lit _) .nil)) ?_;obtain⟨y40,g41,hi14⟩:=bind_some hi14;try simp only[rnA,Nat.reduceEqDiff,Nat.reduceLT,Nat.reduceLeDiff,el4,zbh g35,(show y33.2.1<(((Int.toNat v9):Nat):Int)from el4 ▸ zbe g35),zaH g35 ((eI .i64).c true),(show(l4.map ((eI .i64).c true)).set y33.2.1.toNat [(dI r38.1)]=y40.map ((eI .i64).c true)from zbv g41 ((eI .i64).c true))]
   cases c42:r38.2
   ·rw[c42,cond_false]at hi14;try simp only[rnA,Nat.reduceEqDiff]
    replace hi14:=qab hi14; subst hi14;exact⟨TX14 y40,by rw[hTX14]; rfl,by rw[hTX14]; exact zbH.mK [.k,.k,.k,.k,.k,.k,.k,.k,.k,.k] rfl rfl qcf ⟨MB.cs ⟨qcf,qcf,qcf,qcf,qcf⟩,⟨MB.cs ⟨⟨qcf,qcf⟩,qcf⟩,⟨MB.cs ⟨qcf,qcf,qcf,qcf⟩,⟨MB.es (eI .i64) true l3,⟨MB.es (eI .i64) true y40,⟨MB.cs ⟨rfl,qcf⟩,⟨MB.same trivial,⟨MB.cs ⟨qcf,qcf⟩,⟨.same (hkin _ (by decide)),⟨MB.same (zcE _ _ _ _),qcf⟩⟩⟩⟩⟩⟩⟩⟩⟩⟩,y40,rfl,(za8 g41).trans el4,rfl⟩
   rw[c42,cond_true]at hi14;try simp only[rnA]
   exact⟨T14 y40,by rw[hT14]; rfl,by rw[hT14]; exact zbH.mK [.k,.k,.k,.k,.k,.k,.k,.k,.k,.k] rfl rfl qcf ⟨MB.cs ⟨qcf,qcf,qcf,qcf,qcf⟩,⟨MB.cs ⟨⟨qcf,qcf⟩,qcf⟩,⟨MB.cs ⟨qcf,qcf,qcf,qcf⟩,⟨MB.es (eI .i64) true l3,⟨MB.es (eI .i64) true y40,⟨MB.cs ⟨rfl,qcf⟩,⟨MB.same trivial,⟨MB.cs ⟨qcf,qcf⟩,⟨.same (hkin _ (by decide)),⟨MB.same (zcE _ _ _ _),qcf⟩⟩⟩⟩⟩⟩⟩⟩⟩⟩,y40,⟨hi14,(za8 g41).trans el4⟩,rfl⟩
  ·rintro l4 ⟨hi14,el4⟩;rw[qaW]at hi14;simp only[zaK]at hi14;exact⟨l4,(qab hi14).symm,el4,rfl⟩
  ·rintro _ ⟨l4,oeq,el4,rfl⟩;have oeq2:=oeq.symm;subst oeq2;dsimp only at j13;rw[congrFun hT14 l4];refine zab ?_;try simp only[rnA]
   replace j13:=qab j13; subst j13;exact⟨_,⟨rfl,el4⟩,by rw[hT13]; exact wm0 [.d,.d,.k,.k,.k,.k,.d,.k] ⟨rfl,⟨rfl,⟨MB.cs ⟨qcf,qcf,qcf,qcf⟩,⟨MB.es (eI .i64) true l3,⟨MB.es (eI .i64) true l4,⟨MB.cs ⟨rfl,qcf⟩,⟨rfl,⟨MB.cs ⟨qcf,qcf⟩,qcf⟩⟩⟩⟩⟩⟩⟩⟩⟩
  ·rintro id _ ⟨l4,oeq,el4,rfl,rfl⟩;rw[oeq]at j13;dsimp only at j13;rw[congrFun hTX14 l4];refine zab ?_;try simp only[rnA]
   replace j13:=qab j13; subst j13;exact⟨_,⟨rfl,el4⟩,by rw[hT13]; exact wm0 [.d,.d,.k,.k,.k,.k,.d,.k] ⟨rfl,⟨rfl,⟨MB.cs ⟨qcf,qcf,qcf,qcf⟩,⟨MB.es (eI .i64) true l3,⟨MB.es (eI .i64) true l4,⟨MB.cs ⟨rfl,qcf⟩,⟨rfl,⟨MB.cs ⟨qcf,qcf⟩,qcf⟩⟩⟩⟩⟩⟩⟩⟩⟩
  intro L1 hx; exact hx.2.2
 rintro⟨b7_0,l4⟩ ⟨rfl,el4⟩;dsimp only at h;rw[congrFun hT13 (b7_0,l4)];refine zab ?_;try simp only[rnA,Nat.reduceEqDiff,Nat.reduceLT]
 cases c43:b7_0
 ·rw[c43,cond_false]at h;try simp only[rnA,Nat.reduceEqDiff,Nat.reduceLT,Nat.reduceAdd,Nat.reduceLeDiff]
  replace h:=qab h; subst h;exact ze4.ret rfl (Snp.zdf (.cons (.zaS (.cons (zai (eI .i64)) (.cons (zai (eI .i64)) (.cons (zai (eI .i64)) .nil)))) (.cons (.lit _) .nil)))
 rw[c43,cond_true]at h;try simp only[rnA,Nat.reduceEqDiff,Nat.reduceLT,Nat.reduceAdd,Nat.reduceLeDiff]
 replace h:=qab h; subst h;exact ze4.ret rfl (Snp.zdf (.cons (.zaS (.cons (zaa _ _ (fun h=>nomatch h)) (.cons (zb2 (e:=(eI .i64)) (t:=true) rfl (.inl rfl) (el3).symm (el3).symm (fun k h=>by cases h; exact qaj _) (fun h=>nomatch h)) (.cons (zb2 (e:=(eI .i64)) (t:=true) rfl (.inl rfl) (el4).symm (el4).symm (fun k h=>by cases h; exact qaj _) (fun h=>nomatch h)) .nil)))) (.cons (.lit _) .nil)))
def zcN(p0:S_api_Factor)(p1:Int):Option (S_api_Factor×Int):=
(zaw p0).bind fun r1=>
bif (r1.2 == 0)then(
(zak r1.1 p1).bind fun r4=>
bif (decide (r4<0))then(
some ((S_api_Factor.mk [] [] []),4))
else(
(zc6 8 r1.1.factor.vars).bind fun y7=>
(zpw y7 r4 (w64 (r4+1))).bind fun y9=>
(zaM r1.1 y9).bind fun r11=>
some (r11.1,r11.2)))
else(
some ((S_api_Factor.mk [] [] []),r1.2))
def zdN:C:=
 .seq (rg [oW 3 0,
 oW 5 2,
 ⟨some 6,.alloc [(.slice none 0 0),(.slice none 0 0),(.slice none 0 0)],none⟩,
 oK 7 0])
 (.seq (rg [oN 12 3 3,
 oU 13 89 12,
 oM 11 13,
 oX 14 11 0,
 oX 15 11 1,
 ⟨some 8,.alloc [(.slice none 0 0),(.slice none 0 0),(.slice none 0 0),(.slice none 0 0)],none⟩,
 oS 4 8 14,
 oM 9 15])
 (.seq (.seq (rg [oM 16 9,
 oD 17 .neq 16 0])
 (.cond (.s 17) (.seq (rg [⟨some 18,.build [(.slice none 0 0),(.slice none 0 0),(.slice none 0 0)] [],none⟩,
 oM 19 9,
 oS 3 6 18,
 oM 7 19])
 (.ret))
 (.skip)))
 (.seq (rg [oN 20 4 8,
 oM 21 1,
 oV 22 96 20 21,
 oM 10 22])
 (.seq (.seq (rg [oM 23 10,
 oD 24 .lss 23 0])
 (.cond (.s 24) (.seq (rg [⟨some 25,.build [(.slice none 0 0),(.slice none 0 0),(.slice none 0 0)] [],none⟩,
 oS 3 6 25,
 oK 7 4])
 (.ret))
 (.skip)))
 (.seq (.reg true false [oN 26 4 8,
 oF 27 0 8,
 oF 28 0 27,
 oL 29 28,
 oM 31 10,
 oM 32 10,
 oD 33 .add 32 1,
 oN 35 1 5,
 oU 30 49 29,
 ⟨none,.avo [(.s 8),(.s 5)] (.s 30),none⟩,
 ⟨some 34,.call 103 [(.s 30),(.s 31),(.s 33)],none⟩,
 ⟨some 36,.call 106 [(.s 26),(.s 34),(.s 35)],none⟩,
 oX 37 36 0,
 oX 38 36 1,
 oS 3 6 37,
 oM 7 38])
 (.ret))))))
theorem ze3:zgu mC 100=some (39,zdN,[.cell 6 (some 3),.tmp 7],false):=za5 (by kernel_rfl)
theorem zfL{p0:S_api_Factor}{p1:Int}{r:(S_api_Factor×Int)}(h:zcN p0 p1=some r):Lx.FnA mC 100 [(.agg [(fzE false (eI .i64) p0.vars),(fzE false (eI .i64) p0.zad),(fzE false (eI .i64) p0.w)]),(dI p1),(.agg [(.clo 101 [] [])])] (.tup [(.agg [(fzE false (eI .i64) r.1.vars),(fzE false (eI .i64) r.1.zad),(fzE false (eI .i64) r.1.w)]),(dI r.2)]):=by
 refine FnA.of ze3 (zaW rfl) (qac rfl) ?_;unfold zcN at h;simp only[zdN,zkp];refine zab ?_;obtain⟨r1,g2,h⟩:=bind_some h;try simp only[rnA,Nat.reduceEqDiff,Nat.reduceLT,Nat.reduceAdd,Nat.reduceLeDiff,reduceCtorEq]
 refine EvL.fnS (zaR g2) rfl rfl (.cons (Mzs.agg (.cons (zaf _ _ (fun h=>by cases h<;>contradiction)) (.cons (zaf _ _ (fun h=>by cases h<;>contradiction)) (.cons (zaf _ _ (fun h=>by cases h<;>contradiction)) .nil)))) .nil) ⟨⟨(zac _ _),(zac _ _),(zac _ _),qcf⟩,qcf⟩ ⟨⟨(zac _ _),(zac _ _),(zac _ _),(zac _ _),qcf⟩,qcf,qcf⟩ ?_;try simp only[rnA,Nat.reduceEqDiff,Nat.reduceLT,Nat.reduceAdd,Nat.reduceLeDiff,reduceCtorEq]
 cases c3:(r1.2 == 0)
 ·rw[c3,cond_false]at h;try simp only[rnA,Nat.reduceEqDiff,Nat.reduceLT,Nat.reduceAdd,Nat.reduceLeDiff,reduceCtorEq]
  replace h:=qab h; subst h;exact ze4.ret rfl (Snp.zdf (.cons (.zaS (.cons (zai (eI .i64)) (.cons (zai (eI .i64)) (.cons (zai (eI .i64)) .nil)))) (.cons (.lit _) .nil)))
 rw[c3,cond_true]at h;obtain⟨r4,g5,h⟩:=bind_some h;try simp only[rnA,Nat.reduceEqDiff,Nat.reduceLT,Nat.reduceAdd,Nat.reduceLeDiff,reduceCtorEq]
 refine EvL.fn (zam g5) rfl rfl (.cons (.zaS (.cons (zaa _ _ (fun h=>nomatch h)) (.cons (zaa _ _ (fun h=>nomatch h)) (.cons (zaa _ _ (fun h=>nomatch h)) (.cons (zaa _ _ (fun h=>nomatch h)) .nil))))) (.cons (.lit _) .nil)) ?_;try simp only[rnA,Nat.reduceEqDiff,Nat.reduceLT,reduceCtorEq]
 cases c6:(decide (r4<0))
 ·rw[c6,cond_false]at h;obtain⟨y7,g8,h⟩:=bind_some h;try simp only[rnA,Nat.reduceEqDiff,Nat.reduceLT,Nat.reduceAdd,Nat.reduceLeDiff,reduceCtorEq]
  refine EvL.clone (t:=false) (zs:=r1.1.factor.vars) g8 rfl rfl ?_;obtain⟨y9,g10,h⟩:=bind_some h;try simp only[rnA,Nat.reduceEqDiff,Nat.reduceLT,Nat.reduceAdd,Nat.reduceBEq,reduceCtorEq]
  refine EvL.delete (zs:=y7) (t:=true) g10 rfl rfl rfl rfl rfl rfl ?_;refine EvL.zeV (S':=⟨39,[(6,(.ptr 2 0)),(26,(.agg [(fzE false (eI .i64) r1.1.factor.vars),(fzE false (eI .i64) r1.1.factor.zad),(fzE false (eI .i64) r1.1.factor.w),(fzE false (eI .i64) r1.1.steps)])),(34,(fzE true (eI .i64) y9)),(35,(.agg [(.clo 101 [] [])]))],[.gone,.gone,.cells [zar,zar,zar]]⟩) (zbH.m0 [.d,.d,.k,.d,.f] rfl (msq (ms rfl ⟨qcf,qcf,qcf,qcf,qcf⟩ (mf rfl (zg5 (xs:=y7) (ys:=y9) (t:=true) (ziX g10) rfl rfl rfl (fun _=>rfl)) (ms rfl ⟨⟨qcf,qcf⟩,qcf⟩ trivial)))) ⟨rfl,⟨rfl,⟨MB.cs ⟨qcf,qcf,qcf,qcf⟩,qcf⟩⟩⟩) (zab ?_);obtain⟨r11,g12,h⟩:=bind_some h;try simp only[rnA]
  refine EvL.fnS (zbu g12) rfl rfl (.cons (Mzs.agg (.cons (zaf _ _ (fun h=>by cases h<;>contradiction)) (.cons (zaf _ _ (fun h=>by cases h<;>contradiction)) (.cons (zaf _ _ (fun h=>by cases h<;>contradiction)) (.cons (zaf _ _ (fun h=>by cases h<;>contradiction)) .nil))))) (.cons (zaf _ _ (fun h=>by cases h<;>contradiction)) (.cons (Mzs.agg (.cons zf0 .nil)) .nil))) ⟨⟨(zac _ _),(zac _ _),(zac _ _),(zac _ _),qcf⟩,(zac _ _),⟨⟨qcf,qcf⟩,qcf⟩,qcf⟩ ⟨⟨(zac _ _),(zac _ _),(zac _ _),qcf⟩,qcf,qcf⟩ ?_;try simp only[rnA,Nat.reduceEqDiff,Nat.reduceLT,Nat.reduceAdd,Nat.reduceLeDiff]
  replace h:=qab h; subst h;exact ze4.ret rfl (Snp.zdf (.cons (.zaS (.cons (zaa _ _ (fun h=>nomatch h)) (.cons (zaa _ _ (fun h=>nomatch h)) (.cons (zaa _ _ (fun h=>nomatch h)) .nil)))) (.cons (.lit _) .nil)))
 rw[c6,cond_true]at h;try simp only[rnA,Nat.reduceEqDiff,Nat.reduceLT,Nat.reduceAdd,Nat.reduceLeDiff,reduceCtorEq]
 replace h:=qab h; subst h;exact ze4.ret rfl (Snp.zdf (.cons (.zaS (.cons (zai (eI .i64)) (.cons (zai (eI .i64)) (.cons (zai (eI .i64)) .nil)))) (.cons (.lit _) .nil)))
def zcR(p0:Int)(p1:Int):Option (Int×Bool):=
some ((zti p0 p1),true)
theorem zfp{p0:Int}{p1:Int}{r:(Int×Bool)}(h:zcR p0 p1=some r):Lx.Fn mC 102 [(dI p0),(dI p1)] (.tup [(dI r.1),(dB r.2)]):=by
 refine fnO (by conv=>lhs; cbv) ?_;unfold zcR at h;refine zab ?_;try simp only[rnA,Nat.reduceEqDiff,reduceIte,Nat.reduceLT,Nat.reduceAdd,Nat.reduceLeDiff,Nat.reduceMul,Nat.reduceSub,Int.reduceLE,Int.reduceLT,Int.reduceBEq,Nat.reduceBEq,reduceCtorEq]
 replace h:=qab h; subst h;exact zcH.ret rfl (Snp.zdf (.cons (.lit _) (.cons (.lit _) .nil)))
end Go.Dc
