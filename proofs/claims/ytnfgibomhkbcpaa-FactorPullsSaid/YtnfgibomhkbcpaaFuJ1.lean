/-
 What index_count computes. Conditions: none.
-/
import Derived.Test.YtnfgibomhkbcpaaFuQt
import Derived.Test.YtnfgibomhkbcpaaFuLi
set_option linter.unusedSimpArgs false
set_option linter.unusedVariables false
set_option maxRecDepth 100000
set_option maxHeartbeats 4000000
namespace Go.Dc
open Go Go.Mx Go.Lx Go.Proofs
def zbW(p0:(List Int)):Nat→Int→Int→Option (Int×Bool)
 | 0,_,_=>none
 | n+1,v2,v11=>(
bif (decide (v11<(p0.length:Int)))then(
(zbq p0 v11).bind fun x3=>
((bif (decide (x3<1))then(
some true)
else(
bif (decide (8<x3))then(
some true)
else(
some (decide (4096<(w64 (v2 * x3)))))):Option Bool)).bind fun v15=>
bif v15 then(
some (0,false))
else(
zbW p0 n (w64 (v2 * x3)) (w64 (v11+1))))
else(
some (v2,true)))
def zdm(p0:(List Int)):Option (Int×Bool):=
bif (decide (12<(p0.length:Int)))then(
some (0,false))
else(
((zbW p0 ((p0.length:Int) - 0+2:Int).toNat 1 0:Option ((Int×Bool)))).bind fun o=>match o with
|(v2,v3)=>(
some (v2,v3)))
theorem zh3{p0:(List Int)}{r:(Int×Bool)}(h:zdm p0=some r):Lx.Fn mC 134 [(fzE false (eI .i64) p0)] (.tup [(dI r.1),(dB r.2)]):=by
 refine fnO (by conv=>lhs; cbv) ?_;unfold zdm at h;refine zab ?_;try simp only[rnA,Nat.reduceLT]
 refine EvL.scope (zab ?_);try simp only[rnA,Nat.reduceEqDiff,Nat.reduceLT,reduceCtorEq,za6]
 cases c1:(decide (12<(p0.length:Int)))
 ·rw[c1,cond_false]at h;try simp only[rnA,Nat.reduceEqDiff,Nat.reduceLT,reduceCtorEq,za6]
  obtain⟨o12,j12,h⟩:=bind_some h;obtain⟨T12,hT12⟩:=mkT fun a:(Int×Bool)=>⟨30,[(2,(dI a.1)),(3,(dB a.2))],[]⟩
  refine EvL.jn T12 (fun a=>a=o12) ?_ ?_
  ·refine zab ?_;simp only[rnA];obtain⟨T15,hT15⟩:=mkT fun a:(Int×Int)=>⟨30,[(2,(dI a.1)),(3,(dB true)),(9,(fzE false (eI .i64) p0)),(10,(dI (p0.length:Int))),(11,(dI a.2))],[]⟩
   refine EvL.rounds (α:=(Int×Int)) T15 (fun n a=>zbW p0 n a.1 a.2=some o12) ((p0.length:Int) - 0+2:Int).toNat (1,0) (by rw[hT15]; exact wm0 [] (by exact trivial)) j12 (fun _ h=>nomatch (show(none:Option (Int×Bool))=some o12 from h)) ?_;rintro n ⟨v2,v11⟩ j12;simp only[zbW]at j12;rw[congrFun hT15 (v2,v11)];refine zab ?_;try simp only[rnA,Nat.reduceEqDiff,Nat.reduceLT]
   cases c2:(decide (v11<(p0.length:Int)))
   ·rw[c2,cond_false]at j12;try simp only[rnA]
    replace j12:=qac j12; subst j12;exact lfj hT12 rfl (wm0 [] (by exact trivial))
   rw[c2,cond_true]at j12;obtain⟨x3,g4,j12⟩:=bind_some j12;try simp only[rnA,Nat.reduceEqDiff,Nat.reduceLT,zaz (n:=1) (e:=(eI .i64)) rfl g4]
   obtain⟨o16,j16,j12⟩:=bind_some j12;obtain⟨T16,hT16⟩:=mkT fun a:Bool=>⟨30,[(2,(dI v2)),(3,(dB true)),(5,(dI x3)),(9,(fzE false (eI .i64) p0)),(10,(dI (p0.length:Int))),(11,(dI v11)),(15,(dB a))],[]⟩
   refine EvL.jn T16 (fun a=>a=o16) ?_ ?_
   ·refine zab ?_;try simp only[rnA,Nat.reduceEqDiff]
    cases c5:(decide (x3<1))
    ·rw[c5,cond_false]at j16;try simp only[rnA,Nat.reduceEqDiff,Nat.reduceLT]
     cases c6:(decide (8<x3))
     ·rw[c6,cond_false]at j16;try simp only[rnA,Nat.reduceEqDiff,Nat.reduceLT]
      replace j16:=qac j16; subst j16;exact lfj hT16 rfl (wm0 [] (by exact trivial))
     rw[c6,cond_true]at j16;try simp only[rnA]
     replace j16:=qac j16; subst j16;exact lfj hT16 rfl (wm0 [] (by exact trivial))
    rw[c5,cond_true]at j16;try simp only[rnA]
    replace j16:=qac j16; subst j16;exact lfj hT16 rfl (wm0 [] (by exact trivial))
   rintro v15 rfl;rw[congrFun hT16 v15];refine zab ?_;try simp only[rnA,Nat.reduceEqDiff]
   cases c7:v15
   ·rw[c7,cond_false]at j12;try simp only[rnA,Nat.reduceEqDiff,Nat.reduceLT]
    exact⟨((w64 (v2 * x3)),(w64 (v11+1))),j12,by rw[hT15]; exact wm0 [] (by exact trivial)⟩
   rw[c7,cond_true]at j12;try simp only[rnA,Nat.reduceEqDiff,Nat.reduceLT,reduceCtorEq]
   replace j12:=qac j12; subst j12;exact lfj hT12 rfl (wm0 [] (by exact trivial))
  rintro⟨v2,v3⟩ rfl;dsimp only at h;rw[congrFun hT12 (v2,v3)];refine zab ?_;try simp only[rnA,Nat.reduceEqDiff,Nat.reduceLT]
  replace h:=qac h; subst h;exact zcR.ret rfl (Snp.zdG (.cons (.lit _) (.cons (.lit _) .nil)))
 rw[c1,cond_true]at h;try simp only[rnA,Nat.reduceLT]
 replace h:=qac h; subst h;exact zcR.ret rfl (Snp.zdG (.cons (.lit _) (.cons (.lit _) .nil)))
def zcg(p0:(List Int)):Option (Int×Int):=
(zdm p0).bind fun r1=>
bif r1.2 then(
some (r1.1,0))
else(
some (0,20))
theorem zfY{p0:(List Int)}{r:(Int×Int)}(h:zcg p0=some r):Lx.Fn mC 92 [(fzE false (eI .i64) p0)] (.tup [(dI r.1),(dI r.2)]):=by
 refine fnO (by conv=>lhs; cbv) ?_;unfold zcg at h;refine zab ?_;obtain⟨r1,g2,h⟩:=bind_some h;try simp only[rnA,Nat.reduceEqDiff,reduceIte,Nat.reduceLT,Nat.reduceAdd,Nat.reduceLeDiff,Nat.reduceMul,Nat.reduceSub,Int.reduceLE,Int.reduceLT,Int.reduceBEq,Nat.reduceBEq,reduceCtorEq]
 refine EvL.fn (zh3 g2) rfl rfl (.cons (zaa _ _ (fun h=>nomatch h)) .nil) ?_;try simp only[rnA,Nat.reduceEqDiff,reduceIte,Nat.reduceLT,Nat.reduceAdd,Nat.reduceLeDiff,Nat.reduceMul,Nat.reduceSub,Int.reduceLE,Int.reduceLT,Int.reduceBEq,Nat.reduceBEq,reduceCtorEq]
 cases c3:r1.2
 ·rw[c3,cond_false]at h;try simp only[rnA,Nat.reduceEqDiff,reduceIte,Nat.reduceLT,Nat.reduceAdd,Nat.reduceLeDiff,Nat.reduceMul,Nat.reduceSub,Int.reduceLE,Int.reduceLT,Int.reduceBEq,Nat.reduceBEq,reduceCtorEq,c3]
  replace h:=qac h; subst h;exact zcR.ret rfl (Snp.zdG (.cons (.lit _) (.cons (.lit _) .nil)))
 rw[c3,cond_true]at h;try simp only[rnA,Nat.reduceEqDiff,reduceIte,Nat.reduceLT,Nat.reduceAdd,Nat.reduceLeDiff,Nat.reduceMul,Nat.reduceSub,Int.reduceLE,Int.reduceLT,Int.reduceBEq,Nat.reduceBEq,reduceCtorEq,c3]
 replace h:=qac h; subst h;exact zcR.ret rfl (Snp.zdG (.cons (.lit _) (.cons (.lit _) .nil)))
def zbV(p0:S_api_Factor):Nat→Int→Int→Option (Out Unit (S_factor_table×Int))
 | 0,_,_=>none
 | n+1,v6,v42=>(
bif (decide (v42<(p0.vars.length:Int)))then(
(zbq p0.vars v42).bind fun x7=>
((bif (decide (x7≤v6))then(
some true)
else(
some (decide (63<x7))):Option Bool)).bind fun v52=>
bif v52 then(
some (.ret ((S_factor_table.mk (S_api_Factor.mk [] [] []) []),30)))
else(
zbV p0 n x7 (w64 (v42+1))))
else(
some (.go ())))
def zb0(p0:S_api_Factor):Nat→Int→Option (Out Unit (S_factor_table×Int))
 | 0,_=>none
 | n+1,v59=>(
bif (decide (v59<(p0.w.length:Int)))then(
(zbq p0.w v59).bind fun x12=>
((bif (decide (x12<0))then(
some true)
else(
some (decide (4611686018427387903<x12))):Option Bool)).bind fun v68=>
bif v68 then(
some (.ret ((S_factor_table.mk (S_api_Factor.mk [] [] []) []),30)))
else(
zb0 p0 n (w64 (v59+1))))
else(
some (.go ())))
def zbx(p0:S_api_Factor):Nat→Int→Int→(List Int)→Option (List Int)
 | 0,_,_,_=>none
 | n+1,v12,v13,l2=>(
bif (decide (0≤v13))then(
(zbq l2 v13).bind fun x19=>
(zgA l2 v13 v12).bind fun y21=>
(zbq p0.zad v13).bind fun x23=>
zbx p0 n (w64 (v12 * x23)) (w64 (v13 - 1)) y21)
else(
some l2))
def zaE(p0:S_api_Factor):Option (S_factor_table×Int):=
(zcg p0.zad).bind fun r1=>
((bif (r1.2 == 0)then(
bif ((p0.vars.length:Int)==(p0.zad.length:Int))then(
some (!((p0.w.length:Int)== r1.1)))
else(
some true))
else(
some true):Option Bool)).bind fun v37=>
bif v37 then(
some ((S_factor_table.mk (S_api_Factor.mk [] [] []) []),30))
else(
((zbV p0 ((p0.vars.length:Int) - 0+2:Int).toNat (-1) 0:Option (Out Unit (S_factor_table×Int)))).bind fun o=>match o with
| .go _=>(
((zb0 p0 ((p0.w.length:Int) - 0+2:Int).toNat 0:Option (Out Unit (S_factor_table×Int)))).bind fun o=>match o with
| .go _=>(
(zek 8 (p0.zad.length:Int) 0).bind fun y16=>
((zbx p0 ((w64 ((((Int.toNat (p0.zad.length:Int)):Nat):Int) - 1)) - 0+2:Int).toNat 1 (w64 ((((Int.toNat (p0.zad.length:Int)):Nat):Int) - 1)) y16:Option (List Int))).bind fun l2=>
some ((S_factor_table.mk p0 l2),0))
| .ret r=>some r)
| .ret r=>some r)
theorem zaX{p0:S_api_Factor}{r:(S_factor_table×Int)}(h:zaE p0=some r):Lx.FnA mC 89 [(.agg [(fzE false (eI .i64) p0.vars),(fzE false (eI .i64) p0.zad),(fzE false (eI .i64) p0.w)])] (.tup [(.agg [(fzE false (eI .i64) r.1.factor.vars),(fzE false (eI .i64) r.1.factor.zad),(fzE false (eI .i64) r.1.factor.w),(fzE false (eI .i64) r.1.steps)]),(dI r.2)]):=by
 refine zsY (by conv=>lhs; cbv) ?_;unfold zaE at h;refine zab ?_;obtain⟨r1,g2,h⟩:=bind_some h;try simp only[rnA,Nat.reduceEqDiff,Nat.reduceLT,reduceCtorEq]
 refine EvL.fn (zfY g2) rfl rfl (.cons (zaa _ _ (fun h=>nomatch h)) .nil) ?_;try simp only[rnA,Nat.reduceEqDiff,Nat.reduceLT,reduceCtorEq]
 obtain⟨o1,j1,h⟩:=bind_some h;obtain⟨T1,hT1⟩:=mkT fun a:Bool=>⟨96,[(1,(.ptr 0 0)),(2,(.ptr 1 0)),(37,(dB a))],[.cells [(fzE false (eI .i64) p0.vars),(fzE false (eI .i64) p0.zad),(fzE false (eI .i64) p0.w)],.cells [zax,zax,zax,zax]]⟩
 refine EvL.jn T1 (fun a=>a=o1) ?_ ?_
 ·refine zab ?_;try simp only[rnA,Nat.reduceEqDiff,Nat.reduceLT,reduceCtorEq]
  cases c3:(r1.2 == 0)
  ·rw[c3,cond_false]at j1;try simp only[rnA,Nat.reduceEqDiff,Nat.reduceLT,reduceCtorEq]
   replace j1:=qac j1; subst j1;exact lfj hT1 rfl (wm0 [.k,.k] ⟨MB.cs ⟨qcw,qcw,qcw,qcw⟩,⟨MB.cs ⟨qcw,qcw,qcw,qcw,qcw⟩,qcw⟩⟩)
  rw[c3,cond_true]at j1;try simp only[rnA,Nat.reduceEqDiff,Nat.reduceLT,reduceCtorEq,za6]
  cases c4:((p0.vars.length:Int)==(p0.zad.length:Int))
  ·rw[c4,cond_false]at j1;try simp only[rnA,Nat.reduceEqDiff,Nat.reduceLT,reduceCtorEq]
   replace j1:=qac j1; subst j1;exact lfj hT1 rfl (wm0 [.k,.k] ⟨MB.cs ⟨qcw,qcw,qcw,qcw⟩,⟨MB.cs ⟨qcw,qcw,qcw,qcw,qcw⟩,qcw⟩⟩)
  rw[c4,cond_true]at j1;try simp only[rnA,Nat.reduceEqDiff,Nat.reduceLT,reduceCtorEq,za6]
  replace j1:=qac j1; subst j1;exact lfj hT1 rfl (wm0 [.k,.k] ⟨MB.cs ⟨qcw,qcw,qcw,qcw⟩,⟨MB.cs ⟨qcw,qcw,qcw,qcw,qcw⟩,qcw⟩⟩)
 rintro v37 rfl;rw[congrFun hT1 v37];refine zab ?_;try simp only[rnA,Nat.reduceEqDiff]
 cases c5:v37
 ·rw[c5,cond_false]at h;try simp only[rnA,Nat.reduceEqDiff,Nat.reduceLT,za6]
  obtain⟨o5,j5,h⟩:=bind_some h;obtain⟨T5,hT5⟩:=mkT fun a:Unit=>⟨96,[(1,(.ptr 0 0)),(2,(.ptr 1 0))],[.cells [(fzE false (eI .i64) p0.vars),(fzE false (eI .i64) p0.zad),(fzE false (eI .i64) p0.w)],.cells [zax,zax,zax,zax]]⟩
  refine EvL.jn T5 (fun a=>o5=.go a) ?_ ?_
  ·refine zab ?_;simp only[rnA];obtain⟨T8,hT8⟩:=mkT fun a:(Int×Int)=>⟨96,[(1,(.ptr 0 0)),(2,(.ptr 1 0)),(6,(dI a.1)),(40,(fzE false (eI .i64) p0.vars)),(41,(dI (p0.vars.length:Int))),(42,(dI a.2))],[.cells [(fzE false (eI .i64) p0.vars),(fzE false (eI .i64) p0.zad),(fzE false (eI .i64) p0.w)],.cells [zax,zax,zax,zax]]⟩
   refine EvL.rounds (α:=(Int×Int)) T8 (fun n a=>zbV p0 n a.1 a.2=some o5) ((p0.vars.length:Int) - 0+2:Int).toNat ((-1),0) (by rw[hT8]; exact wm0 [.k,.k] ⟨MB.cs ⟨qcw,qcw,qcw,qcw⟩,⟨MB.cs ⟨qcw,qcw,qcw,qcw,qcw⟩,qcw⟩⟩) j5 (fun _ h=>nomatch (show(none:Option (Out Unit (S_factor_table×Int)))=some o5 from h)) ?_;rintro n ⟨v6,v42⟩ j5;simp only[zbV]at j5;rw[congrFun hT8 (v6,v42)];refine zab ?_;try simp only[rnA,Nat.reduceEqDiff,Nat.reduceLT]
   cases c6:(decide (v42<(p0.vars.length:Int)))
   ·rw[c6,cond_false]at j5;try simp only[rnA]
    replace j5:=qac j5; subst j5;exact lfj hT5 rfl (wm0 [.k,.k] ⟨MB.cs ⟨qcw,qcw,qcw,qcw⟩,⟨MB.cs ⟨qcw,qcw,qcw,qcw,qcw⟩,qcw⟩⟩)
   rw[c6,cond_true]at j5;obtain⟨x7,g8,j5⟩:=bind_some j5;try simp only[rnA,Nat.reduceEqDiff,Nat.reduceLT,zaz (n:=1) (e:=(eI .i64)) rfl g8]
   obtain⟨o9,j9,j5⟩:=bind_some j5;obtain⟨T9,hT9⟩:=mkT fun a:Bool=>⟨96,[(1,(.ptr 0 0)),(2,(.ptr 1 0)),(8,(dI x7)),(40,(fzE false (eI .i64) p0.vars)),(41,(dI (p0.vars.length:Int))),(42,(dI v42)),(52,(dB a))],[.cells [(fzE false (eI .i64) p0.vars),(fzE false (eI .i64) p0.zad),(fzE false (eI .i64) p0.w)],.cells [zax,zax,zax,zax]]⟩
   refine EvL.jn T9 (fun a=>a=o9) ?_ ?_
   ·refine zab ?_;try simp only[rnA,Nat.reduceEqDiff,Nat.reduceLT]
    cases c9:(decide (x7≤v6))
    ·rw[c9,cond_false]at j9;try simp only[rnA,Nat.reduceEqDiff,Nat.reduceLT]
     replace j9:=qac j9; subst j9;exact lfj hT9 rfl (wm0 [.k,.k] ⟨MB.cs ⟨qcw,qcw,qcw,qcw⟩,⟨MB.cs ⟨qcw,qcw,qcw,qcw,qcw⟩,qcw⟩⟩)
    rw[c9,cond_true]at j9;try simp only[rnA,Nat.reduceEqDiff,Nat.reduceLT]
    replace j9:=qac j9; subst j9;exact lfj hT9 rfl (wm0 [.k,.k] ⟨MB.cs ⟨qcw,qcw,qcw,qcw⟩,⟨MB.cs ⟨qcw,qcw,qcw,qcw,qcw⟩,qcw⟩⟩)
   rintro v52 rfl;rw[congrFun hT9 v52];refine zab ?_;try simp only[rnA,Nat.reduceEqDiff]
   cases c10:v52
   ·rw[c10,cond_false]at j5;try simp only[rnA,Nat.reduceEqDiff,Nat.reduceLT]
    exact⟨(x7,(w64 (v42+1))),j5,by rw[hT8]; exact wm0 [.k,.k] ⟨MB.cs ⟨qcw,qcw,qcw,qcw⟩,⟨MB.cs ⟨qcw,qcw,qcw,qcw,qcw⟩,qcw⟩⟩⟩
   rw[c10,cond_true]at j5;try simp only[rnA,Nat.reduceEqDiff,Nat.reduceLT,Nat.reduceAdd,Nat.reduceLeDiff]
   replace j5:=qac j5; subst j5;dsimp only at h;replace h:=qac h; subst h;exact zfq.ret rfl (Snp.zdG (.cons (.za4 (.cons (zaj (eI .i64)) (.cons (zaj (eI .i64)) (.cons (zaj (eI .i64)) (.cons (zaj (eI .i64)) .nil))))) (.cons (.lit _) .nil)))
  rintro⟨⟩ rfl;dsimp only at h;rw[congrFun hT5 ()];refine zab ?_;try simp only[rnA,Nat.reduceEqDiff,Nat.reduceLT,za6]
  obtain⟨o13,j13,h⟩:=bind_some h;obtain⟨T13,hT13⟩:=mkT fun a:Unit=>⟨96,[(1,(.ptr 0 0)),(2,(.ptr 1 0))],[.cells [(fzE false (eI .i64) p0.vars),(fzE false (eI .i64) p0.zad),(fzE false (eI .i64) p0.w)],.cells [zax,zax,zax,zax]]⟩
  refine EvL.jn T13 (fun a=>o13=.go a) ?_ ?_
  ·refine zab ?_;simp only[rnA];obtain⟨T16,hT16⟩:=mkT fun a:Int=>⟨96,[(1,(.ptr 0 0)),(2,(.ptr 1 0)),(57,(fzE false (eI .i64) p0.w)),(58,(dI (p0.w.length:Int))),(59,(dI a))],[.cells [(fzE false (eI .i64) p0.vars),(fzE false (eI .i64) p0.zad),(fzE false (eI .i64) p0.w)],.cells [zax,zax,zax,zax]]⟩
   refine EvL.rounds (α:=Int) T16 (fun n a=>zb0 p0 n a=some o13) ((p0.w.length:Int) - 0+2:Int).toNat 0 (by rw[hT16]; exact wm0 [.k,.k] ⟨MB.cs ⟨qcw,qcw,qcw,qcw⟩,⟨MB.cs ⟨qcw,qcw,qcw,qcw,qcw⟩,qcw⟩⟩) j13 (fun _ h=>nomatch (show(none:Option (Out Unit (S_factor_table×Int)))=some o13 from h)) ?_;rintro n v59 j13;simp only[zb0]at j13;rw[congrFun hT16 v59];refine zab ?_;try simp only[rnA,Nat.reduceEqDiff,Nat.reduceLT]
   cases c11:(decide (v59<(p0.w.length:Int)))
   ·rw[c11,cond_false]at j13;try simp only[rnA]
    replace j13:=qac j13; subst j13;exact lfj hT13 rfl (wm0 [.k,.k] ⟨MB.cs ⟨qcw,qcw,qcw,qcw⟩,⟨MB.cs ⟨qcw,qcw,qcw,qcw,qcw⟩,qcw⟩⟩)
   rw[c11,cond_true]at j13;obtain⟨x12,g13,j13⟩:=bind_some j13;try simp only[rnA,Nat.reduceEqDiff,Nat.reduceLT,zaz (n:=1) (e:=(eI .i64)) rfl g13]
   obtain⟨o17,j17,j13⟩:=bind_some j13;obtain⟨T17,hT17⟩:=mkT fun a:Bool=>⟨96,[(1,(.ptr 0 0)),(2,(.ptr 1 0)),(57,(fzE false (eI .i64) p0.w)),(58,(dI (p0.w.length:Int))),(59,(dI v59)),(68,(dB a))],[.cells [(fzE false (eI .i64) p0.vars),(fzE false (eI .i64) p0.zad),(fzE false (eI .i64) p0.w)],.cells [zax,zax,zax,zax]]⟩
   refine EvL.jn T17 (fun a=>a=o17) ?_ ?_
   ·refine zab ?_;try simp only[rnA,Nat.reduceEqDiff,Nat.reduceLT]
    cases c14:(decide (x12<0))
    ·rw[c14,cond_false]at j17;try simp only[rnA,Nat.reduceEqDiff,Nat.reduceLT]
     replace j17:=qac j17; subst j17;exact lfj hT17 rfl (wm0 [.k,.k] ⟨MB.cs ⟨qcw,qcw,qcw,qcw⟩,⟨MB.cs ⟨qcw,qcw,qcw,qcw,qcw⟩,qcw⟩⟩)
    rw[c14,cond_true]at j17;try simp only[rnA,Nat.reduceEqDiff,Nat.reduceLT]
    replace j17:=qac j17; subst j17;exact lfj hT17 rfl (wm0 [.k,.k] ⟨MB.cs ⟨qcw,qcw,qcw,qcw⟩,⟨MB.cs ⟨qcw,qcw,qcw,qcw,qcw⟩,qcw⟩⟩)
   rintro v68 rfl;rw[congrFun hT17 v68];refine zab ?_;try simp only[rnA,Nat.reduceEqDiff]
   cases c15:v68
   ·rw[c15,cond_false]at j13;try simp only[rnA,Nat.reduceEqDiff,Nat.reduceLT]
    exact⟨(w64 (v59+1)),j13,by rw[hT16]; exact wm0 [.k,.k] ⟨MB.cs ⟨qcw,qcw,qcw,qcw⟩,⟨MB.cs ⟨qcw,qcw,qcw,qcw,qcw⟩,qcw⟩⟩⟩
   rw[c15,cond_true]at j13;try simp only[rnA,Nat.reduceEqDiff,Nat.reduceLT,Nat.reduceAdd,Nat.reduceLeDiff]
   replace j13:=qac j13; subst j13;dsimp only at h;replace h:=qac h; subst h;exact zfq.ret rfl (Snp.zdG (.cons (.za4 (.cons (zaj (eI .i64)) (.cons (zaj (eI .i64)) (.cons (zaj (eI .i64)) (.cons (zaj (eI .i64)) .nil))))) (.cons (.lit _) .nil)))
  rintro⟨⟩ rfl;dsimp only at h;rw[congrFun hT13 ()];refine zab ?_;obtain⟨y16,g17,h⟩:=bind_some h;try simp only[rnA,Nat.reduceEqDiff,Nat.reduceLT,Nat.reduceAdd,za6,(zay g17).1.1,(zay g17).1.2,qbD,(show List.replicate (Int.toNat (p0.zad.length:Int)) [(dI 0)]=y16.map ((eI .i64).c true)from zbC g17 ((eI .i64).c true)),zbu g17]
  obtain⟨o18,j18,h⟩:=bind_some h;obtain⟨T18,hT18⟩:=mkT fun a:(List Int)=>⟨96,[(1,(.ptr 0 0)),(2,(.ptr 1 0)),(11,(.sl 2 0 1 (Int.toNat (p0.zad.length:Int)) (some (Int.toNat (p0.zad.length:Int))) (Int.toNat (p0.zad.length:Int))))],[.cells [(fzE false (eI .i64) p0.vars),(fzE false (eI .i64) p0.zad),(fzE false (eI .i64) p0.w)],.cells [zax,zax,zax,zax],.els 1 (a.map ((eI .i64).c true))]⟩
  refine EvL.jn T18 (fun a=>a=o18∧a.length=(Int.toNat (p0.zad.length:Int))) ?_ ?_
  ·refine zab ?_;simp only[rnA];obtain⟨T19,hT19⟩:=mkT fun a:(Int×Int×(List Int))=>⟨96,[(1,(.ptr 0 0)),(2,(.ptr 1 0)),(11,(.sl 2 0 1 (Int.toNat (p0.zad.length:Int)) (some (Int.toNat (p0.zad.length:Int))) (Int.toNat (p0.zad.length:Int)))),(12,(dI a.1)),(13,(dI a.2.1))],[.cells [(fzE false (eI .i64) p0.vars),(fzE false (eI .i64) p0.zad),(fzE false (eI .i64) p0.w)],.cells [zax,zax,zax,zax],.els 1 (a.2.2.map ((eI .i64).c true))]⟩
   refine EvL.rounds (α:=(Int×Int×(List Int))) T19 (fun n a=>zbx p0 n a.1 a.2.1 a.2.2=some o18∧a.2.2.length=(Int.toNat (p0.zad.length:Int))) ((w64 ((((Int.toNat (p0.zad.length:Int)):Nat):Int) - 1)) - 0+2:Int).toNat (1,(w64 ((((Int.toNat (p0.zad.length:Int)):Nat):Int) - 1)),y16) (by rw[hT19]; exact wm0 [.k,.k,.k] ⟨MB.cs ⟨qcw,qcw,qcw,qcw⟩,⟨MB.cs ⟨qcw,qcw,qcw,qcw,qcw⟩,⟨MB.es (eI .i64) true y16,qcw⟩⟩⟩) ⟨j18,zbu g17⟩ (fun _ h=>nomatch (show(none:Option (List Int))=some o18 from h.1)) ?_;rintro n ⟨v12,v13,l2⟩ ⟨j18,el2⟩;simp only[zbx]at j18;rw[congrFun hT19 (v12,v13,l2)];refine zab ?_;try simp only[rnA,Nat.reduceEqDiff,Nat.reduceLT]
   cases c18:(decide (0≤v13))
   ·rw[c18,cond_false]at j18;try simp only[rnA]
    replace j18:=qac j18; subst j18;exact⟨_,⟨rfl,el2⟩,by rw[hT18]; exact wm0 [.k,.k,.k] ⟨MB.cs ⟨qcw,qcw,qcw,qcw⟩,⟨MB.cs ⟨qcw,qcw,qcw,qcw,qcw⟩,⟨MB.es (eI .i64) true l2,qcw⟩⟩⟩⟩
   rw[c18,cond_true]at j18;obtain⟨x19,g20,j18⟩:=bind_some j18;obtain⟨y21,g22,j18⟩:=bind_some j18;obtain⟨x23,g24,j18⟩:=bind_some j18;try simp only[rnA,Nat.reduceEqDiff,Nat.reduceLT,Nat.reduceLeDiff,el2,zbl g20,(show v13<(((Int.toNat (p0.zad.length:Int)):Nat):Int)from el2 ▸ zbm g20),zaO g20 ((eI .i64).c true),(show(l2.map ((eI .i64).c true)).set v13.toNat [(dI v12)]=y21.map ((eI .i64).c true)from zbA g22 ((eI .i64).c true)),zaz (n:=1) (e:=(eI .i64)) rfl g24]
   exact⟨((w64 (v12 * x23)),(w64 (v13 - 1)),y21),⟨j18,(zbf g22).trans el2⟩,by rw[hT19]; exact wm0 [.k,.k,.k] ⟨MB.cs ⟨qcw,qcw,qcw,qcw⟩,⟨MB.cs ⟨qcw,qcw,qcw,qcw,qcw⟩,⟨MB.es (eI .i64) true y21,qcw⟩⟩⟩⟩
  rintro l2 ⟨rfl,el2⟩;rw[congrFun hT18 l2];refine zab ?_;try simp only[rnA,Nat.reduceEqDiff,Nat.reduceLT,Nat.reduceAdd,Nat.reduceLeDiff]
  replace h:=qac h; subst h;exact zfq.ret rfl (Snp.zdG (.cons (.za4 (.cons (zaa _ _ (fun h=>nomatch h)) (.cons (zaa _ _ (fun h=>nomatch h)) (.cons (zaa _ _ (fun h=>nomatch h)) (.cons (zb9 (e:=(eI .i64)) (t:=true) rfl (.inl rfl) (el2).symm (el2).symm (fun k h=>by cases h; exact qai _) (fun h=>nomatch h)) .nil))))) (.cons (.lit _) .nil)))
 rw[c5,cond_true]at h;try simp only[rnA,Nat.reduceEqDiff,Nat.reduceLT,Nat.reduceAdd,Nat.reduceLeDiff]
 replace h:=qac h; subst h;exact zfq.ret rfl (Snp.zdG (.cons (.za4 (.cons (zaj (eI .i64)) (.cons (zaj (eI .i64)) (.cons (zaj (eI .i64)) (.cons (zaj (eI .i64)) .nil))))) (.cons (.lit _) .nil)))
theorem zi8{α:Type}{L:List LB}{β:Nat}(e:En α)(x:α)(h:L[β]? = some (.cells (e.c false x))):Snp L false (.ptr β 0) (.fptr false (e.c false x)):=
 .ptr h (by omega) fun k d d' h3 h4=>by
  rw[qaV]at h3;exact(e.snp (L:=L) (t:=false) (t':=false) x id).get k d d' h3 h4
def za0(zad steps:List Int):Option (List Int×List Int):=some (zad,steps)
def zem:C:=
 .seq (rg [oW 2 0,
 oW 3 1,
 ⟨some 4,.mov (.c .nilFunc),none⟩])
 (.seq (rg [⟨some 5,.clo 135 [] [(.s 2),(.s 3)],none⟩,
 oM 4 5])
 (.ret))
theorem zfH:zgX mC 93=some (6,zem,[.tmp 4],false):=zba (by kernel_rfl)
theorem zbj{zad steps:List Int}{r:List Int×List Int}(h:za0 zad steps=some r):
  Lx.FnA mC 93 [fzE false (eI .i64) zad,fzE false (eI .i64) steps] (.clo 135 [] [.fptr false ((eL (eI .i64)).c false r.1),.fptr false ((eL (eI .i64)).c false r.2)]):=by
 cases h;refine FnA.of zfH (za2 rfl) (qad rfl) ?_;simp only[zem,zk3];refine zab ?_;simp only[rnA,Nat.reduceEqDiff,reduceIte,Nat.reduceLT,Nat.reduceAdd,Nat.reduceLeDiff,Nat.reduceMul,Nat.reduceSub,Int.reduceLE,Int.reduceLT,Int.reduceBEq,Nat.reduceBEq,reduceCtorEq];exact zfq.ret rfl (.clo rfl rfl (Snps.get .nil) (Snps.get (.cons (zi8 (eL (eI .i64)) zad rfl) (.cons (zi8 (eL (eI .i64)) steps rfl) .nil))))
def ziu(zad steps:List Int):Nat→List Int→Int→Option (List Int×Int×Int)
 | 0,vals,a=>some (vals,a,-1)
 | k+1,vals,a=>(zbq vals (k:Int)).bind fun v=>(zbq zad (k:Int)).bind fun c=>bif v == w64 (c - 1)then(zbq steps (k:Int)).bind fun st=>(zgA vals (k:Int) 0).bind fun vals'=>ziu zad steps k vals' (w64 (a - w64 (v * st)))else some (vals,a,(k:Int))
def zsQ(zad steps:List Int):Nat→List Int→Int→Int→Option (List (Int×Int×List Int))
 | 0,_,_,_=>none
 | n+1,vals,i,a=>(ziu zad steps zad.length vals a).bind fun r=>bif decide (r.2.2<0)then some [(i,a,vals)]else
   (zbq r.1 r.2.2).bind fun v=>(zgA r.1 r.2.2 (w64 (v+1))).bind fun vals'=>(zbq steps r.2.2).bind fun st=>(zsQ zad steps n vals' (w64 (i+1)) (w64 (r.2.1+st))).map fun l=>(i,a,vals):: l
def zpT(zad steps:List Int):Option (List (Int×Int×List Int)):=(zmj zad).bind fun _=>(zek 8 (zad.length:Int) 0).bind fun z=>zsQ zad steps ((zad.foldl (· * ·) 1).toNat) z 0 0
theorem zj8{α β:Type}{o:Option α}{f:α→β}{b:β}(h:o.map f=some b):∃ a,o=some a∧b=f a:=by
 cases o with
 | none=>cases h
 | some a=>cases h; exact⟨a,rfl,rfl⟩
theorem zrW{L:List LB}{n:Nat}(h:L.length=n)(x:LB):(L ++ [x])[n]? = some x:=by subst h; simp
theorem zrS{L:List LB}{n:Nat}(h:L.length=n)(x y:LB):(L ++ [x]).set n y=L ++ [y]:=by subst h; simp
def zq0:C:=
 (.seq (.seq (.scope (.reg true false [oM 19 7,
 oD 20 .geq 19 0,
 oM 21 20,
 oMg 22 4 21 true,
 oMg 23 7 21 true,
 ⟨some 24,.idxS 1 (.s 22) (.s 23),some (21,true)⟩,
 oLg 25 24 21 true,
 oLg 26 1 21 true,
 oMg 27 7 21 true,
 ⟨some 28,.idxS 1 (.s 26) (.s 27),some (21,true)⟩,
 oLg 29 28 21 true,
 oDg 30 .sub 29 1 21 true,
 ⟨some 31,.bin .eql (.s 25) (.s 30),some (21,true)⟩,
 ⟨some 32,.pick (.s 21) (.s 31) (.c (.bool false)),none⟩]))
 (.cond (.s 32) (.skip)
 (.exit 2)))
 (.block 3 (.seq (.reg true false [oM 33 6,
 oM 34 4,
 oM 35 7,
 oI 36 1 34 35,
 oL 37 36,
 oL 38 2,
 oM 39 7,
 oI 40 1 38 39,
 oL 41 40,
 oB 42 .mul 37 41,
 oB 43 .sub 33 42,
 oM 6 43])
 (.seq (rg [oM 44 4,
 oM 45 7,
 oI 46 1 44 45,
 ⟨none,.store 1 (.s 46) (.c (.int .i64 0)),none⟩])
 (rg [oM 47 7,
 oD 48 .sub 47 1,
 oM 7 48])))))
def zmt:C:=.block 1 (.seq (.seq (.reg false false [⟨some 11,.mov (.s 0),none⟩,
 ⟨some 12,.mov (.s 5),none⟩,
 ⟨some 13,.mov (.s 6),none⟩,
 ⟨some 14,.zbK (.s 11) [(.s 12),(.s 13)],none⟩,
 ⟨some 15,.un .not (.s 14),none⟩])
 (.cond (.s 15) (.ret)
 (.skip)))
 (.seq (.reg false false [⟨some 16,.load none (.s 1),none⟩,
 ⟨some 17,.len (.s 16),none⟩,
 ⟨some 18,.bin .sub (.s 17) (.c (.int .i64 1)),none⟩,
 ⟨some 7,.mov (.s 18),none⟩])
 (.seq (.scope (.block 2 (.loop zq0)))
 (.seq (.seq (.reg false false [⟨some 49,.mov (.s 7),none⟩,
 ⟨some 50,.bin .lss (.s 49) (.c (.int .i64 0)),none⟩])
 (.cond (.s 50) (.ret)
 (.skip)))
 (.seq (.reg false false [⟨some 51,.mov (.s 4),none⟩,
 ⟨some 52,.mov (.s 7),none⟩,
 ⟨some 53,.idxS 1 (.s 51) (.s 52),none⟩,
 ⟨some 54,.load none (.s 53),none⟩,
 ⟨some 55,.bin .add (.s 54) (.c (.int .i64 1)),none⟩,
 ⟨some 56,.idxS 1 (.s 51) (.s 52),none⟩,
 ⟨none,.store 1 (.s 56) (.s 55),none⟩])
 (.seq (.reg false false [⟨some 57,.mov (.s 6),none⟩,
 ⟨some 58,.load none (.s 2),none⟩,
 ⟨some 59,.mov (.s 7),none⟩,
 ⟨some 60,.idxS 1 (.s 58) (.s 59),none⟩,
 ⟨some 61,.load none (.s 60),none⟩,
 ⟨some 62,.bin .add (.s 57) (.s 61),none⟩,
 ⟨some 6,.mov (.s 62),none⟩])
 (.reg false false [⟨some 63,.mov (.s 5),none⟩,
 ⟨some 64,.bin .add (.s 63) (.c (.int .i64 1)),none⟩,
 ⟨some 5,.mov (.s 64),none⟩])))))))
def zs8:C:=.seq (.reg false false [⟨some 8,.load none (.s 1),none⟩,
 ⟨some 9,.len (.s 8),none⟩,
 ⟨some 10,.mk 1 8 [(.int .i64 0)] (.s 9) (.s 9),none⟩,
 ⟨some 4,.mov (.s 10),none⟩,
 ⟨some 5,.mov (.c (.int .i64 0)),none⟩,
 ⟨some 6,.mov (.c (.int .i64 0)),none⟩])
 (.scope (.block 0 (.loop zmt)))
theorem zr2:zgX mC 135=some (65,zs8,[],false):=zba (by kernel_rfl)
theorem zbg{zad steps:List Int}{u:List (Int×Int×List Int)}(hu:zpT zad steps=some u):
  Gen mC 135 [] [.fptr false ((eL (eI .i64)).c false zad),.fptr false ((eL (eI .i64)).c false steps)] u (fun y n0 args G=>args=[dI y.1,dI y.2.1]∧G=[.els 1 (y.2.2.map ((eI .i64).c true))]):=by
 intro n0 β P Ps hβ hlen hround L hP;refine zel.ofM zr2 (za2 rfl) (qad rfl) ?_;obtain⟨_,hsm,hu⟩:=bind_some hu;obtain⟨z,hz,hv⟩:=bind_some hu;have hL:=hlen _ _ hP;have hm:IntKind.i64.wrap ((zad.length:Int) - 1)=(zad.length:Int) - 1:=by
  have:=zkF hsm;exact wrap64 (by omega) (by omega)
 unfold zs8;refine zab ?_;simp only[rnA,Nat.reduceEqDiff,reduceIte,Nat.reduceLT,Nat.reduceAdd,Nat.reduceLeDiff,Nat.reduceMul,Nat.reduceSub,Int.reduceLE,Int.reduceLT,Int.reduceBEq,Nat.reduceBEq,reduceCtorEq,za6,(zay hz).1.1,(zay hz).1.2,qbD,qaE,(show List.replicate zad.length [(dI 0)]=z.map ((eI .i64).c true)from(zbC hz ((eI .i64).c true)))];refine EvL.scope (zab ?_);simp only[rnA,Nat.reduceEqDiff,reduceIte,Nat.reduceLT,Nat.reduceAdd,Nat.reduceLeDiff,Nat.reduceMul,Nat.reduceSub,Int.reduceLE,Int.reduceLT,Int.reduceBEq,Nat.reduceBEq,reduceCtorEq];rw[hL];refine EvL.loop (α:=Nat×Nat×List Int×Int×Int×List LB) (fun a=>⟨65,[(0,.yld β),(1,.fptr false ((eL (eI .i64)).c false zad)),(2,.fptr false ((eL (eI .i64)).c false steps)),(4,.sl n0 0 1 zad.length (some zad.length) zad.length),(5,dI a.2.2.2.1),(6,dI a.2.2.2.2.1)],a.2.2.2.2.2 ++ [.els 1 (a.2.2.1.map ((eI .i64).c true))]⟩)
  (fun a=>P a.2.1 a.2.2.2.2.2∧zsQ zad steps a.1 a.2.2.1 a.2.2.2.1 a.2.2.2.2.1=some (u.drop a.2.1)∧a.2.2.1.length=zad.length) (fun a=>a.1) ((zad.foldl (· * ·) 1).toNat,0,z,0,0,L) (by refine zbL.sub ?_; exact⟨rfl,rfl,rfl,rfl,rfl,rfl,qcw⟩) ⟨hP,hv,by rw[zbu hz,qaE]⟩ ?_
 rintro⟨n,j,vals,i,at_,L'⟩ ⟨hPi,hvk,hvl⟩;simp only at hPi hvk hvl;cases n with
 | zero=>cases hvk
 | succ n=>
 unfold zsQ at hvk;obtain⟨⟨vals1,at1,kk⟩,hc,hvk⟩:=bind_some hvk;simp only at hvk;have hul:∃ r,u.drop j=(i,at_,vals):: r:=by
  cases hk:decide (kk<0)with
  | true=>rw[hk,cond_true]at hvk; exact⟨[],(qac hvk).symm⟩
  | false=>
   rw[hk,cond_false]at hvk;obtain⟨v,_,hvk⟩:=bind_some hvk;obtain⟨vals2,_,hvk⟩:=bind_some hvk;obtain⟨st,_,hvk⟩:=bind_some hvk;obtain⟨l,_,hl⟩:=zj8 hvk;exact⟨l,hl⟩
 obtain⟨r,hul⟩:=hul;have hj:j<u.length:=by
  refine Nat.lt_of_not_le fun hn=>?_
  rw[qbM hn]at hul;cases hul
 have huj:u[j]? = some (i,at_,vals):=by
  rw[qav hj]at hul;rw[qaf hj,(List.cons.inj hul).1]
 have hur:u.drop (j+1)=r:=by
  rw[qav hj]at hul;exact(List.cons.inj hul).2
 unfold zmt;refine zab ?_;simp only[rnA,Nat.reduceEqDiff,reduceIte,Nat.reduceLT,Nat.reduceAdd,Nat.reduceLeDiff,Nat.reduceMul,Nat.reduceSub,Int.reduceLE,Int.reduceLT,Int.reduceBEq,Nat.reduceBEq,reduceCtorEq];refine EvL.yield rfl rfl rfl (hround j (i,at_,vals) L' _ [.els 1 (vals.map ((eI .i64).c true))] huj hPi ⟨rfl,rfl⟩) ?_;rintro b L2 ⟨L1,rfl,hl1,hb⟩;cases b with
 | false=>
  simp only[rnA,Nat.reduceEqDiff,reduceIte,Nat.reduceLT,Nat.reduceAdd,Nat.reduceLeDiff,Nat.reduceMul,Nat.reduceSub,Int.reduceLE,Int.reduceLT,Int.reduceBEq,Nat.reduceBEq,reduceCtorEq];exact⟨[],rfl,L1,_,rfl,hl1,.inr hb⟩
 | true=>
 have hga:=zrW hl1;have hsa:=zrS hl1;simp only[rnA,Nat.reduceEqDiff,reduceIte,Nat.reduceLT,Nat.reduceAdd,Nat.reduceLeDiff,Nat.reduceMul,Nat.reduceSub,Int.reduceLE,Int.reduceLT,Int.reduceBEq,Nat.reduceBEq,reduceCtorEq,za6,hm];refine EvL.jn (fun a:List Int×Int×Int=>⟨65,[(0,.yld β),(1,.fptr false ((eL (eI .i64)).c false zad)),(2,.fptr false ((eL (eI .i64)).c false steps)),(4,.sl n0 0 1 zad.length (some zad.length) zad.length),(5,dI i),(6,dI a.2.1),(7,dI a.2.2)],L1 ++ [.els 1 (a.1.map ((eI .i64).c true))]⟩) (fun a=>a=(vals1,at1,kk)∧a.1.length=zad.length) ?_ ?_
 ·refine zab ?_;simp only[rnA,Nat.reduceEqDiff,reduceIte,Nat.reduceLT,Nat.reduceAdd,Nat.reduceLeDiff,Nat.reduceMul,Nat.reduceSub,Int.reduceLE,Int.reduceLT,Int.reduceBEq,Nat.reduceBEq,reduceCtorEq];refine EvL.loop (α:=Nat×List Int×Int) (fun a=>⟨65,[(0,.yld β),(1,.fptr false ((eL (eI .i64)).c false zad)),(2,.fptr false ((eL (eI .i64)).c false steps)),(4,.sl n0 0 1 zad.length (some zad.length) zad.length),(5,dI i),(6,dI a.2.2),(7,dI ((a.1:Int) - 1))],L1 ++ [.els 1 (a.2.1.map ((eI .i64).c true))]⟩)
   (fun a=>ziu zad steps a.1 a.2.1 a.2.2=some (vals1,at1,kk)∧a.2.1.length=zad.length∧a.1≤zad.length) (fun a=>a.1) (zad.length,vals,at_) (by refine zbL.sub ?_; exact⟨rfl,rfl,rfl,rfl,rfl,rfl,rfl,qcw⟩) ⟨hc,hvl,qai _⟩ ?_
  rintro⟨f,vs,a⟩ ⟨hf,hvs,hfl⟩;simp only at hf hvs hfl;simp only[zq0,zk3];refine zab ?_;simp only[rnA,Nat.reduceEqDiff,reduceIte,Nat.reduceLT,Nat.reduceAdd,Nat.reduceLeDiff,Nat.reduceMul,Nat.reduceSub,Int.reduceLE,Int.reduceLT,Int.reduceBEq,Nat.reduceBEq,reduceCtorEq];cases f with
  | zero=>
   cases hf;refine EvL.scope (zab ?_);have hk:((0:Nat):Int) - 1 = -1:=rfl;simp only[rnA,Nat.reduceEqDiff,reduceIte,Nat.reduceLT,Nat.reduceAdd,Nat.reduceLeDiff,Nat.reduceMul,Nat.reduceSub,Int.reduceLE,Int.reduceLT,Int.reduceBEq,Nat.reduceBEq,reduceCtorEq,hk];exact⟨_,⟨rfl,hvs⟩,zbL.sub ⟨rfl,rfl,rfl,rfl,rfl,rfl,rfl,qcw⟩⟩
  | succ f=>
   have hk:((f+1:Nat):Int) - 1=(f:Int):=by omega
   have hk0:(0:Int)≤(f:Int):=by omega
   unfold ziu at hf;obtain⟨v,q1,hf⟩:=bind_some hf;obtain⟨c,q2,hf⟩:=bind_some hf;refine EvL.scope (zab ?_);cases hb:(v == w64 (c - 1))with
   | false=>
    rw[hb,cond_false]at hf;cases hf;simp only[rnA,Nat.reduceEqDiff,reduceIte,Nat.reduceLT,Nat.reduceAdd,Nat.reduceLeDiff,Nat.reduceMul,Nat.reduceSub,Int.reduceLE,Int.reduceLT,Int.reduceBEq,Nat.reduceBEq,reduceCtorEq,hk,hk0,hga,hsa,hvs,(show(f:Int)<((zad.length:Nat):Int)from hvs ▸ zbm q1),zaO q1 ((eI .i64).c true),zaz (n:=1) (e:=eI .i64) rfl q2,hb];exact⟨_,⟨rfl,hvs⟩,zbL.sub ⟨rfl,rfl,rfl,rfl,rfl,rfl,rfl,qcw⟩⟩
   | true=>
    rw[hb,cond_true]at hf;obtain⟨st,q3,hf⟩:=bind_some hf;obtain⟨vs',q4,hf⟩:=bind_some hf;have hw:IntKind.i64.wrap ((f:Int) - 1)=(f:Int) - 1:=by
     have:=zkF hsm;exact wrap64 (by omega) (by omega)
    simp only[rnA,Nat.reduceEqDiff,reduceIte,Nat.reduceLT,Nat.reduceAdd,Nat.reduceLeDiff,Nat.reduceMul,Nat.reduceSub,Int.reduceLE,Int.reduceLT,Int.reduceBEq,Nat.reduceBEq,reduceCtorEq,hk,hk0,hga,hsa,hvs,(show(f:Int)<((zad.length:Nat):Int)from hvs ▸ zbm q1),zaO q1 ((eI .i64).c true),zaz (n:=1) (e:=eI .i64) rfl q2,zaz (n:=1) (e:=eI .i64) rfl q3,hb,(show(vs.map ((eI .i64).c true)).set (f:Int).toNat [dI 0]=vs'.map ((eI .i64).c true)from zbA q4 ((eI .i64).c true)),hw];exact⟨(f,vs',w64 (a - w64 (v * st))),⟨hf,by rw[zbf q4]; exact hvs,by omega⟩,qbB f,zbL.sub ⟨rfl,rfl,rfl,rfl,rfl,rfl,rfl,qcw⟩⟩
 rintro a ⟨rfl,hvs⟩;simp only at hvs;refine zab ?_;cases hk:decide (kk<0)with
 | true=>
  rw[hk,cond_true]at hvk;simp only[rnA,Nat.reduceEqDiff,reduceIte,Nat.reduceLT,Nat.reduceAdd,Nat.reduceLeDiff,Nat.reduceMul,Nat.reduceSub,Int.reduceLE,Int.reduceLT,Int.reduceBEq,Nat.reduceBEq,reduceCtorEq,hk];have h1:u.length=j+1:=by
   have h2:=qac hvk;have h3:u.drop (j+1)=[]:=by
    rw[hur];rw[← h2]at hul;exact(List.cons.inj hul).2.symm
   have h4:=List.drop_eq_nil_iff.1 h3;omega
  exact⟨[],rfl,L1,_,rfl,hl1,.inl (by rw[h1]; exact hb)⟩
 | false=>
  rw[hk,cond_false]at hvk;obtain⟨v,q1,hvk⟩:=bind_some hvk;obtain⟨vals2,q2,hvk⟩:=bind_some hvk;obtain⟨st,q3,hvk⟩:=bind_some hvk;obtain⟨l,q4,hl⟩:=zj8 hvk;simp only[rnA,Nat.reduceEqDiff,reduceIte,Nat.reduceLT,Nat.reduceAdd,Nat.reduceLeDiff,Nat.reduceMul,Nat.reduceSub,Int.reduceLE,Int.reduceLT,Int.reduceBEq,Nat.reduceBEq,reduceCtorEq,hk,hga,hsa,hvs,zbl q1,(show kk<((zad.length:Nat):Int)from hvs ▸ zbm q1),zaO q1 ((eI .i64).c true),(show(vals1.map ((eI .i64).c true)).set kk.toNat [dI (w64 (v+1))]=vals2.map ((eI .i64).c true)from zbA q2 ((eI .i64).c true)),zaz (n:=1) (e:=eI .i64) rfl q3];refine⟨(n,j+1,vals2,w64 (i+1),w64 (at1+st),L1),⟨hb,?_,by rw[zbf q2]; exact hvs⟩,qbB n,zbL.sub ⟨rfl,rfl,rfl,rfl,rfl,rfl,qcw⟩⟩;simp only;rw[q4,hur];rw[hul]at hl;rw[(List.cons.inj hl).2]
def zaN(p0:(List Int))(p1:Int):Nat→Int→Option (Out Unit Int)
 | 0,_=>none
 | n+1,v8=>(
bif (decide (v8<(p0.length:Int)))then(
(zbq p0 v8).bind fun x2=>
bif (p1 == x2)then(
some (.ret v8))
else(
zaN p0 p1 n (w64 (v8+1))))
else(
some (.go ())))
def za3(p0:(List Int))(p1:Int):Option Int:=
((zaN p0 p1 ((p0.length:Int) - 0+2:Int).toNat 0:Option (Out Unit Int))).bind fun o=>match o with
| .go _=>(
some (-1))
| .ret r=>some r
theorem zef{p0:(List Int)}{p1:Int}{r:Int}(h:za3 p0 p1=some r):Lx.Fn mC 136 [(fzE false (eI .i64) p0),(dI p1)] (dI r):=by
 refine fnO (by conv=>lhs; cbv) ?_;unfold za3 at h;refine zab ?_;try simp only[rnA,Nat.reduceEqDiff,Nat.reduceLT,Nat.reduceAdd,reduceCtorEq,za6]
 obtain⟨o1,j1,h⟩:=bind_some h;obtain⟨T1,hT1⟩:=mkT fun a:Unit=>⟨19,[],[]⟩
 refine EvL.jn T1 (fun a=>o1=.go a) ?_ ?_
 ·refine zab ?_;simp only[rnA];obtain⟨T2,hT2⟩:=mkT fun a:Int=>⟨19,[(0,(fzE false (eI .i64) p0)),(1,(dI p1)),(7,(dI (p0.length:Int))),(8,(dI a))],[]⟩
  refine EvL.rounds (α:=Int) T2 (fun n a=>zaN p0 p1 n a=some o1) ((p0.length:Int) - 0+2:Int).toNat 0 (by rw[hT2]; exact wm0 [] (by exact trivial)) j1 (fun _ h=>nomatch (show(none:Option (Out Unit Int))=some o1 from h)) ?_;rintro n v8 j1;simp only[zaN]at j1;rw[congrFun hT2 v8];refine zab ?_;try simp only[rnA,Nat.reduceEqDiff,Nat.reduceLT,reduceCtorEq]
  cases c1:(decide (v8<(p0.length:Int)))
  ·rw[c1,cond_false]at j1;try simp only[rnA]
   replace j1:=qac j1; subst j1;exact lfj hT1 rfl (wm0 [] (by exact trivial))
  rw[c1,cond_true]at j1;obtain⟨x2,g3,j1⟩:=bind_some j1;try simp only[rnA,Nat.reduceEqDiff,Nat.reduceLT,reduceCtorEq,zaz (n:=1) (e:=(eI .i64)) rfl g3]
  cases c4:(p1 == x2)
  ·rw[c4,cond_false]at j1;try simp only[rnA,Nat.reduceEqDiff,Nat.reduceLT,reduceCtorEq]
   exact⟨(w64 (v8+1)),j1,by rw[hT2]; exact wm0 [] (by exact trivial)⟩
  rw[c4,cond_true]at j1;try simp only[rnA,Nat.reduceEqDiff,Nat.reduceLT,reduceCtorEq]
  replace j1:=qac j1; subst j1;dsimp only at h;replace h:=qac h; subst h;exact zcR.ret rfl (.lit _)
 rintro⟨⟩ rfl;dsimp only at h;rw[congrFun hT1 ()];refine zab ?_;try simp only[rnA,Nat.reduceLT]
 replace h:=qac h; subst h;exact zcR.ret rfl (.lit _)
def zak(p0:S_factor_table)(p1:Int):Option Int:=
(za3 p0.factor.vars p1).bind fun r1=>
some r1
theorem zan{p0:S_factor_table}{p1:Int}{r:Int}(h:zak p0 p1=some r):Lx.Fn mC 96 [(.agg [(fzE false (eI .i64) p0.factor.vars),(fzE false (eI .i64) p0.factor.zad),(fzE false (eI .i64) p0.factor.w),(fzE false (eI .i64) p0.steps)]),(dI p1)] (dI r):=by
 refine fnO (by conv=>lhs; cbv) ?_;unfold zak at h;refine zab ?_;obtain⟨r1,g2,h⟩:=bind_some h;try simp only[rnA,Nat.reduceEqDiff,reduceIte,Nat.reduceLT,Nat.reduceAdd,Nat.reduceLeDiff,Nat.reduceMul,Nat.reduceSub,Int.reduceLE,Int.reduceLT,Int.reduceBEq,Nat.reduceBEq,reduceCtorEq,zd0,zcN]
 refine EvL.fn (zef g2) rfl rfl (.cons (zaa _ _ (fun h=>nomatch h)) (.cons (.lit _) .nil)) ?_;try simp only[rnA,Nat.reduceEqDiff,reduceIte,Nat.reduceLT,Nat.reduceAdd,Nat.reduceLeDiff,Nat.reduceMul,Nat.reduceSub,Int.reduceLE,Int.reduceLT,Int.reduceBEq,Nat.reduceBEq,reduceCtorEq,zd0]
 replace h:=qac h; subst h;exact zcR.ret rfl (.lit _)
def zbH(p0:S_factor_table)(p1:S_factor_table):Nat→Int→Option (Out Unit Bool)
 | 0,_=>none
 | n+1,v12=>(
bif (decide (v12<(p0.factor.vars.length:Int)))then(
(zbq p0.factor.vars v12).bind fun x2=>
(zak p1 x2).bind fun r4=>
((bif (decide (0≤r4))then(
(zbq p1.factor.zad r4).bind fun x7=>
(zbq p0.factor.zad v12).bind fun x9=>
some (!(x7 == x9)))
else(
some false):Option Bool)).bind fun v36=>
bif v36 then(
some (.ret false))
else(
zbH p0 p1 n (w64 (v12+1))))
else(
some (.go ())))
def zb2(p0:S_factor_table)(p1:S_factor_table):Option Bool:=
((zbH p0 p1 ((p0.factor.vars.length:Int) - 0+2:Int).toNat 0:Option (Out Unit Bool))).bind fun o=>match o with
| .go _=>(
some true)
| .ret r=>some r
def zfg:C:=
 .seq (rg [oW 2 0,
 oW 3 1,
 oJ 4 false])
 (.seq (.seq (rg [oF 8 0 2,
 oF 9 0 8,
 oL 10 9,
 oE 11 10,
 oK 12 0])
 (.scope (.block 0 (.loop (.seq (rg [oB 13 .lss 12 11])
 (.seq (.cond (.s 13) (.skip)
 (.exit 0))
 (.seq (.block 1 (.seq (rg [oM 14 12,
 oI 15 1 10 12,
 oL 16 15,
 oM 5 14,
 oM 6 16])
 (.seq (rg [oN 17 4 3,
 oM 18 6,
 oV 19 96 17 18,
 oM 7 19])
 (.seq (.scope (.reg true false [oM 20 7,
 oD 21 .geq 20 0,
 oM 22 21,
 oFg 23 0 3 22 true,
 oFg 24 1 23 22 true,
 oLg 25 24 22 true,
 oMg 26 7 22 true,
 ⟨some 27,.idxS 1 (.s 25) (.s 26),some (22,true)⟩,
 oLg 28 27 22 true,
 oFg 29 0 2 22 true,
 oFg 30 1 29 22 true,
 oLg 31 30 22 true,
 oMg 32 5 22 true,
 ⟨some 33,.idxS 1 (.s 31) (.s 32),some (22,true)⟩,
 oLg 34 33 22 true,
 ⟨some 35,.bin .neq (.s 28) (.s 34),some (22,true)⟩,
 ⟨some 36,.pick (.s 22) (.s 35) (.c (.bool false)),none⟩]))
 (.cond (.s 36) (.seq (rg [oJ 4 false])
 (.ret))
 (.skip))))))
 (rg [oD 37 .add 12 1,
 oM 12 37]))))))))
 (.seq (rg [oJ 4 true])
 (.ret)))
theorem zgG:zgX mC 90=some (38,zfg,[.tmp 4],false):=zba (by kernel_rfl)
theorem zeD{p0:S_factor_table}{p1:S_factor_table}{r:Bool}(h:zb2 p0 p1=some r):Lx.Fn mC 90 [(.agg [(fzE false (eI .i64) p0.factor.vars),(fzE false (eI .i64) p0.factor.zad),(fzE false (eI .i64) p0.factor.w),(fzE false (eI .i64) p0.steps)]),(.agg [(fzE false (eI .i64) p1.factor.vars),(fzE false (eI .i64) p1.factor.zad),(fzE false (eI .i64) p1.factor.w),(fzE false (eI .i64) p1.steps)])] (dB r):=by
 refine Fn.of zgG (za2 rfl) (qad rfl) ?_;unfold zb2 at h;simp only[zfg,zk3];refine zab ?_;try simp only[rnA,Nat.reduceEqDiff,Nat.reduceLT,Nat.reduceAdd,reduceCtorEq,za6]
 obtain⟨o4,j4,h⟩:=bind_some h;obtain⟨T4,hT4⟩:=mkT fun a:Unit=>⟨38,[],[]⟩
 refine EvL.jn T4 (fun a=>o4=.go a) ?_ ?_
 ·refine zab ?_;simp only[rnA];obtain⟨T7,hT7⟩:=mkT fun a:Int=>⟨38,[(2,(.ptr 0 0)),(3,(.ptr 1 0)),(10,(fzE false (eI .i64) p0.factor.vars)),(11,(dI (p0.factor.vars.length:Int))),(12,(dI a))],[.cells [(fzE false (eI .i64) p0.factor.vars),(fzE false (eI .i64) p0.factor.zad),(fzE false (eI .i64) p0.factor.w),(fzE false (eI .i64) p0.steps)],.cells [(fzE false (eI .i64) p1.factor.vars),(fzE false (eI .i64) p1.factor.zad),(fzE false (eI .i64) p1.factor.w),(fzE false (eI .i64) p1.steps)]]⟩
  refine EvL.rounds (α:=Int) T7 (fun n a=>zbH p0 p1 n a=some o4) ((p0.factor.vars.length:Int) - 0+2:Int).toNat 0 (by rw[hT7]; exact wm0 [.k,.k] ⟨MB.cs ⟨qcw,qcw,qcw,qcw,qcw⟩,⟨MB.cs ⟨qcw,qcw,qcw,qcw,qcw⟩,qcw⟩⟩) j4 (fun _ h=>nomatch (show(none:Option (Out Unit Bool))=some o4 from h)) ?_;rintro n v12 j4;simp only[zbH]at j4;rw[congrFun hT7 v12];refine zab ?_;try simp only[rnA,Nat.reduceEqDiff,Nat.reduceLT]
  cases c1:(decide (v12<(p0.factor.vars.length:Int)))
  ·rw[c1,cond_false]at j4;try simp only[rnA]
   replace j4:=qac j4; subst j4;exact lfj hT4 rfl (wm0 [] (by exact trivial))
  rw[c1,cond_true]at j4;obtain⟨x2,g3,j4⟩:=bind_some j4;obtain⟨r4,g5,j4⟩:=bind_some j4;try simp only[rnA,Nat.reduceEqDiff,Nat.reduceLT,Nat.reduceAdd,Nat.reduceLeDiff,zaz (n:=1) (e:=(eI .i64)) rfl g3]
  refine EvL.fn (zan g5) rfl rfl (.cons (.za4 (.cons (zaa _ _ (fun h=>nomatch h)) (.cons (zaa _ _ (fun h=>nomatch h)) (.cons (zaa _ _ (fun h=>nomatch h)) (.cons (zaa _ _ (fun h=>nomatch h)) .nil))))) (.cons (.lit _) .nil)) ?_;try simp only[rnA,Nat.reduceEqDiff,Nat.reduceLT]
  obtain⟨o8,j8,j4⟩:=bind_some j4;obtain⟨T8,hT8⟩:=mkT fun a:Bool=>⟨38,[(2,(.ptr 0 0)),(3,(.ptr 1 0)),(10,(fzE false (eI .i64) p0.factor.vars)),(11,(dI (p0.factor.vars.length:Int))),(12,(dI v12)),(36,(dB a))],[.cells [(fzE false (eI .i64) p0.factor.vars),(fzE false (eI .i64) p0.factor.zad),(fzE false (eI .i64) p0.factor.w),(fzE false (eI .i64) p0.steps)],.cells [(fzE false (eI .i64) p1.factor.vars),(fzE false (eI .i64) p1.factor.zad),(fzE false (eI .i64) p1.factor.w),(fzE false (eI .i64) p1.steps)]]⟩
  refine EvL.jn T8 (fun a=>a=o8) ?_ ?_
  ·refine zab ?_;try simp only[rnA,Nat.reduceEqDiff,Nat.reduceLT]
   cases c6:(decide (0≤r4))
   ·rw[c6,cond_false]at j8;try simp only[rnA,Nat.reduceEqDiff,Nat.reduceLT]
    replace j8:=qac j8; subst j8;exact lfj hT8 rfl (wm0 [.k,.k] ⟨MB.cs ⟨qcw,qcw,qcw,qcw,qcw⟩,⟨MB.cs ⟨qcw,qcw,qcw,qcw,qcw⟩,qcw⟩⟩)
   rw[c6,cond_true]at j8;obtain⟨x7,g8,j8⟩:=bind_some j8;obtain⟨x9,g10,j8⟩:=bind_some j8;try simp only[rnA,Nat.reduceEqDiff,Nat.reduceLT,zaz (n:=1) (e:=(eI .i64)) rfl g8,zaz (n:=1) (e:=(eI .i64)) rfl g10]
   replace j8:=qac j8; subst j8;exact lfj hT8 rfl (wm0 [.k,.k] ⟨MB.cs ⟨qcw,qcw,qcw,qcw,qcw⟩,⟨MB.cs ⟨qcw,qcw,qcw,qcw,qcw⟩,qcw⟩⟩)
  rintro v36 rfl;rw[congrFun hT8 v36];refine zab ?_;try simp only[rnA,Nat.reduceEqDiff]
  cases c11:v36
  ·rw[c11,cond_false]at j4;try simp only[rnA,Nat.reduceEqDiff,Nat.reduceLT]
   exact⟨(w64 (v12+1)),j4,by rw[hT7]; exact wm0 [.k,.k] ⟨MB.cs ⟨qcw,qcw,qcw,qcw,qcw⟩,⟨MB.cs ⟨qcw,qcw,qcw,qcw,qcw⟩,qcw⟩⟩⟩
  rw[c11,cond_true]at j4;try simp only[rnA,Nat.reduceLT]
  replace j4:=qac j4; subst j4;dsimp only at h;replace h:=qac h; subst h;exact zcR.ret rfl (.lit _)
 rintro⟨⟩ rfl;dsimp only at h;rw[congrFun hT4 ()];refine zab ?_;try simp only[rnA,Nat.reduceLT]
 replace h:=qac h; subst h;exact zcR.ret rfl (.lit _)
def zaS(p1:(List Int))(p0:S_factor_table):Nat→Int→(List Int)→Option (List Int)
 | 0,_,_=>none
 | n+1,v14,l1=>(
bif (decide (v14<(p1.length:Int)))then(
(zbq p1 v14).bind fun x4=>
(zak p0 x4).bind fun r6=>
((bif (decide (0≤r6))then(
(zbq p0.steps r6).bind fun x9=>
(zbq l1 v14).bind fun x11=>
(zgA l1 v14 x9).bind fun y13=>
some y13)
else(
some l1):Option (List Int))).bind fun l1'=>
zaS p1 p0 n (w64 (v14+1)) l1')
else(
some l1))
def zaI(p0:S_factor_table)(p1:(List Int)):Option (List Int):=
(zek 8 (p1.length:Int) 0).bind fun y1=>
((zaS p1 p0 ((p1.length:Int) - 0+2:Int).toNat 0 y1:Option (List Int))).bind fun l1=>
some l1
theorem zbv{p0:S_factor_table}{p1:(List Int)}{r:(List Int)}(h:zaI p0 p1=some r):Lx.Fn mC 94 [(.agg [(fzE false (eI .i64) p0.factor.vars),(fzE false (eI .i64) p0.factor.zad),(fzE false (eI .i64) p0.factor.w),(fzE false (eI .i64) p0.steps)]),(fzE false (eI .i64) p1)] (fzE true (eI .i64) r):=by
 refine fnO (by conv=>lhs; cbv) ?_;unfold zaI at h;refine zab ?_;obtain⟨y1,g2,h⟩:=bind_some h;try simp only[rnA,Nat.reduceEqDiff,Nat.reduceLT,Nat.reduceAdd,reduceCtorEq,za6,(zay g2).1.1,(zay g2).1.2,qbD,(show List.replicate (Int.toNat (p1.length:Int)) [(dI 0)]=y1.map ((eI .i64).c true)from zbC g2 ((eI .i64).c true))]
 obtain⟨o4,j4,h⟩:=bind_some h;obtain⟨T4,hT4⟩:=mkT fun a:(List Int)=>⟨34,[(5,(.sl 1 0 1 (Int.toNat (p1.length:Int)) (some (Int.toNat (p1.length:Int))) (Int.toNat (p1.length:Int))))],[.gone,.els 1 (a.map ((eI .i64).c true))]⟩
 refine EvL.jn T4 (fun a=>a=o4∧a.length=(Int.toNat (p1.length:Int))) ?_ ?_
 ·refine zab ?_;simp only[rnA];obtain⟨T7,hT7⟩:=mkT fun a:(Int×(List Int))=>⟨34,[(2,(.ptr 0 0)),(5,(.sl 1 0 1 (Int.toNat (p1.length:Int)) (some (Int.toNat (p1.length:Int))) (Int.toNat (p1.length:Int)))),(12,(fzE false (eI .i64) p1)),(13,(dI (p1.length:Int))),(14,(dI a.1))],[.cells [(fzE false (eI .i64) p0.factor.vars),(fzE false (eI .i64) p0.factor.zad),(fzE false (eI .i64) p0.factor.w),(fzE false (eI .i64) p0.steps)],.els 1 (a.2.map ((eI .i64).c true))]⟩
  refine EvL.rounds (α:=(Int×(List Int))) T7 (fun n a=>zaS p1 p0 n a.1 a.2=some o4∧a.2.length=(Int.toNat (p1.length:Int))) ((p1.length:Int) - 0+2:Int).toNat (0,y1) (by rw[hT7]; exact wm0 [.k,.k] ⟨MB.cs ⟨qcw,qcw,qcw,qcw,qcw⟩,⟨MB.es (eI .i64) true y1,qcw⟩⟩) ⟨j4,zbu g2⟩ (fun _ h=>nomatch (show(none:Option (List Int))=some o4 from h.1)) ?_;rintro n ⟨v14,l1⟩ ⟨j4,el1⟩;simp only[zaS]at j4;rw[congrFun hT7 (v14,l1)];refine zab ?_;try simp only[rnA,Nat.reduceEqDiff,Nat.reduceLT]
  cases c3:(decide (v14<(p1.length:Int)))
  ·rw[c3,cond_false]at j4;try simp only[rnA]
   replace j4:=qac j4; subst j4;exact⟨_,⟨rfl,el1⟩,by rw[hT4]; exact wm0 [.d,.k] ⟨rfl,⟨MB.es (eI .i64) true l1,qcw⟩⟩⟩
  rw[c3,cond_true]at j4;obtain⟨x4,g5,j4⟩:=bind_some j4;obtain⟨r6,g7,j4⟩:=bind_some j4;try simp only[rnA,Nat.reduceEqDiff,Nat.reduceLT,Nat.reduceAdd,Nat.reduceLeDiff,zaz (n:=1) (e:=(eI .i64)) rfl g5]
  refine EvL.fn (zan g7) rfl rfl (.cons (.za4 (.cons (zaa _ _ (fun h=>nomatch h)) (.cons (zaa _ _ (fun h=>nomatch h)) (.cons (zaa _ _ (fun h=>nomatch h)) (.cons (zaa _ _ (fun h=>nomatch h)) .nil))))) (.cons (.lit _) .nil)) ?_;try simp only[rnA,Nat.reduceEqDiff,Nat.reduceLT]
  obtain⟨o8,j8,j4⟩:=bind_some j4;obtain⟨T8,hT8⟩:=mkT fun a:(List Int)=>⟨34,[(2,(.ptr 0 0)),(5,(.sl 1 0 1 (Int.toNat (p1.length:Int)) (some (Int.toNat (p1.length:Int))) (Int.toNat (p1.length:Int)))),(12,(fzE false (eI .i64) p1)),(13,(dI (p1.length:Int))),(14,(dI v14))],[.cells [(fzE false (eI .i64) p0.factor.vars),(fzE false (eI .i64) p0.factor.zad),(fzE false (eI .i64) p0.factor.w),(fzE false (eI .i64) p0.steps)],.els 1 (a.map ((eI .i64).c true))]⟩
  refine EvL.jn T8 (fun a=>a=o8∧a.length=(Int.toNat (p1.length:Int))) ?_ ?_
  ·refine zab ?_;try simp only[rnA,Nat.reduceEqDiff]
   cases c8:(decide (0≤r6))
   ·rw[c8,cond_false]at j8;try simp only[rnA]
    replace j8:=qac j8; subst j8;exact⟨_,⟨rfl,el1⟩,by rw[hT8]; exact wm0 [.k,.k] ⟨MB.cs ⟨qcw,qcw,qcw,qcw,qcw⟩,⟨MB.es (eI .i64) true l1,qcw⟩⟩⟩
   rw[c8,cond_true]at j8;obtain⟨x9,g10,j8⟩:=bind_some j8;obtain⟨x11,g12,j8⟩:=bind_some j8;obtain⟨y13,g14,j8⟩:=bind_some j8;try simp only[rnA,Nat.reduceEqDiff,Nat.reduceLT,Nat.reduceLeDiff,zaz (n:=1) (e:=(eI .i64)) rfl g10,el1,zbl g12,(show v14<(((Int.toNat (p1.length:Int)):Nat):Int)from el1 ▸ zbm g12),zaO g12 ((eI .i64).c true),(show(l1.map ((eI .i64).c true)).set v14.toNat [(dI x9)]=y13.map ((eI .i64).c true)from zbA g14 ((eI .i64).c true))]
   replace j8:=qac j8; subst j8;exact⟨_,⟨rfl,(zbf g14).trans el1⟩,by rw[hT8]; exact wm0 [.k,.k] ⟨MB.cs ⟨qcw,qcw,qcw,qcw,qcw⟩,⟨MB.es (eI .i64) true y13,qcw⟩⟩⟩
  rintro l1' ⟨rfl,el1'⟩;rw[congrFun hT8 l1'];refine zab ?_;try simp only[rnA,Nat.reduceEqDiff,Nat.reduceLT]
  exact⟨((w64 (v14+1)),l1'),⟨j4,el1'⟩,by rw[hT7]; exact wm0 [.k,.k] ⟨MB.cs ⟨qcw,qcw,qcw,qcw,qcw⟩,⟨MB.es (eI .i64) true l1',qcw⟩⟩⟩
 rintro l1 ⟨rfl,el1⟩;rw[congrFun hT4 l1];refine zab ?_;try simp only[rnA,Nat.reduceEqDiff,Nat.reduceLT]
 replace h:=qac h; subst h;exact zcR.ret rfl (zb9 (e:=(eI .i64)) (t:=true) rfl (.inl rfl) (el1).symm (el1).symm (fun k h=>by cases h; exact qai _) (fun _=>rfl))
def zdb(p0:Int)(p1:Int):Option (Int×Int):=
(zml .u64 p0 32).bind fun q1=>
(zml .u64 p1 32).bind fun q3=>
(zml .u64 (IntKind.u64.wrap ((znL .u64 p0 4294967295)* (znL .u64 p1 4294967295))) 32).bind fun q5=>
(zml .u64 (IntKind.u64.wrap ((IntKind.u64.wrap (q1 * (znL .u64 p1 4294967295)))+q5)) 32).bind fun q7=>
(zml .u64 (IntKind.u64.wrap ((znL .u64 (IntKind.u64.wrap ((IntKind.u64.wrap (q1 * (znL .u64 p1 4294967295)))+q5)) 4294967295)+(IntKind.u64.wrap ((znL .u64 p0 4294967295)* q3)))) 32).bind fun q9=>
some ((IntKind.u64.wrap ((IntKind.u64.wrap ((IntKind.u64.wrap (q1 * q3))+q7))+q9)),(IntKind.u64.wrap (p0 * p1)))
theorem ziM{p0:Int}{p1:Int}{r:(Int×Int)}(h:zdb p0 p1=some r):Lx.Fn mC 95 [(dU p0),(dU p1)] (.tup [(dU r.1),(dU r.2)]):=by
 refine fnO (by conv=>lhs; cbv) ?_;unfold zdb at h;refine zab ?_;obtain⟨q1,g2,h⟩:=bind_some h;obtain⟨q3,g4,h⟩:=bind_some h;obtain⟨q5,g6,h⟩:=bind_some h;obtain⟨q7,g8,h⟩:=bind_some h;obtain⟨q9,g10,h⟩:=bind_some h;try simp only[rnA,Nat.reduceEqDiff,reduceIte,Nat.reduceLT,Nat.reduceAdd,Nat.reduceLeDiff,Nat.reduceMul,Nat.reduceSub,Int.reduceLE,Int.reduceLT,Int.reduceBEq,Nat.reduceBEq,reduceCtorEq,(zcx g2).1,(zcx g2).2,(zcx g4).1,(zcx g4).2,(zcx g6).1,(zcx g6).2,(zcx g8).1,(zcx g8).2,(zcx g10).1,(zcx g10).2]
 replace h:=qac h; subst h;exact zcR.ret rfl (Snp.zdG (.cons (.lit _) (.cons (.lit _) .nil)))
def zbk(y7:(List Int))(p0:S_factor_table)(p1:S_factor_table):Nat→Int→(List Int)→Option (List Int)
 | 0,_,_=>none
 | n+1,v26,l2=>(
bif (decide (v26<(y7.length:Int)))then(
(zbq y7 v26).bind fun x12=>
(zak p0 x12).bind fun r14=>
((bif (decide (0≤r14))then(
(zbq p0.factor.zad r14).bind fun x25=>
(zbq l2 v26).bind fun x27=>
(zgA l2 v26 x25).bind fun y29=>
some y29)
else(
(zak p1 x12).bind fun r17=>
(zbq p1.factor.zad r17).bind fun x19=>
(zbq l2 v26).bind fun x21=>
(zgA l2 v26 x19).bind fun y23=>
some y23):Option (List Int))).bind fun l2'=>
zbk y7 p0 p1 n (w64 (v26+1)) l2')
else(
some l2))
def zb1(p0:S_factor_table)(p1:S_factor_table):Option ((List Int)×(List Int)):=
(zde 8 p0.factor.vars).bind fun y1=>
(zgN 8 y1 p1.factor.vars).bind fun y3=>
(zhX 8 y3).bind fun y5=>
(zsO y5).bind fun y7=>
(zek 8 (y7.length:Int) 0).bind fun y9=>
((zbk y7 p0 p1 ((y7.length:Int) - 0+2:Int).toNat 0 y9:Option (List Int))).bind fun l2=>
some (y7,l2)
def zfe:C:=
 .seq (rg [oW 2 0,
 oW 3 1,
 ⟨some 4,.mov (.c (.slice none 0 0)),none⟩,
 ⟨some 5,.mov (.c (.slice none 0 0)),none⟩])
 (.seq (.reg true false [oF 9 0 2,
 oF 10 0 9,
 oL 11 10,
 oF 13 0 3,
 oF 14 0 13,
 oL 15 14,
 oU 12 49 11,
 oT 16 1 8 12 15,
 oM 4 16])
 (.seq (rg [oM 17 4,
 oU 18 50 17])
 (.seq (rg [oM 19 4,
 oU 20 133 19,
 oM 4 20])
 (.seq (rg [oM 21 4,
 oE 22 21,
 ⟨some 23,.mk 1 8 [(.int .i64 0)] (.s 22) (.s 22),none⟩,
 oM 5 23])
 (.seq (.seq (rg [oM 24 4,
 oE 25 24,
 oK 26 0])
 (.scope (.block 0 (.loop (.seq (rg [oB 27 .lss 26 25])
 (.seq (.cond (.s 27) (.skip)
 (.exit 0))
 (.seq (.block 1 (.seq (rg [oM 28 26,
 oI 29 1 24 26,
 oL 30 29,
 oM 6 28,
 oM 7 30])
 (.seq (rg [oN 31 4 2,
 oM 32 7,
 oV 33 96 31 32,
 oM 8 33])
 (.seq (rg [oM 34 8,
 oD 35 .geq 34 0])
 (.scope (.cond (.s 35) (rg [oM 36 5,
 oM 37 6,
 oF 38 0 2,
 oF 39 1 38,
 oL 40 39,
 oM 41 8,
 oI 42 1 40 41,
 oL 43 42,
 oI 44 1 36 37,
 oS 1 44 43])
 (.reg true true [oM 45 5,
 oM 46 6,
 oF 47 0 3,
 oF 48 1 47,
 oL 49 48,
 oN 50 4 3,
 oM 51 7,
 oV 52 96 50 51,
 oI 53 1 49 52,
 oL 54 53,
 oI 55 1 45 46,
 oS 1 55 54])))))))
 (rg [oD 56 .add 26 1,
 oM 26 56]))))))))
 (.seq (rg [oM 57 4,
 oM 58 5,
 oM 4 57,
 oM 5 58])
 (.ret)))))))
theorem zgL:zgX mC 91=some (59,zfe,[.tmp 4,.tmp 5],false):=zba (by kernel_rfl)
theorem zhm{p0:S_factor_table}{p1:S_factor_table}{r:((List Int)×(List Int))}(h:zb1 p0 p1=some r):Lx.Fn mC 91 [(.agg [(fzE false (eI .i64) p0.factor.vars),(fzE false (eI .i64) p0.factor.zad),(fzE false (eI .i64) p0.factor.w),(fzE false (eI .i64) p0.steps)]),(.agg [(fzE false (eI .i64) p1.factor.vars),(fzE false (eI .i64) p1.factor.zad),(fzE false (eI .i64) p1.factor.w),(fzE false (eI .i64) p1.steps)])] (.tup [(fzE true (eI .i64) r.1),(fzE true (eI .i64) r.2)]):=by
 refine Fn.of zgL (za2 rfl) (qad rfl) ?_;unfold zb1 at h;simp only[zfe,zk3];refine zab ?_;obtain⟨y1,g2,h⟩:=bind_some h;try simp only[rnA,Nat.reduceEqDiff,Nat.reduceLT,Nat.reduceAdd,reduceCtorEq]
 refine EvL.clone (t:=false) (zs:=p0.factor.vars) g2 rfl rfl ?_;obtain⟨y3,g4,h⟩:=bind_some h;obtain⟨y5,g6,h⟩:=bind_some h;try simp only[rnA,Nat.reduceEqDiff,Nat.reduceLT,Nat.reduceAdd,reduceCtorEq,(show ∀ L,zlM L 1 (fzE false (eI .i64) p1.factor.vars)=some (p1.factor.vars.map ((eI .i64).c true))from fun L=>zsE (e:=(eI .i64)) rfl _ L false),zgO g4,(show y1.length+p1.factor.vars.length=y3.length from zeC g4),(show y1.map ((eI .i64).c true)++ p1.factor.vars.map ((eI .i64).c true)=y3.map ((eI .i64).c true)from zfV g4 ((eI .i64).c true))]
 refine EvL.sort (zs:=y3) (t:=true) g6 rfl rfl rfl rfl rfl ?_;obtain⟨y7,g8,h⟩:=bind_some h;try simp only[rnA,Nat.reduceEqDiff,Nat.reduceLT,reduceCtorEq]
 refine EvL.compact (zs:=y5) (t:=true) g8 rfl rfl rfl (((zkm g6).trans rfl)).symm (((zkm g6).trans rfl)).symm rfl ?_;refine EvL.ze9 (S':=⟨59,[(2,(.ptr 0 0)),(3,(.ptr 1 0)),(20,(fzE true (eI .i64) y7))],[.cells [(fzE false (eI .i64) p0.factor.vars),(fzE false (eI .i64) p0.factor.zad),(fzE false (eI .i64) p0.factor.w),(fzE false (eI .i64) p0.steps)],.cells [(fzE false (eI .i64) p1.factor.vars),(fzE false (eI .i64) p1.factor.zad),(fzE false (eI .i64) p1.factor.w),(fzE false (eI .i64) p1.steps)]]⟩) (zbL.m0 [.k,.k,.f] rfl (msq (msq (mf rfl (zhQ (xs:=y5) (ys:=y7) (t:=true) (zsA g8) rfl rfl rfl (fun _=>rfl)) trivial))) ⟨MB.cs ⟨qcw,qcw,qcw,qcw,qcw⟩,⟨MB.cs ⟨qcw,qcw,qcw,qcw,qcw⟩,qcw⟩⟩) (zab ?_);obtain⟨y9,g10,h⟩:=bind_some h;try simp only[rnA,Nat.reduceEqDiff,Nat.reduceLT,Nat.reduceAdd,za6,(zay g10).1.1,(zay g10).1.2,qbD,(show List.replicate (Int.toNat (y7.length:Int)) [(dI 0)]=y9.map ((eI .i64).c true)from zbC g10 ((eI .i64).c true))]
 obtain⟨o4,j4,h⟩:=bind_some h;obtain⟨T4,hT4⟩:=mkT fun a:(List Int)=>⟨59,[(4,(fzE true (eI .i64) y7)),(5,(.sl 2 0 1 (Int.toNat (y7.length:Int)) (some (Int.toNat (y7.length:Int))) (Int.toNat (y7.length:Int))))],[.gone,.gone,.els 1 (a.map ((eI .i64).c true))]⟩
 refine EvL.jn T4 (fun a=>a=o4∧a.length=(Int.toNat (y7.length:Int))) ?_ ?_
 ·refine zab ?_;simp only[rnA];obtain⟨T7,hT7⟩:=mkT fun a:(Int×(List Int))=>⟨59,[(2,(.ptr 0 0)),(3,(.ptr 1 0)),(4,(fzE true (eI .i64) y7)),(5,(.sl 2 0 1 (Int.toNat (y7.length:Int)) (some (Int.toNat (y7.length:Int))) (Int.toNat (y7.length:Int)))),(24,(fzE true (eI .i64) y7)),(25,(dI (y7.length:Int))),(26,(dI a.1))],[.cells [(fzE false (eI .i64) p0.factor.vars),(fzE false (eI .i64) p0.factor.zad),(fzE false (eI .i64) p0.factor.w),(fzE false (eI .i64) p0.steps)],.cells [(fzE false (eI .i64) p1.factor.vars),(fzE false (eI .i64) p1.factor.zad),(fzE false (eI .i64) p1.factor.w),(fzE false (eI .i64) p1.steps)],.els 1 (a.2.map ((eI .i64).c true))]⟩
  refine EvL.rounds (α:=(Int×(List Int))) T7 (fun n a=>zbk y7 p0 p1 n a.1 a.2=some o4∧a.2.length=(Int.toNat (y7.length:Int))) ((y7.length:Int) - 0+2:Int).toNat (0,y9) (by rw[hT7]; exact wm0 [.k,.k,.k] ⟨MB.cs ⟨qcw,qcw,qcw,qcw,qcw⟩,⟨MB.cs ⟨qcw,qcw,qcw,qcw,qcw⟩,⟨MB.es (eI .i64) true y9,qcw⟩⟩⟩) ⟨j4,zbu g10⟩ (fun _ h=>nomatch (show(none:Option (List Int))=some o4 from h.1)) ?_;rintro n ⟨v26,l2⟩ ⟨j4,el2⟩;simp only[zbk]at j4;rw[congrFun hT7 (v26,l2)];refine zab ?_;try simp only[rnA,Nat.reduceEqDiff,Nat.reduceLT]
  cases c11:(decide (v26<(y7.length:Int)))
  ·rw[c11,cond_false]at j4;try simp only[rnA]
   replace j4:=qac j4; subst j4;exact⟨_,⟨rfl,el2⟩,by rw[hT4]; exact wm0 [.d,.d,.k] ⟨rfl,⟨rfl,⟨MB.es (eI .i64) true l2,qcw⟩⟩⟩⟩
  rw[c11,cond_true]at j4;obtain⟨x12,g13,j4⟩:=bind_some j4;obtain⟨r14,g15,j4⟩:=bind_some j4;try simp only[rnA,Nat.reduceEqDiff,Nat.reduceLT,Nat.reduceAdd,Nat.reduceLeDiff,zaz (n:=1) (e:=(eI .i64)) rfl g13]
  refine EvL.fn (zan g15) rfl rfl (.cons (.za4 (.cons (zaa _ _ (fun h=>nomatch h)) (.cons (zaa _ _ (fun h=>nomatch h)) (.cons (zaa _ _ (fun h=>nomatch h)) (.cons (zaa _ _ (fun h=>nomatch h)) .nil))))) (.cons (.lit _) .nil)) ?_;try simp only[rnA,Nat.reduceEqDiff,Nat.reduceLT]
  obtain⟨o8,j8,j4⟩:=bind_some j4;obtain⟨T8,hT8⟩:=mkT fun a:(List Int)=>⟨59,[(2,(.ptr 0 0)),(3,(.ptr 1 0)),(4,(fzE true (eI .i64) y7)),(5,(.sl 2 0 1 (Int.toNat (y7.length:Int)) (some (Int.toNat (y7.length:Int))) (Int.toNat (y7.length:Int)))),(24,(fzE true (eI .i64) y7)),(25,(dI (y7.length:Int))),(26,(dI v26))],[.cells [(fzE false (eI .i64) p0.factor.vars),(fzE false (eI .i64) p0.factor.zad),(fzE false (eI .i64) p0.factor.w),(fzE false (eI .i64) p0.steps)],.cells [(fzE false (eI .i64) p1.factor.vars),(fzE false (eI .i64) p1.factor.zad),(fzE false (eI .i64) p1.factor.w),(fzE false (eI .i64) p1.steps)],.els 1 (a.map ((eI .i64).c true))]⟩
  refine EvL.jn T8 (fun a=>a=o8∧a.length=(Int.toNat (y7.length:Int))) ?_ ?_
  ·refine zab ?_;try simp only[rnA,Nat.reduceEqDiff]
   cases c16:(decide (0≤r14))
   ·rw[c16,cond_false]at j8;obtain⟨r17,g18,j8⟩:=bind_some j8;try simp only[rnA,Nat.reduceEqDiff,Nat.reduceLT,Nat.reduceAdd,Nat.reduceLeDiff]
    refine EvL.fn (zan g18) rfl rfl (.cons (.za4 (.cons (zaa _ _ (fun h=>nomatch h)) (.cons (zaa _ _ (fun h=>nomatch h)) (.cons (zaa _ _ (fun h=>nomatch h)) (.cons (zaa _ _ (fun h=>nomatch h)) .nil))))) (.cons (.lit _) .nil)) ?_;obtain⟨x19,g20,j8⟩:=bind_some j8;obtain⟨x21,g22,j8⟩:=bind_some j8;obtain⟨y23,g24,j8⟩:=bind_some j8;try simp only[rnA,Nat.reduceEqDiff,Nat.reduceLT,Nat.reduceLeDiff,zaz (n:=1) (e:=(eI .i64)) rfl g20,el2,zbl g22,(show v26<(((Int.toNat (y7.length:Int)):Nat):Int)from el2 ▸ zbm g22),zaO g22 ((eI .i64).c true),(show(l2.map ((eI .i64).c true)).set v26.toNat [(dI x19)]=y23.map ((eI .i64).c true)from zbA g24 ((eI .i64).c true))]
    replace j8:=qac j8; subst j8;exact⟨_,⟨rfl,(zbf g24).trans el2⟩,by rw[hT8]; exact wm0 [.k,.k,.k] ⟨MB.cs ⟨qcw,qcw,qcw,qcw,qcw⟩,⟨MB.cs ⟨qcw,qcw,qcw,qcw,qcw⟩,⟨MB.es (eI .i64) true y23,qcw⟩⟩⟩⟩
   rw[c16,cond_true]at j8;obtain⟨x25,g26,j8⟩:=bind_some j8;obtain⟨x27,g28,j8⟩:=bind_some j8;obtain⟨y29,g30,j8⟩:=bind_some j8;try simp only[rnA,Nat.reduceEqDiff,Nat.reduceLT,Nat.reduceLeDiff,zaz (n:=1) (e:=(eI .i64)) rfl g26,el2,zbl g28,(show v26<(((Int.toNat (y7.length:Int)):Nat):Int)from el2 ▸ zbm g28),zaO g28 ((eI .i64).c true),(show(l2.map ((eI .i64).c true)).set v26.toNat [(dI x25)]=y29.map ((eI .i64).c true)from zbA g30 ((eI .i64).c true))]
   replace j8:=qac j8; subst j8;exact⟨_,⟨rfl,(zbf g30).trans el2⟩,by rw[hT8]; exact wm0 [.k,.k,.k] ⟨MB.cs ⟨qcw,qcw,qcw,qcw,qcw⟩,⟨MB.cs ⟨qcw,qcw,qcw,qcw,qcw⟩,⟨MB.es (eI .i64) true y29,qcw⟩⟩⟩⟩
  rintro l2' ⟨rfl,el2'⟩;rw[congrFun hT8 l2'];refine zab ?_;try simp only[rnA,Nat.reduceEqDiff,Nat.reduceLT]
  exact⟨((w64 (v26+1)),l2'),⟨j4,el2'⟩,by rw[hT7]; exact wm0 [.k,.k,.k] ⟨MB.cs ⟨qcw,qcw,qcw,qcw,qcw⟩,⟨MB.cs ⟨qcw,qcw,qcw,qcw,qcw⟩,⟨MB.es (eI .i64) true l2',qcw⟩⟩⟩⟩
 rintro l2 ⟨rfl,el2⟩;rw[congrFun hT4 l2];refine zab ?_;try simp only[rnA,Nat.reduceEqDiff,Nat.reduceLT]
 replace h:=qac h; subst h;exact zcR.ret rfl (Snp.zdG (.cons (zaa _ _ (fun _=>rfl)) (.cons (zb9 (e:=(eI .i64)) (t:=true) rfl (.inl rfl) (el2).symm (el2).symm (fun k h=>by cases h; exact qai _) (fun _=>rfl)) .nil)))
def zcA(p0:(List Int))(p1:(List Int)):Nat→Int→Option (Out Unit Bool)
 | 0,_=>none
 | n+1,v5=>(
bif (decide (v5<(p0.length:Int)))then(
(zbq p0 v5).bind fun x3=>
(zbq p1 v5).bind fun x5=>
bif (x3 == x5)then(
zcA p0 p1 n (w64 (v5+1)))
else(
some (.ret false)))
else(
some (.go ())))
def zcV(p0:(List Int))(p1:(List Int)):Option Bool:=
bif ((p0.length:Int)==(p1.length:Int))then(
((zcA p0 p1 ((p0.length:Int) - 0+2:Int).toNat 0:Option (Out Unit Bool))).bind fun o=>match o with
| .go _=>(
some true)
| .ret r=>some r)
else(
some false)
theorem zfn{p0:(List Int)}{p1:(List Int)}{r:Bool}(h:zcV p0 p1=some r):Lx.Fn mC 87 [(fzE false (eI .i64) p0),(fzE false (eI .i64) p1)] (dB r):=by
 refine fnO (by conv=>lhs; cbv) ?_;unfold zcV at h;refine zab ?_;try simp only[rnA,Nat.reduceEqDiff,Nat.reduceLT,Nat.reduceAdd,reduceCtorEq,za6]
 cases c1:((p0.length:Int)==(p1.length:Int))
 ·rw[c1,cond_false]at h;try simp only[rnA,Nat.reduceLT]
  replace h:=qac h; subst h;exact zcR.ret rfl (.lit _)
 rw[c1,cond_true]at h;try simp only[rnA,Nat.reduceLT]
 obtain⟨o1,j1,h⟩:=bind_some h;obtain⟨T1,hT1⟩:=mkT fun a:Unit=>⟨26,[],[]⟩
 refine EvL.jn T1 (fun a=>o1=.go a) ?_ ?_
 ·refine zab ?_;simp only[rnA];obtain⟨T2,hT2⟩:=mkT fun a:Int=>⟨26,[(0,(fzE false (eI .i64) p0)),(1,(fzE false (eI .i64) p1)),(5,(dI a))],[]⟩
  refine EvL.rounds (α:=Int) T2 (fun n a=>zcA p0 p1 n a=some o1) ((p0.length:Int) - 0+2:Int).toNat 0 (by rw[hT2]; exact wm0 [] (by exact trivial)) j1 (fun _ h=>nomatch (show(none:Option (Out Unit Bool))=some o1 from h)) ?_;rintro n v5 j1;simp only[zcA]at j1;rw[congrFun hT2 v5];refine zab ?_;try simp only[rnA,Nat.reduceEqDiff,Nat.reduceLT,reduceCtorEq,za6]
  cases c2:(decide (v5<(p0.length:Int)))
  ·rw[c2,cond_false]at j1;try simp only[rnA]
   replace j1:=qac j1; subst j1;exact lfj hT1 rfl (wm0 [] (by exact trivial))
  rw[c2,cond_true]at j1;obtain⟨x3,g4,j1⟩:=bind_some j1;obtain⟨x5,g6,j1⟩:=bind_some j1;try simp only[rnA,Nat.reduceEqDiff,Nat.reduceLT,reduceCtorEq,zaz (n:=1) (e:=(eI .i64)) rfl g4,zaz (n:=1) (e:=(eI .i64)) rfl g6]
  cases c7:(x3 == x5)
  ·rw[c7,cond_false]at j1;try simp only[rnA,Nat.reduceLT]
   replace j1:=qac j1; subst j1;dsimp only at h;replace h:=qac h; subst h;exact zcR.ret rfl (.lit _)
  rw[c7,cond_true]at j1;try simp only[rnA,Nat.reduceEqDiff,Nat.reduceLT,reduceCtorEq]
  exact⟨(w64 (v5+1)),j1,by rw[hT2]; exact wm0 [] (by exact trivial)⟩
 rintro⟨⟩ rfl;dsimp only at h;rw[congrFun hT1 ()];refine zab ?_;try simp only[rnA,Nat.reduceLT]
 replace h:=qac h; subst h;exact zcR.ret rfl (.lit _)
def zdp(p0:S_api_Factor)(p1:S_api_Factor):Option Bool:=
(((zcV p0.vars p1.vars).bind fun r1=>
bif r1 then(
(zcV p0.zad p1.zad).bind fun r4=>
bif r4 then(
(zcV p0.w p1.w).bind fun r7=>
some r7)
else(
some false))
else(
some false):Option Bool)).bind fun v4=>
some v4
theorem zhA{p0:S_api_Factor}{p1:S_api_Factor}{r:Bool}(h:zdp p0 p1=some r):Lx.Fn mC 19 [(.agg [(fzE false (eI .i64) p0.vars),(fzE false (eI .i64) p0.zad),(fzE false (eI .i64) p0.w)]),(.agg [(fzE false (eI .i64) p1.vars),(fzE false (eI .i64) p1.zad),(fzE false (eI .i64) p1.w)])] (dB r):=by
 refine fnO (by conv=>lhs; cbv) ?_;unfold zdp at h;refine zab ?_;try simp only[rnA,Nat.reduceEqDiff,Nat.reduceLT,Nat.reduceAdd,reduceCtorEq]
 obtain⟨o1,j1,h⟩:=bind_some h;obtain⟨T1,hT1⟩:=mkT fun a:Bool=>⟨24,[(4,(dB a))],[]⟩
 refine EvL.jn T1 (fun a=>a=o1) ?_ ?_
 ·refine zab ?_;obtain⟨r1,g2,j1⟩:=bind_some j1;try simp only[rnA,Nat.reduceEqDiff,Nat.reduceLT,reduceCtorEq]
  refine EvL.fn (zfn g2) rfl rfl (.cons (zaa _ _ (fun h=>nomatch h)) (.cons (zaa _ _ (fun h=>nomatch h)) .nil)) ?_;try simp only[rnA,Nat.reduceEqDiff,Nat.reduceLT,reduceCtorEq]
  cases c3:r1
  ·rw[c3,cond_false]at j1;try simp only[rnA,Nat.reduceEqDiff,Nat.reduceLT,reduceCtorEq]
   refine EvL.skip rfl ?_;try simp only[rnA,Nat.reduceEqDiff,Nat.reduceLT,reduceCtorEq]
   refine EvL.skip rfl ?_;try simp only[rnA,Nat.reduceEqDiff,Nat.reduceLT,reduceCtorEq]
   replace j1:=qac j1; subst j1;exact lfj hT1 rfl (wm0 [] (by exact trivial))
  rw[c3,cond_true]at j1;obtain⟨r4,g5,j1⟩:=bind_some j1;try simp only[rnA,Nat.reduceEqDiff,Nat.reduceLT,reduceCtorEq]
  refine EvL.fn (zfn g5) rfl rfl (.cons (zaa _ _ (fun h=>nomatch h)) (.cons (zaa _ _ (fun h=>nomatch h)) .nil)) ?_;try simp only[rnA,Nat.reduceEqDiff,Nat.reduceLT,reduceCtorEq]
  cases c6:r4
  ·rw[c6,cond_false]at j1;try simp only[rnA,Nat.reduceEqDiff,Nat.reduceLT,reduceCtorEq]
   refine EvL.skip rfl ?_;try simp only[rnA,Nat.reduceEqDiff,Nat.reduceLT,reduceCtorEq]
   replace j1:=qac j1; subst j1;exact lfj hT1 rfl (wm0 [] (by exact trivial))
  rw[c6,cond_true]at j1;obtain⟨r7,g8,j1⟩:=bind_some j1;try simp only[rnA,Nat.reduceEqDiff,Nat.reduceLT,reduceCtorEq]
  refine EvL.fn (zfn g8) rfl rfl (.cons (zaa _ _ (fun h=>nomatch h)) (.cons (zaa _ _ (fun h=>nomatch h)) .nil)) ?_;try simp only[rnA,Nat.reduceEqDiff,Nat.reduceLT,reduceCtorEq]
  replace j1:=qac j1; subst j1;exact lfj hT1 rfl (wm0 [] (by exact trivial))
 rintro v4 rfl;rw[congrFun hT1 v4];refine zab ?_;try simp only[rnA]
 replace h:=qac h; subst h;exact zcR.ret rfl (.lit _)
def zcu(p0:S_api_Factor):Option Int:=
(zaE p0).bind fun r1=>
some r1.2
theorem zdE{p0:S_api_Factor}{r:Int}(h:zcu p0=some r):Lx.Fn mC 24 [(.agg [(fzE false (eI .i64) p0.vars),(fzE false (eI .i64) p0.zad),(fzE false (eI .i64) p0.w)])] (dI r):=by
 refine fnO (by conv=>lhs; cbv) ?_;unfold zcu at h;refine zab ?_;obtain⟨r1,g2,h⟩:=bind_some h;try simp only[rnA,Nat.reduceEqDiff,reduceIte,Nat.reduceLT,Nat.reduceAdd,Nat.reduceLeDiff,Nat.reduceMul,Nat.reduceSub,Int.reduceLE,Int.reduceLT,Int.reduceBEq,Nat.reduceBEq,reduceCtorEq,zaf,zcN]
 refine EvL.fnS (zaX g2) rfl rfl (.cons (Mzs.agg (.cons (zag _ _ (fun h=>by cases h<;>contradiction)) (.cons (zag _ _ (fun h=>by cases h<;>contradiction)) (.cons (zag _ _ (fun h=>by cases h<;>contradiction)) .nil)))) .nil) ⟨⟨(zac _ _),(zac _ _),(zac _ _),qcw⟩,qcw⟩ ⟨⟨(zac _ _),(zac _ _),(zac _ _),(zac _ _),qcw⟩,qcw,qcw⟩ ?_;try simp only[rnA,Nat.reduceEqDiff,reduceIte,Nat.reduceLT,Nat.reduceAdd,Nat.reduceLeDiff,Nat.reduceMul,Nat.reduceSub,Int.reduceLE,Int.reduceLT,Int.reduceBEq,Nat.reduceBEq,reduceCtorEq,zaf]
 replace h:=qac h; subst h;exact zcR.ret rfl (.lit _)
def zcl(want:S_api_Factor):Option S_api_Factor:=some want
def zmo:C:=
 .seq (rg [oW 1 0,
 ⟨some 2,.mov (.c .nilFunc),none⟩])
 (.seq (rg [⟨some 3,.clo 107 [] [(.s 1)],none⟩,
 oM 2 3])
 (.ret))
theorem zm7:zgX mC 44=some (4,zmo,[.tmp 2],false):=zba (by kernel_rfl)
theorem zca{want r:S_api_Factor}(h:zcl want=some r):Lx.FnA mC 44 [.agg (zal.c false want)] (.clo 107 [] [.fptr false (zal.c false r)]):=by
 cases h;refine FnA.of zm7 (za2 rfl) (qad rfl) ?_;simp only[zmo,zk3];refine zab ?_;simp only[rnA,Nat.reduceEqDiff,reduceIte,Nat.reduceLT,Nat.reduceAdd,Nat.reduceLeDiff,Nat.reduceMul,Nat.reduceSub,Int.reduceLE,Int.reduceLT,Int.reduceBEq,Nat.reduceBEq,reduceCtorEq,zaf];exact zfq.ret rfl (.clo rfl rfl (Snps.get .nil) (Snps.get (.cons (zi8 zal want rfl) .nil)))
def zcz(want:Int):Option Int:=some want
def zhI:C:=
 .seq (rg [oW 1 0,
 ⟨some 2,.mov (.c .nilFunc),none⟩])
 (.seq (rg [⟨some 3,.clo 108 [] [(.s 1)],none⟩,
 oM 2 3])
 (.ret))
theorem zjl:zgX mC 47=some (4,zhI,[.tmp 2],false):=zba (by kernel_rfl)
theorem zcH{want r:Int}(h:zcz want=some r):Lx.FnA mC 47 [dI want] (.clo 108 [] [.fptr false ((eI .i64).c false r)]):=by
 cases h;refine FnA.of zjl (za2 rfl) (qad rfl) ?_;simp only[zhI,zk3];refine zab ?_;simp only[rnA,Nat.reduceEqDiff,reduceIte,Nat.reduceLT,Nat.reduceAdd,Nat.reduceLeDiff,Nat.reduceMul,Nat.reduceSub,Int.reduceLE,Int.reduceLT,Int.reduceBEq,Nat.reduceBEq,reduceCtorEq];exact zfq.ret rfl (.clo rfl rfl (Snps.get .nil) (Snps.get (.cons (zi8 (eI .i64) want rfl) .nil)))
def za7(p0:S_api_Factor)(p1:Int)(p2:S_api_Factor):Option Bool:=
((bif (p1 == 0)then(
(zdp p0 p2).bind fun r2=>
some r2)
else(
some false):Option Bool)).bind fun v5=>
some v5
theorem zbn{p0:S_api_Factor}{p1:Int}{p2:S_api_Factor}{r:Bool}(h:za7 p0 p1 p2=some r):Lx.Fn mC 107 [(.agg [(fzE false (eI .i64) p0.vars),(fzE false (eI .i64) p0.zad),(fzE false (eI .i64) p0.w)]),(dI p1),(.fptr false (zal.c false p2))] (dB r):=by
 refine fnO (by conv=>lhs; cbv) ?_;unfold za7 at h;refine zab ?_;try simp only[rnA,Nat.reduceEqDiff,reduceIte,Nat.reduceLT,Nat.reduceAdd,Nat.reduceLeDiff,Nat.reduceMul,Nat.reduceSub,Int.reduceLE,Int.reduceLT,Int.reduceBEq,Nat.reduceBEq,reduceCtorEq,zaf,zcN]
 obtain⟨o1,j1,h⟩:=bind_some h;obtain⟨T1,hT1⟩:=mkT fun a:Bool=>⟨13,[(5,(dB a))],[]⟩
 refine EvL.jn T1 (fun a=>a=o1) ?_ ?_
 ·refine zab ?_;try simp only[rnA,Nat.reduceEqDiff,reduceIte,Nat.reduceLT,Nat.reduceAdd,Nat.reduceLeDiff,Nat.reduceMul,Nat.reduceSub,Int.reduceLE,Int.reduceLT,Int.reduceBEq,Nat.reduceBEq,reduceCtorEq,zaf]
  cases c1:(p1 == 0)
  ·rw[c1,cond_false]at j1;try simp only[rnA,Nat.reduceEqDiff,reduceIte,Nat.reduceLT,Nat.reduceAdd,Nat.reduceLeDiff,Nat.reduceMul,Nat.reduceSub,Int.reduceLE,Int.reduceLT,Int.reduceBEq,Nat.reduceBEq,reduceCtorEq,zaf,c1]
   refine EvL.skip rfl ?_;try simp only[rnA,Nat.reduceEqDiff,reduceIte,Nat.reduceLT,Nat.reduceAdd,Nat.reduceLeDiff,Nat.reduceMul,Nat.reduceSub,Int.reduceLE,Int.reduceLT,Int.reduceBEq,Nat.reduceBEq,reduceCtorEq,zaf,c1]
   replace j1:=qac j1; subst j1;exact lfj hT1 rfl (wm0 [] (by exact trivial))
  rw[c1,cond_true]at j1;obtain⟨r2,g3,j1⟩:=bind_some j1;try simp only[rnA,Nat.reduceEqDiff,reduceIte,Nat.reduceLT,Nat.reduceAdd,Nat.reduceLeDiff,Nat.reduceMul,Nat.reduceSub,Int.reduceLE,Int.reduceLT,Int.reduceBEq,Nat.reduceBEq,reduceCtorEq,zaf,c1]
  refine EvL.fn (zhA g3) rfl rfl (.cons (.za4 (.cons (zaa _ _ (fun h=>nomatch h)) (.cons (zaa _ _ (fun h=>nomatch h)) (.cons (zaa _ _ (fun h=>nomatch h)) .nil)))) (.cons (.za4 (.cons (zaa _ _ (fun h=>nomatch h)) (.cons (zaa _ _ (fun h=>nomatch h)) (.cons (zaa _ _ (fun h=>nomatch h)) .nil)))) .nil)) ?_;try simp only[rnA,Nat.reduceEqDiff,reduceIte,Nat.reduceLT,Nat.reduceAdd,Nat.reduceLeDiff,Nat.reduceMul,Nat.reduceSub,Int.reduceLE,Int.reduceLT,Int.reduceBEq,Nat.reduceBEq,reduceCtorEq,zaf,c1]
  replace j1:=qac j1; subst j1;exact lfj hT1 rfl (wm0 [] (by exact trivial))
 rintro v5 rfl;rw[congrFun hT1 v5];refine zab ?_;try simp only[rnA,Nat.reduceEqDiff,reduceIte,Nat.reduceLT,Nat.reduceAdd,Nat.reduceLeDiff,Nat.reduceMul,Nat.reduceSub,Int.reduceLE,Int.reduceLT,Int.reduceBEq,Nat.reduceBEq,reduceCtorEq,zaf]
 replace h:=qac h; subst h;exact zcR.ret rfl (.lit _)
def zbt(p0:S_api_Factor)(p1:Int)(p2:Int):Option Bool:=
((bif (p1 == p2)then(
(zdp p0 (S_api_Factor.mk [] [] [])).bind fun r2=>
some r2)
else(
some false):Option Bool)).bind fun v5=>
some v5
theorem zbX{p0:S_api_Factor}{p1:Int}{p2:Int}{r:Bool}(h:zbt p0 p1 p2=some r):Lx.Fn mC 108 [(.agg [(fzE false (eI .i64) p0.vars),(fzE false (eI .i64) p0.zad),(fzE false (eI .i64) p0.w)]),(dI p1),(.fptr false ((eI .i64).c false p2))] (dB r):=by
 refine fnO (by conv=>lhs; cbv) ?_;unfold zbt at h;refine zab ?_;try simp only[rnA,Nat.reduceEqDiff,reduceIte,Nat.reduceLT,Nat.reduceAdd,Nat.reduceLeDiff,Nat.reduceMul,Nat.reduceSub,Int.reduceLE,Int.reduceLT,Int.reduceBEq,Nat.reduceBEq,reduceCtorEq,zaf,zcN]
 obtain⟨o1,j1,h⟩:=bind_some h;obtain⟨T1,hT1⟩:=mkT fun a:Bool=>⟨14,[(5,(dB a))],[]⟩
 refine EvL.jn T1 (fun a=>a=o1) ?_ ?_
 ·refine zab ?_;try simp only[rnA,Nat.reduceEqDiff,reduceIte,Nat.reduceLT,Nat.reduceAdd,Nat.reduceLeDiff,Nat.reduceMul,Nat.reduceSub,Int.reduceLE,Int.reduceLT,Int.reduceBEq,Nat.reduceBEq,reduceCtorEq,zaf]
  cases c1:(p1 == p2)
  ·rw[c1,cond_false]at j1;try simp only[rnA,Nat.reduceEqDiff,reduceIte,Nat.reduceLT,Nat.reduceAdd,Nat.reduceLeDiff,Nat.reduceMul,Nat.reduceSub,Int.reduceLE,Int.reduceLT,Int.reduceBEq,Nat.reduceBEq,reduceCtorEq,zaf,c1]
   refine EvL.skip rfl ?_;try simp only[rnA,Nat.reduceEqDiff,reduceIte,Nat.reduceLT,Nat.reduceAdd,Nat.reduceLeDiff,Nat.reduceMul,Nat.reduceSub,Int.reduceLE,Int.reduceLT,Int.reduceBEq,Nat.reduceBEq,reduceCtorEq,zaf,c1]
   replace j1:=qac j1; subst j1;exact lfj hT1 rfl (wm0 [] (by exact trivial))
  rw[c1,cond_true]at j1;obtain⟨r2,g3,j1⟩:=bind_some j1;try simp only[rnA,Nat.reduceEqDiff,reduceIte,Nat.reduceLT,Nat.reduceAdd,Nat.reduceLeDiff,Nat.reduceMul,Nat.reduceSub,Int.reduceLE,Int.reduceLT,Int.reduceBEq,Nat.reduceBEq,reduceCtorEq,zaf,c1]
  refine EvL.fn (zhA g3) rfl rfl (.cons (.za4 (.cons (zaa _ _ (fun h=>nomatch h)) (.cons (zaa _ _ (fun h=>nomatch h)) (.cons (zaa _ _ (fun h=>nomatch h)) .nil)))) (.cons (.za4 (.cons (zaj (eI .i64)) (.cons (zaj (eI .i64)) (.cons (zaj (eI .i64)) .nil)))) .nil)) ?_;try simp only[rnA,Nat.reduceEqDiff,reduceIte,Nat.reduceLT,Nat.reduceAdd,Nat.reduceLeDiff,Nat.reduceMul,Nat.reduceSub,Int.reduceLE,Int.reduceLT,Int.reduceBEq,Nat.reduceBEq,reduceCtorEq,zaf,c1]
  replace j1:=qac j1; subst j1;exact lfj hT1 rfl (wm0 [] (by exact trivial))
 rintro v5 rfl;rw[congrFun hT1 v5];refine zab ?_;try simp only[rnA,Nat.reduceEqDiff,reduceIte,Nat.reduceLT,Nat.reduceAdd,Nat.reduceLeDiff,Nat.reduceMul,Nat.reduceSub,Int.reduceLE,Int.reduceLT,Int.reduceBEq,Nat.reduceBEq,reduceCtorEq,zaf]
 replace h:=qac h; subst h;exact zcR.ret rfl (.lit _)
end Go.Dc
