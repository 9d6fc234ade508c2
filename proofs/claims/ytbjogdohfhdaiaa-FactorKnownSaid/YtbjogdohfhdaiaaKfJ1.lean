/-
 What index_count computes. Conditions: none.
-/
import Derived.Test.YtbjogdohfhdaiaaKfQt
import Derived.Test.YtbjogdohfhdaiaaKfLi
set_option linter.unusedSimpArgs false
set_option linter.unusedVariables false
set_option maxRecDepth 100000
set_option maxHeartbeats 4000000
namespace Go.Dc
open Go Go.Mx Go.Lx Go.Proofs
def zbY(p0:(List Int)):Nat→Int→Int→Option (Int×Bool)
 | 0,_,_=>none
 | n+1,v2,v11=>(
bif (decide (v11<(p0.length:Int)))then(
(zbN p0 v11).bind fun x3=>
((bif (decide (x3<1))then(
some true)
else(
bif (decide (8<x3))then(
some true)
else(
some (decide (4096<(w64 (v2 * x3)))))):Option Bool)).bind fun v15=>
bif v15 then(
some (0,false))
else(
zbY p0 n (w64 (v2 * x3)) (w64 (v11+1))))
else(
some (v2,true)))
def zdc(p0:(List Int)):Option (Int×Bool):=
bif (decide (12<(p0.length:Int)))then(
some (0,false))
else(
((zbY p0 ((p0.length:Int) - 0+2:Int).toNat 1 0:Option ((Int×Bool)))).bind fun o=>match o with
|(v2,v3)=>(
some (v2,v3)))
theorem zhe{p0:(List Int)}{r:(Int×Bool)}(h:zdc p0=some r):Lx.Fn mC 119 [(fzE false (eI .i64) p0)] (.tup [(dI r.1),(dB r.2)]):=by
 refine fnO (by conv=>lhs; cbv) ?_;unfold zdc at h;refine zac ?_;try simp only[rnA,Nat.reduceLT]
 refine EvL.scope (zac ?_);try simp only[rnA,Nat.reduceEqDiff,Nat.reduceLT,reduceCtorEq,zbk]
 cases c1:(decide (12<(p0.length:Int)))
 ·rw[c1,cond_false]at h;try simp only[rnA,Nat.reduceEqDiff,Nat.reduceLT,reduceCtorEq,zbk]
  obtain⟨o12,j12,h⟩:=bind_some h;obtain⟨T12,hT12⟩:=mkT fun a:(Int×Bool)=>⟨30,[(2,(dI a.1)),(3,(dB a.2))],[]⟩
  refine EvL.jn T12 (fun a=>a=o12) ?_ ?_
  ·refine zac ?_;simp only[rnA];obtain⟨T15,hT15⟩:=mkT fun a:(Int×Int)=>⟨30,[(2,(dI a.1)),(3,(dB true)),(9,(fzE false (eI .i64) p0)),(10,(dI (p0.length:Int))),(11,(dI a.2))],[]⟩
   refine EvL.rounds (α:=(Int×Int)) T15 (fun n a=>zbY p0 n a.1 a.2=some o12) ((p0.length:Int) - 0+2:Int).toNat (1,0) (by rw[hT15]; exact wm0 [] (by exact trivial)) j12 (fun _ h=>nomatch (show(none:Option (Int×Bool))=some o12 from h)) ?_;rintro n ⟨v2,v11⟩ j12;simp only[zbY]at j12;rw[congrFun hT15 (v2,v11)];refine zac ?_;try simp only[rnA,Nat.reduceEqDiff,Nat.reduceLT]
   cases c2:(decide (v11<(p0.length:Int)))
   ·rw[c2,cond_false]at j12;try simp only[rnA]
    replace j12:=qab j12; subst j12;exact lfj hT12 rfl (wm0 [] (by exact trivial))
   rw[c2,cond_true]at j12;obtain⟨x3,g4,j12⟩:=bind_some j12;try simp only[rnA,Nat.reduceEqDiff,Nat.reduceLT,zaB (n:=1) (e:=(eI .i64)) rfl g4]
   obtain⟨o16,j16,j12⟩:=bind_some j12;obtain⟨T16,hT16⟩:=mkT fun a:Bool=>⟨30,[(2,(dI v2)),(3,(dB true)),(5,(dI x3)),(9,(fzE false (eI .i64) p0)),(10,(dI (p0.length:Int))),(11,(dI v11)),(15,(dB a))],[]⟩
   refine EvL.jn T16 (fun a=>a=o16) ?_ ?_
   ·refine zac ?_;try simp only[rnA,Nat.reduceEqDiff]
    cases c5:(decide (x3<1))
    ·rw[c5,cond_false]at j16;try simp only[rnA,Nat.reduceEqDiff,Nat.reduceLT]
     cases c6:(decide (8<x3))
     ·rw[c6,cond_false]at j16;try simp only[rnA,Nat.reduceEqDiff,Nat.reduceLT]
      replace j16:=qab j16; subst j16;exact lfj hT16 rfl (wm0 [] (by exact trivial))
     rw[c6,cond_true]at j16;try simp only[rnA]
     replace j16:=qab j16; subst j16;exact lfj hT16 rfl (wm0 [] (by exact trivial))
    rw[c5,cond_true]at j16;try simp only[rnA]
    replace j16:=qab j16; subst j16;exact lfj hT16 rfl (wm0 [] (by exact trivial))
   rintro v15 rfl;rw[congrFun hT16 v15];refine zac ?_;try simp only[rnA,Nat.reduceEqDiff]
   cases c7:v15
   ·rw[c7,cond_false]at j12;try simp only[rnA,Nat.reduceEqDiff,Nat.reduceLT]
    exact⟨((w64 (v2 * x3)),(w64 (v11+1))),j12,by rw[hT15]; exact wm0 [] (by exact trivial)⟩
   rw[c7,cond_true]at j12;try simp only[rnA,Nat.reduceEqDiff,Nat.reduceLT,reduceCtorEq]
   replace j12:=qab j12; subst j12;exact lfj hT12 rfl (wm0 [] (by exact trivial))
  rintro⟨v2,v3⟩ rfl;dsimp only at h;rw[congrFun hT12 (v2,v3)];refine zac ?_;try simp only[rnA,Nat.reduceEqDiff,Nat.reduceLT]
  replace h:=qab h; subst h;exact zcV.ret rfl (Snp.zdn (.cons (.lit _) (.cons (.lit _) .nil)))
 rw[c1,cond_true]at h;try simp only[rnA,Nat.reduceLT]
 replace h:=qab h; subst h;exact zcV.ret rfl (Snp.zdn (.cons (.lit _) (.cons (.lit _) .nil)))
def zce(p0:(List Int)):Option (Int×Int):=
(zdc p0).bind fun r1=>
bif r1.2 then(
some (r1.1,0))
else(
some (0,20))
theorem zff{p0:(List Int)}{r:(Int×Int)}(h:zce p0=some r):Lx.Fn mC 83 [(fzE false (eI .i64) p0)] (.tup [(dI r.1),(dI r.2)]):=by
 refine fnO (by conv=>lhs; cbv) ?_;unfold zce at h;refine zac ?_;obtain⟨r1,g2,h⟩:=bind_some h;try simp only[rnA,Nat.reduceEqDiff,reduceIte,Nat.reduceLT,Nat.reduceAdd,Nat.reduceLeDiff,Nat.reduceMul,Nat.reduceSub,Int.reduceLE,Int.reduceLT,Int.reduceBEq,Nat.reduceBEq,reduceCtorEq]
 refine EvL.fn (zhe g2) rfl rfl (.cons (zaa _ _ (fun h=>nomatch h)) .nil) ?_;try simp only[rnA,Nat.reduceEqDiff,reduceIte,Nat.reduceLT,Nat.reduceAdd,Nat.reduceLeDiff,Nat.reduceMul,Nat.reduceSub,Int.reduceLE,Int.reduceLT,Int.reduceBEq,Nat.reduceBEq,reduceCtorEq]
 cases c3:r1.2
 ·rw[c3,cond_false]at h;try simp only[rnA,Nat.reduceEqDiff,reduceIte,Nat.reduceLT,Nat.reduceAdd,Nat.reduceLeDiff,Nat.reduceMul,Nat.reduceSub,Int.reduceLE,Int.reduceLT,Int.reduceBEq,Nat.reduceBEq,reduceCtorEq,c3]
  replace h:=qab h; subst h;exact zcV.ret rfl (Snp.zdn (.cons (.lit _) (.cons (.lit _) .nil)))
 rw[c3,cond_true]at h;try simp only[rnA,Nat.reduceEqDiff,reduceIte,Nat.reduceLT,Nat.reduceAdd,Nat.reduceLeDiff,Nat.reduceMul,Nat.reduceSub,Int.reduceLE,Int.reduceLT,Int.reduceBEq,Nat.reduceBEq,reduceCtorEq,c3]
 replace h:=qab h; subst h;exact zcV.ret rfl (Snp.zdn (.cons (.lit _) (.cons (.lit _) .nil)))
def zb5(p0:S_api_Factor):Nat→Int→Int→Option (Out Unit (S_factor_table×Int))
 | 0,_,_=>none
 | n+1,v6,v42=>(
bif (decide (v42<(p0.vars.length:Int)))then(
(zbN p0.vars v42).bind fun x7=>
((bif (decide (x7≤v6))then(
some true)
else(
some (decide (63<x7))):Option Bool)).bind fun v52=>
bif v52 then(
some (.ret ((S_factor_table.mk (S_api_Factor.mk [] [] []) []),30)))
else(
zb5 p0 n x7 (w64 (v42+1))))
else(
some (.go ())))
def zb0(p0:S_api_Factor):Nat→Int→Option (Out Unit (S_factor_table×Int))
 | 0,_=>none
 | n+1,v59=>(
bif (decide (v59<(p0.w.length:Int)))then(
(zbN p0.w v59).bind fun x12=>
((bif (decide (x12<0))then(
some true)
else(
some (decide (4611686018427387903<x12))):Option Bool)).bind fun v68=>
bif v68 then(
some (.ret ((S_factor_table.mk (S_api_Factor.mk [] [] []) []),30)))
else(
zb0 p0 n (w64 (v59+1))))
else(
some (.go ())))
def zbC(p0:S_api_Factor):Nat→Int→Int→(List Int)→Option (List Int)
 | 0,_,_,_=>none
 | n+1,v12,v13,l2=>(
bif (decide (0≤v13))then(
(zbN l2 v13).bind fun x19=>
(zgc l2 v13 v12).bind fun y21=>
(zbN p0.cards v13).bind fun x23=>
zbC p0 n (w64 (v12 * x23)) (w64 (v13 - 1)) y21)
else(
some l2))
def zaE(p0:S_api_Factor):Option (S_factor_table×Int):=
(zce p0.cards).bind fun r1=>
((bif (r1.2 == 0)then(
bif ((p0.vars.length:Int)==(p0.cards.length:Int))then(
some (!((p0.w.length:Int)== r1.1)))
else(
some true))
else(
some true):Option Bool)).bind fun v37=>
bif v37 then(
some ((S_factor_table.mk (S_api_Factor.mk [] [] []) []),30))
else(
((zb5 p0 ((p0.vars.length:Int) - 0+2:Int).toNat (-1) 0:Option (Out Unit (S_factor_table×Int)))).bind fun o=>match o with
| .go _=>(
((zb0 p0 ((p0.w.length:Int) - 0+2:Int).toNat 0:Option (Out Unit (S_factor_table×Int)))).bind fun o=>match o with
| .go _=>(
(zdD 8 (p0.cards.length:Int) 0).bind fun y16=>
((zbC p0 ((w64 ((((Int.toNat (p0.cards.length:Int)):Nat):Int) - 1)) - 0+2:Int).toNat 1 (w64 ((((Int.toNat (p0.cards.length:Int)):Nat):Int) - 1)) y16:Option (List Int))).bind fun l2=>
some ((S_factor_table.mk p0 l2),0))
| .ret r=>some r)
| .ret r=>some r)
theorem zaX{p0:S_api_Factor}{r:(S_factor_table×Int)}(h:zaE p0=some r):Lx.FnA mC 77 [(.agg [(fzE false (eI .i64) p0.vars),(fzE false (eI .i64) p0.cards),(fzE false (eI .i64) p0.w)])] (.tup [(.agg [(fzE false (eI .i64) r.1.factor.vars),(fzE false (eI .i64) r.1.factor.cards),(fzE false (eI .i64) r.1.factor.w),(fzE false (eI .i64) r.1.steps)]),(dI r.2)]):=by
 refine zr7 (by conv=>lhs; cbv) ?_;unfold zaE at h;refine zac ?_;obtain⟨r1,g2,h⟩:=bind_some h;try simp only[rnA,Nat.reduceEqDiff,Nat.reduceLT,reduceCtorEq]
 refine EvL.fn (zff g2) rfl rfl (.cons (zaa _ _ (fun h=>nomatch h)) .nil) ?_;try simp only[rnA,Nat.reduceEqDiff,Nat.reduceLT,reduceCtorEq]
 obtain⟨o1,j1,h⟩:=bind_some h;obtain⟨T1,hT1⟩:=mkT fun a:Bool=>⟨96,[(1,(.ptr 0 0)),(2,(.ptr 1 0)),(37,(dB a))],[.cells [(fzE false (eI .i64) p0.vars),(fzE false (eI .i64) p0.cards),(fzE false (eI .i64) p0.w)],.cells [zaL,zaL,zaL,zaL]]⟩
 refine EvL.jn T1 (fun a=>a=o1) ?_ ?_
 ·refine zac ?_;try simp only[rnA,Nat.reduceEqDiff,Nat.reduceLT,reduceCtorEq]
  cases c3:(r1.2 == 0)
  ·rw[c3,cond_false]at j1;try simp only[rnA,Nat.reduceEqDiff,Nat.reduceLT,reduceCtorEq]
   replace j1:=qab j1; subst j1;exact lfj hT1 rfl (wm0 [.k,.k] ⟨MB.cs ⟨qcb,qcb,qcb,qcb⟩,⟨MB.cs ⟨qcb,qcb,qcb,qcb,qcb⟩,qcb⟩⟩)
  rw[c3,cond_true]at j1;try simp only[rnA,Nat.reduceEqDiff,Nat.reduceLT,reduceCtorEq,zbk]
  cases c4:((p0.vars.length:Int)==(p0.cards.length:Int))
  ·rw[c4,cond_false]at j1;try simp only[rnA,Nat.reduceEqDiff,Nat.reduceLT,reduceCtorEq]
   replace j1:=qab j1; subst j1;exact lfj hT1 rfl (wm0 [.k,.k] ⟨MB.cs ⟨qcb,qcb,qcb,qcb⟩,⟨MB.cs ⟨qcb,qcb,qcb,qcb,qcb⟩,qcb⟩⟩)
  rw[c4,cond_true]at j1;try simp only[rnA,Nat.reduceEqDiff,Nat.reduceLT,reduceCtorEq,zbk]
  replace j1:=qab j1; subst j1;exact lfj hT1 rfl (wm0 [.k,.k] ⟨MB.cs ⟨qcb,qcb,qcb,qcb⟩,⟨MB.cs ⟨qcb,qcb,qcb,qcb,qcb⟩,qcb⟩⟩)
 rintro v37 rfl;rw[congrFun hT1 v37];refine zac ?_;try simp only[rnA,Nat.reduceEqDiff]
 cases c5:v37
 ·rw[c5,cond_false]at h;try simp only[rnA,Nat.reduceEqDiff,Nat.reduceLT,zbk]
  obtain⟨o5,j5,h⟩:=bind_some h;obtain⟨T5,hT5⟩:=mkT fun a:Unit=>⟨96,[(1,(.ptr 0 0)),(2,(.ptr 1 0))],[.cells [(fzE false (eI .i64) p0.vars),(fzE false (eI .i64) p0.cards),(fzE false (eI .i64) p0.w)],.cells [zaL,zaL,zaL,zaL]]⟩
  refine EvL.jn T5 (fun a=>o5=.go a) ?_ ?_
  ·refine zac ?_;simp only[rnA];obtain⟨T8,hT8⟩:=mkT fun a:(Int×Int)=>⟨96,[(1,(.ptr 0 0)),(2,(.ptr 1 0)),(6,(dI a.1)),(40,(fzE false (eI .i64) p0.vars)),(41,(dI (p0.vars.length:Int))),(42,(dI a.2))],[.cells [(fzE false (eI .i64) p0.vars),(fzE false (eI .i64) p0.cards),(fzE false (eI .i64) p0.w)],.cells [zaL,zaL,zaL,zaL]]⟩
   refine EvL.rounds (α:=(Int×Int)) T8 (fun n a=>zb5 p0 n a.1 a.2=some o5) ((p0.vars.length:Int) - 0+2:Int).toNat ((-1),0) (by rw[hT8]; exact wm0 [.k,.k] ⟨MB.cs ⟨qcb,qcb,qcb,qcb⟩,⟨MB.cs ⟨qcb,qcb,qcb,qcb,qcb⟩,qcb⟩⟩) j5 (fun _ h=>nomatch (show(none:Option (Out Unit (S_factor_table×Int)))=some o5 from h)) ?_;rintro n ⟨v6,v42⟩ j5;simp only[zb5]at j5;rw[congrFun hT8 (v6,v42)];refine zac ?_;try simp only[rnA,Nat.reduceEqDiff,Nat.reduceLT]
   cases c6:(decide (v42<(p0.vars.length:Int)))
   ·rw[c6,cond_false]at j5;try simp only[rnA]
    replace j5:=qab j5; subst j5;exact lfj hT5 rfl (wm0 [.k,.k] ⟨MB.cs ⟨qcb,qcb,qcb,qcb⟩,⟨MB.cs ⟨qcb,qcb,qcb,qcb,qcb⟩,qcb⟩⟩)
   rw[c6,cond_true]at j5;obtain⟨x7,g8,j5⟩:=bind_some j5;try simp only[rnA,Nat.reduceEqDiff,Nat.reduceLT,zaB (n:=1) (e:=(eI .i64)) rfl g8]
   obtain⟨o9,j9,j5⟩:=bind_some j5;obtain⟨T9,hT9⟩:=mkT fun a:Bool=>⟨96,[(1,(.ptr 0 0)),(2,(.ptr 1 0)),(8,(dI x7)),(40,(fzE false (eI .i64) p0.vars)),(41,(dI (p0.vars.length:Int))),(42,(dI v42)),(52,(dB a))],[.cells [(fzE false (eI .i64) p0.vars),(fzE false (eI .i64) p0.cards),(fzE false (eI .i64) p0.w)],.cells [zaL,zaL,zaL,zaL]]⟩
   refine EvL.jn T9 (fun a=>a=o9) ?_ ?_
   ·refine zac ?_;try simp only[rnA,Nat.reduceEqDiff,Nat.reduceLT]
    cases c9:(decide (x7≤v6))
    ·rw[c9,cond_false]at j9;try simp only[rnA,Nat.reduceEqDiff,Nat.reduceLT]
     replace j9:=qab j9; subst j9;exact lfj hT9 rfl (wm0 [.k,.k] ⟨MB.cs ⟨qcb,qcb,qcb,qcb⟩,⟨MB.cs ⟨qcb,qcb,qcb,qcb,qcb⟩,qcb⟩⟩)
    rw[c9,cond_true]at j9;try simp only[rnA,Nat.reduceEqDiff,Nat.reduceLT]
    replace j9:=qab j9; subst j9;exact lfj hT9 rfl (wm0 [.k,.k] ⟨MB.cs ⟨qcb,qcb,qcb,qcb⟩,⟨MB.cs ⟨qcb,qcb,qcb,qcb,qcb⟩,qcb⟩⟩)
   rintro v52 rfl;rw[congrFun hT9 v52];refine zac ?_;try simp only[rnA,Nat.reduceEqDiff]
   cases c10:v52
   ·rw[c10,cond_false]at j5;try simp only[rnA,Nat.reduceEqDiff,Nat.reduceLT]
    exact⟨(x7,(w64 (v42+1))),j5,by rw[hT8]; exact wm0 [.k,.k] ⟨MB.cs ⟨qcb,qcb,qcb,qcb⟩,⟨MB.cs ⟨qcb,qcb,qcb,qcb,qcb⟩,qcb⟩⟩⟩
   rw[c10,cond_true]at j5;try simp only[rnA,Nat.reduceEqDiff,Nat.reduceLT,Nat.reduceAdd,Nat.reduceLeDiff]
   replace j5:=qab j5; subst j5;dsimp only at h;replace h:=qab h; subst h;exact zeV.ret rfl (Snp.zdn (.cons (.zaG (.cons (zai (eI .i64)) (.cons (zai (eI .i64)) (.cons (zai (eI .i64)) (.cons (zai (eI .i64)) .nil))))) (.cons (.lit _) .nil)))
  rintro⟨⟩ rfl;dsimp only at h;rw[congrFun hT5 ()];refine zac ?_;try simp only[rnA,Nat.reduceEqDiff,Nat.reduceLT,zbk]
  obtain⟨o13,j13,h⟩:=bind_some h;obtain⟨T13,hT13⟩:=mkT fun a:Unit=>⟨96,[(1,(.ptr 0 0)),(2,(.ptr 1 0))],[.cells [(fzE false (eI .i64) p0.vars),(fzE false (eI .i64) p0.cards),(fzE false (eI .i64) p0.w)],.cells [zaL,zaL,zaL,zaL]]⟩
  refine EvL.jn T13 (fun a=>o13=.go a) ?_ ?_
  ·refine zac ?_;simp only[rnA];obtain⟨T16,hT16⟩:=mkT fun a:Int=>⟨96,[(1,(.ptr 0 0)),(2,(.ptr 1 0)),(57,(fzE false (eI .i64) p0.w)),(58,(dI (p0.w.length:Int))),(59,(dI a))],[.cells [(fzE false (eI .i64) p0.vars),(fzE false (eI .i64) p0.cards),(fzE false (eI .i64) p0.w)],.cells [zaL,zaL,zaL,zaL]]⟩
   refine EvL.rounds (α:=Int) T16 (fun n a=>zb0 p0 n a=some o13) ((p0.w.length:Int) - 0+2:Int).toNat 0 (by rw[hT16]; exact wm0 [.k,.k] ⟨MB.cs ⟨qcb,qcb,qcb,qcb⟩,⟨MB.cs ⟨qcb,qcb,qcb,qcb,qcb⟩,qcb⟩⟩) j13 (fun _ h=>nomatch (show(none:Option (Out Unit (S_factor_table×Int)))=some o13 from h)) ?_;rintro n v59 j13;simp only[zb0]at j13;rw[congrFun hT16 v59];refine zac ?_;try simp only[rnA,Nat.reduceEqDiff,Nat.reduceLT]
   cases c11:(decide (v59<(p0.w.length:Int)))
   ·rw[c11,cond_false]at j13;try simp only[rnA]
    replace j13:=qab j13; subst j13;exact lfj hT13 rfl (wm0 [.k,.k] ⟨MB.cs ⟨qcb,qcb,qcb,qcb⟩,⟨MB.cs ⟨qcb,qcb,qcb,qcb,qcb⟩,qcb⟩⟩)
   rw[c11,cond_true]at j13;obtain⟨x12,g13,j13⟩:=bind_some j13;try simp only[rnA,Nat.reduceEqDiff,Nat.reduceLT,zaB (n:=1) (e:=(eI .i64)) rfl g13]
   obtain⟨o17,j17,j13⟩:=bind_some j13;obtain⟨T17,hT17⟩:=mkT fun a:Bool=>⟨96,[(1,(.ptr 0 0)),(2,(.ptr 1 0)),(57,(fzE false (eI .i64) p0.w)),(58,(dI (p0.w.length:Int))),(59,(dI v59)),(68,(dB a))],[.cells [(fzE false (eI .i64) p0.vars),(fzE false (eI .i64) p0.cards),(fzE false (eI .i64) p0.w)],.cells [zaL,zaL,zaL,zaL]]⟩
   refine EvL.jn T17 (fun a=>a=o17) ?_ ?_
   ·refine zac ?_;try simp only[rnA,Nat.reduceEqDiff,Nat.reduceLT]
    cases c14:(decide (x12<0))
    ·rw[c14,cond_false]at j17;try simp only[rnA,Nat.reduceEqDiff,Nat.reduceLT]
     replace j17:=qab j17; subst j17;exact lfj hT17 rfl (wm0 [.k,.k] ⟨MB.cs ⟨qcb,qcb,qcb,qcb⟩,⟨MB.cs ⟨qcb,qcb,qcb,qcb,qcb⟩,qcb⟩⟩)
    rw[c14,cond_true]at j17;try simp only[rnA,Nat.reduceEqDiff,Nat.reduceLT]
    replace j17:=qab j17; subst j17;exact lfj hT17 rfl (wm0 [.k,.k] ⟨MB.cs ⟨qcb,qcb,qcb,qcb⟩,⟨MB.cs ⟨qcb,qcb,qcb,qcb,qcb⟩,qcb⟩⟩)
   rintro v68 rfl;rw[congrFun hT17 v68];refine zac ?_;try simp only[rnA,Nat.reduceEqDiff]
   cases c15:v68
   ·rw[c15,cond_false]at j13;try simp only[rnA,Nat.reduceEqDiff,Nat.reduceLT]
    exact⟨(w64 (v59+1)),j13,by rw[hT16]; exact wm0 [.k,.k] ⟨MB.cs ⟨qcb,qcb,qcb,qcb⟩,⟨MB.cs ⟨qcb,qcb,qcb,qcb,qcb⟩,qcb⟩⟩⟩
   rw[c15,cond_true]at j13;try simp only[rnA,Nat.reduceEqDiff,Nat.reduceLT,Nat.reduceAdd,Nat.reduceLeDiff]
   replace j13:=qab j13; subst j13;dsimp only at h;replace h:=qab h; subst h;exact zeV.ret rfl (Snp.zdn (.cons (.zaG (.cons (zai (eI .i64)) (.cons (zai (eI .i64)) (.cons (zai (eI .i64)) (.cons (zai (eI .i64)) .nil))))) (.cons (.lit _) .nil)))
  rintro⟨⟩ rfl;dsimp only at h;rw[congrFun hT13 ()];refine zac ?_;obtain⟨y16,g17,h⟩:=bind_some h;try simp only[rnA,Nat.reduceEqDiff,Nat.reduceLT,Nat.reduceAdd,zbk,(zau g17).1.1,(zau g17).1.2,qbn,(show List.replicate (Int.toNat (p0.cards.length:Int)) [(dI 0)]=y16.map ((eI .i64).c true)from zbw g17 ((eI .i64).c true)),zaC g17]
  obtain⟨o18,j18,h⟩:=bind_some h;obtain⟨T18,hT18⟩:=mkT fun a:(List Int)=>⟨96,[(1,(.ptr 0 0)),(2,(.ptr 1 0)),(11,(.sl 2 0 1 (Int.toNat (p0.cards.length:Int)) (some (Int.toNat (p0.cards.length:Int))) (Int.toNat (p0.cards.length:Int))))],[.cells [(fzE false (eI .i64) p0.vars),(fzE false (eI .i64) p0.cards),(fzE false (eI .i64) p0.w)],.cells [zaL,zaL,zaL,zaL],.els 1 (a.map ((eI .i64).c true))]⟩
  refine EvL.jn T18 (fun a=>a=o18∧a.length=(Int.toNat (p0.cards.length:Int))) ?_ ?_
  ·refine zac ?_;simp only[rnA];obtain⟨T19,hT19⟩:=mkT fun a:(Int×Int×(List Int))=>⟨96,[(1,(.ptr 0 0)),(2,(.ptr 1 0)),(11,(.sl 2 0 1 (Int.toNat (p0.cards.length:Int)) (some (Int.toNat (p0.cards.length:Int))) (Int.toNat (p0.cards.length:Int)))),(12,(dI a.1)),(13,(dI a.2.1))],[.cells [(fzE false (eI .i64) p0.vars),(fzE false (eI .i64) p0.cards),(fzE false (eI .i64) p0.w)],.cells [zaL,zaL,zaL,zaL],.els 1 (a.2.2.map ((eI .i64).c true))]⟩
   refine EvL.rounds (α:=(Int×Int×(List Int))) T19 (fun n a=>zbC p0 n a.1 a.2.1 a.2.2=some o18∧a.2.2.length=(Int.toNat (p0.cards.length:Int))) ((w64 ((((Int.toNat (p0.cards.length:Int)):Nat):Int) - 1)) - 0+2:Int).toNat (1,(w64 ((((Int.toNat (p0.cards.length:Int)):Nat):Int) - 1)),y16) (by rw[hT19]; exact wm0 [.k,.k,.k] ⟨MB.cs ⟨qcb,qcb,qcb,qcb⟩,⟨MB.cs ⟨qcb,qcb,qcb,qcb,qcb⟩,⟨MB.es (eI .i64) true y16,qcb⟩⟩⟩) ⟨j18,zaC g17⟩ (fun _ h=>nomatch (show(none:Option (List Int))=some o18 from h.1)) ?_;rintro n ⟨v12,v13,l2⟩ ⟨j18,el2⟩;simp only[zbC]at j18;rw[congrFun hT19 (v12,v13,l2)];refine zac ?_;try simp only[rnA,Nat.reduceEqDiff,Nat.reduceLT]
   cases c18:(decide (0≤v13))
   ·rw[c18,cond_false]at j18;try simp only[rnA]
    replace j18:=qab j18; subst j18;exact⟨_,⟨rfl,el2⟩,by rw[hT18]; exact wm0 [.k,.k,.k] ⟨MB.cs ⟨qcb,qcb,qcb,qcb⟩,⟨MB.cs ⟨qcb,qcb,qcb,qcb,qcb⟩,⟨MB.es (eI .i64) true l2,qcb⟩⟩⟩⟩
   rw[c18,cond_true]at j18;obtain⟨x19,g20,j18⟩:=bind_some j18;obtain⟨y21,g22,j18⟩:=bind_some j18;obtain⟨x23,g24,j18⟩:=bind_some j18;try simp only[rnA,Nat.reduceEqDiff,Nat.reduceLT,Nat.reduceLeDiff,el2,zbq g20,(show v13<(((Int.toNat (p0.cards.length:Int)):Nat):Int)from el2 ▸ zbr g20),zaQ g20 ((eI .i64).c true),(show(l2.map ((eI .i64).c true)).set v13.toNat [(dI v12)]=y21.map ((eI .i64).c true)from zbE g22 ((eI .i64).c true)),zaB (n:=1) (e:=(eI .i64)) rfl g24]
   exact⟨((w64 (v12 * x23)),(w64 (v13 - 1)),y21),⟨j18,(zbd g22).trans el2⟩,by rw[hT19]; exact wm0 [.k,.k,.k] ⟨MB.cs ⟨qcb,qcb,qcb,qcb⟩,⟨MB.cs ⟨qcb,qcb,qcb,qcb,qcb⟩,⟨MB.es (eI .i64) true y21,qcb⟩⟩⟩⟩
  rintro l2 ⟨rfl,el2⟩;rw[congrFun hT18 l2];refine zac ?_;try simp only[rnA,Nat.reduceEqDiff,Nat.reduceLT,Nat.reduceAdd,Nat.reduceLeDiff]
  replace h:=qab h; subst h;exact zeV.ret rfl (Snp.zdn (.cons (.zaG (.cons (zaa _ _ (fun h=>nomatch h)) (.cons (zaa _ _ (fun h=>nomatch h)) (.cons (zaa _ _ (fun h=>nomatch h)) (.cons (zbh (e:=(eI .i64)) (t:=true) rfl (.inl rfl) (el2).symm (el2).symm (fun k h=>by cases h; exact qaf _) (fun h=>nomatch h)) .nil))))) (.cons (.lit _) .nil)))
 rw[c5,cond_true]at h;try simp only[rnA,Nat.reduceEqDiff,Nat.reduceLT,Nat.reduceAdd,Nat.reduceLeDiff]
 replace h:=qab h; subst h;exact zeV.ret rfl (Snp.zdn (.cons (.zaG (.cons (zai (eI .i64)) (.cons (zai (eI .i64)) (.cons (zai (eI .i64)) (.cons (zai (eI .i64)) .nil))))) (.cons (.lit _) .nil)))
theorem zh4{α:Type}{L:List LB}{β:Nat}(e:En α)(x:α)(h:L[β]? = some (.cells (e.c false x))):Snp L false (.ptr β 0) (.fptr false (e.c false x)):=
 .ptr h (by omega) fun k d d' h3 h4=>by
  rw[qaM]at h3;exact(e.snp (L:=L) (t:=false) (t':=false) x id).get k d d' h3 h4
def za1(cards steps:List Int):Option (List Int×List Int):=some (cards,steps)
def zd2:C:=
 .seq (rg [oW 2 0,
 oW 3 1,
 ⟨some 4,.mov (.c .nilFunc),none⟩])
 (.seq (rg [⟨some 5,.clo 120 [] [(.s 2),(.s 3)],none⟩,
 oM 4 5])
 (.ret))
theorem zfC:zgs mC 84=some (6,zd2,[.tmp 4],false):=zbj (by kernel_rfl)
theorem zbm{cards steps:List Int}{r:List Int×List Int}(h:za1 cards steps=some r):
  Lx.FnA mC 84 [fzE false (eI .i64) cards,fzE false (eI .i64) steps] (.clo 120 [] [.fptr false ((eL (eI .i64)).c false r.1),.fptr false ((eL (eI .i64)).c false r.2)]):=by
 cases h;refine FnA.of zfC (zbc rfl) (qac rfl) ?_;simp only[zd2,zkx];refine zac ?_;simp only[rnA,Nat.reduceEqDiff,reduceIte,Nat.reduceLT,Nat.reduceAdd,Nat.reduceLeDiff,Nat.reduceMul,Nat.reduceSub,Int.reduceLE,Int.reduceLT,Int.reduceBEq,Nat.reduceBEq,reduceCtorEq];exact zeV.ret rfl (.clo rfl rfl (Snps.get .nil) (Snps.get (.cons (zh4 (eL (eI .i64)) cards rfl) (.cons (zh4 (eL (eI .i64)) steps rfl) .nil))))
def zhH(cards steps:List Int):Nat→List Int→Int→Option (List Int×Int×Int)
 | 0,vals,a=>some (vals,a,-1)
 | k+1,vals,a=>(zbN vals (k:Int)).bind fun v=>(zbN cards (k:Int)).bind fun c=>bif v == w64 (c - 1)then(zbN steps (k:Int)).bind fun st=>(zgc vals (k:Int) 0).bind fun vals'=>zhH cards steps k vals' (w64 (a - w64 (v * st)))else some (vals,a,(k:Int))
def zqU(cards steps:List Int):Nat→List Int→Int→Int→Option (List (Int×Int×List Int))
 | 0,_,_,_=>none
 | n+1,vals,i,a=>(zhH cards steps cards.length vals a).bind fun r=>bif decide (r.2.2<0)then some [(i,a,vals)]else
   (zbN r.1 r.2.2).bind fun v=>(zgc r.1 r.2.2 (w64 (v+1))).bind fun vals'=>(zbN steps r.2.2).bind fun st=>(zqU cards steps n vals' (w64 (i+1)) (w64 (r.2.1+st))).map fun l=>(i,a,vals):: l
def zoy(cards steps:List Int):Option (List (Int×Int×List Int)):=(zk8 cards).bind fun _=>(zdD 8 (cards.length:Int) 0).bind fun z=>zqU cards steps ((cards.foldl (· * ·) 1).toNat) z 0 0
theorem zjc{α β:Type}{o:Option α}{f:α→β}{b:β}(h:o.map f=some b):∃ a,o=some a∧b=f a:=by
 cases o with
 | none=>cases h
 | some a=>cases h; exact⟨a,rfl,rfl⟩
theorem zp0{L:List LB}{n:Nat}(h:L.length=n)(x:LB):(L ++ [x])[n]? = some x:=by subst h; simp
theorem zqA{L:List LB}{n:Nat}(h:L.length=n)(x y:LB):(L ++ [x]).set n y=L ++ [y]:=by subst h; simp
def zpf:C:=
 (.seq (.seq (.scope (.reg true false [oM 19 7,
 oD 20 .geq 19 0,
 oM 21 20,
 oMg 22 4 21 true,
 oMg 23 7 21 true,
 ⟨some 24,.idxS 1 (.s 22) (.s 23),some (21,true)⟩,
 oLg 25 24 21 true,
 oLg 26 1 21 true,
 oMg 27 7 21 true,
 ⟨some 28,.idxS 1 (.s 26) (.s 27),some (21,true)⟩,
 oLg 29 28 21 true,
 oDg 30 .sub 29 1 21 true,
 ⟨some 31,.bin .eql (.s 25) (.s 30),some (21,true)⟩,
 ⟨some 32,.pick (.s 21) (.s 31) (.c (.bool false)),none⟩]))
 (.cond (.s 32) (.skip)
 (.exit 2)))
 (.block 3 (.seq (.reg true false [oM 33 6,
 oM 34 4,
 oM 35 7,
 oI 36 1 34 35,
 oL 37 36,
 oL 38 2,
 oM 39 7,
 oI 40 1 38 39,
 oL 41 40,
 oB 42 .mul 37 41,
 oB 43 .sub 33 42,
 oM 6 43])
 (.seq (rg [oM 44 4,
 oM 45 7,
 oI 46 1 44 45,
 ⟨none,.store 1 (.s 46) (.c (.int .i64 0)),none⟩])
 (rg [oM 47 7,
 oD 48 .sub 47 1,
 oM 7 48])))))
def zlu:C:=.block 1 (.seq (.seq (.reg false false [⟨some 11,.mov (.s 0),none⟩,
 ⟨some 12,.mov (.s 5),none⟩,
 ⟨some 13,.mov (.s 6),none⟩,
 ⟨some 14,.za2 (.s 11) [(.s 12),(.s 13)],none⟩,
 ⟨some 15,.un .not (.s 14),none⟩])
 (.cond (.s 15) (.ret)
 (.skip)))
 (.seq (.reg false false [⟨some 16,.load none (.s 1),none⟩,
 ⟨some 17,.len (.s 16),none⟩,
 ⟨some 18,.bin .sub (.s 17) (.c (.int .i64 1)),none⟩,
 ⟨some 7,.mov (.s 18),none⟩])
 (.seq (.scope (.block 2 (.loop zpf)))
 (.seq (.seq (.reg false false [⟨some 49,.mov (.s 7),none⟩,
 ⟨some 50,.bin .lss (.s 49) (.c (.int .i64 0)),none⟩])
 (.cond (.s 50) (.ret)
 (.skip)))
 (.seq (.reg false false [⟨some 51,.mov (.s 4),none⟩,
 ⟨some 52,.mov (.s 7),none⟩,
 ⟨some 53,.idxS 1 (.s 51) (.s 52),none⟩,
 ⟨some 54,.load none (.s 53),none⟩,
 ⟨some 55,.bin .add (.s 54) (.c (.int .i64 1)),none⟩,
 ⟨some 56,.idxS 1 (.s 51) (.s 52),none⟩,
 ⟨none,.store 1 (.s 56) (.s 55),none⟩])
 (.seq (.reg false false [⟨some 57,.mov (.s 6),none⟩,
 ⟨some 58,.load none (.s 2),none⟩,
 ⟨some 59,.mov (.s 7),none⟩,
 ⟨some 60,.idxS 1 (.s 58) (.s 59),none⟩,
 ⟨some 61,.load none (.s 60),none⟩,
 ⟨some 62,.bin .add (.s 57) (.s 61),none⟩,
 ⟨some 6,.mov (.s 62),none⟩])
 (.reg false false [⟨some 63,.mov (.s 5),none⟩,
 ⟨some 64,.bin .add (.s 63) (.c (.int .i64 1)),none⟩,
 ⟨some 5,.mov (.s 64),none⟩])))))))
def zr6:C:=.seq (.reg false false [⟨some 8,.load none (.s 1),none⟩,
 ⟨some 9,.len (.s 8),none⟩,
 ⟨some 10,.mk 1 8 [(.int .i64 0)] (.s 9) (.s 9),none⟩,
 ⟨some 4,.mov (.s 10),none⟩,
 ⟨some 5,.mov (.c (.int .i64 0)),none⟩,
 ⟨some 6,.mov (.c (.int .i64 0)),none⟩])
 (.scope (.block 0 (.loop zlu)))
theorem zqd:zgs mC 120=some (65,zr6,[],false):=zbj (by kernel_rfl)
theorem zbf{cards steps:List Int}{u:List (Int×Int×List Int)}(hu:zoy cards steps=some u):
  Gen mC 120 [] [.fptr false ((eL (eI .i64)).c false cards),.fptr false ((eL (eI .i64)).c false steps)] u (fun y n0 args G=>args=[dI y.1,dI y.2.1]∧G=[.els 1 (y.2.2.map ((eI .i64).c true))]):=by
 intro n0 β P Ps hβ hlen hround L hP;refine zdX.ofM zqd (zbc rfl) (qac rfl) ?_;obtain⟨_,hsm,hu⟩:=bind_some hu;obtain⟨z,hz,hv⟩:=bind_some hu;have hL:=hlen _ _ hP;have hm:IntKind.i64.wrap ((cards.length:Int) - 1)=(cards.length:Int) - 1:=by
  have:=zju hsm;exact wrap64 (by omega) (by omega)
 unfold zr6;refine zac ?_;simp only[rnA,Nat.reduceEqDiff,Nat.reduceLT,Nat.reduceAdd,reduceCtorEq,zbk,(zau hz).1.1,(zau hz).1.2,qbn,qaJ,(show List.replicate cards.length [(dI 0)]=z.map ((eI .i64).c true)from(zbw hz ((eI .i64).c true)))];refine EvL.scope (zac ?_);simp only[rnA];rw[hL];refine EvL.loop (α:=Nat×Nat×List Int×Int×Int×List LB) (fun a=>⟨65,[(0,.yld β),(1,.fptr false ((eL (eI .i64)).c false cards)),(2,.fptr false ((eL (eI .i64)).c false steps)),(4,.sl n0 0 1 cards.length (some cards.length) cards.length),(5,dI a.2.2.2.1),(6,dI a.2.2.2.2.1)],a.2.2.2.2.2 ++ [.els 1 (a.2.2.1.map ((eI .i64).c true))]⟩)
  (fun a=>P a.2.1 a.2.2.2.2.2∧zqU cards steps a.1 a.2.2.1 a.2.2.2.1 a.2.2.2.2.1=some (u.drop a.2.1)∧a.2.2.1.length=cards.length) (fun a=>a.1) ((cards.foldl (· * ·) 1).toNat,0,z,0,0,L) (by refine zbl.sub ?_; exact⟨rfl,rfl,rfl,rfl,rfl,rfl,qcb⟩) ⟨hP,hv,by rw[zaC hz,qaJ]⟩ ?_
 rintro⟨n,j,vals,i,at_,L'⟩ ⟨hPi,hvk,hvl⟩;simp only at hPi hvk hvl;cases n with
 | zero=>cases hvk
 | succ n=>
 unfold zqU at hvk;obtain⟨⟨vals1,at1,kk⟩,hc,hvk⟩:=bind_some hvk;simp only at hvk;have hul:∃ r,u.drop j=(i,at_,vals):: r:=by
  cases hk:decide (kk<0)with
  | true=>rw[hk,cond_true]at hvk; exact⟨[],(qab hvk).symm⟩
  | false=>
   rw[hk,cond_false]at hvk;obtain⟨v,_,hvk⟩:=bind_some hvk;obtain⟨vals2,_,hvk⟩:=bind_some hvk;obtain⟨st,_,hvk⟩:=bind_some hvk;obtain⟨l,_,hl⟩:=zjc hvk;exact⟨l,hl⟩
 obtain⟨r,hul⟩:=hul;have hj:j<u.length:=by
  refine Nat.lt_of_not_le fun hn=>?_
  rw[qbv hn]at hul;cases hul
 have huj:u[j]? = some (i,at_,vals):=by
  rw[qaB hj]at hul;rw[qag hj,(List.cons.inj hul).1]
 have hur:u.drop (j+1)=r:=by
  rw[qaB hj]at hul;exact(List.cons.inj hul).2
 unfold zlu;refine zac ?_;simp only[rnA,Nat.reduceEqDiff,Nat.reduceLT,reduceCtorEq];refine EvL.yield rfl rfl rfl (hround j (i,at_,vals) L' _ [.els 1 (vals.map ((eI .i64).c true))] huj hPi ⟨rfl,rfl⟩) ?_;rintro b L2 ⟨L1,rfl,hl1,hb⟩;cases b with
 | false=>
  simp only[rnA,Nat.reduceEqDiff,Nat.reduceLT,reduceCtorEq];exact⟨[],rfl,L1,_,rfl,hl1,.inr hb⟩
 | true=>
 have hga:=zp0 hl1;have hsa:=zqA hl1;simp only[rnA,Nat.reduceEqDiff,Nat.reduceLT,reduceCtorEq,zbk,hm];refine EvL.jn (fun a:List Int×Int×Int=>⟨65,[(0,.yld β),(1,.fptr false ((eL (eI .i64)).c false cards)),(2,.fptr false ((eL (eI .i64)).c false steps)),(4,.sl n0 0 1 cards.length (some cards.length) cards.length),(5,dI i),(6,dI a.2.1),(7,dI a.2.2)],L1 ++ [.els 1 (a.1.map ((eI .i64).c true))]⟩) (fun a=>a=(vals1,at1,kk)∧a.1.length=cards.length) ?_ ?_
 ·refine zac ?_;simp only[rnA];refine EvL.loop (α:=Nat×List Int×Int) (fun a=>⟨65,[(0,.yld β),(1,.fptr false ((eL (eI .i64)).c false cards)),(2,.fptr false ((eL (eI .i64)).c false steps)),(4,.sl n0 0 1 cards.length (some cards.length) cards.length),(5,dI i),(6,dI a.2.2),(7,dI ((a.1:Int) - 1))],L1 ++ [.els 1 (a.2.1.map ((eI .i64).c true))]⟩)
   (fun a=>zhH cards steps a.1 a.2.1 a.2.2=some (vals1,at1,kk)∧a.2.1.length=cards.length∧a.1≤cards.length) (fun a=>a.1) (cards.length,vals,at_) (by refine zbl.sub ?_; exact⟨rfl,rfl,rfl,rfl,rfl,rfl,rfl,qcb⟩) ⟨hc,hvl,qaf _⟩ ?_
  rintro⟨f,vs,a⟩ ⟨hf,hvs,hfl⟩;simp only at hf hvs hfl;simp only[zpf,zkx];refine zac ?_;simp only[rnA];cases f with
  | zero=>
   cases hf;refine EvL.scope (zac ?_);have hk:((0:Nat):Int) - 1 = -1:=rfl;simp only[rnA,Nat.reduceEqDiff,Nat.reduceLT,Int.reduceLE,reduceCtorEq,hk];exact⟨_,⟨rfl,hvs⟩,zbl.sub ⟨rfl,rfl,rfl,rfl,rfl,rfl,rfl,qcb⟩⟩
  | succ f=>
   have hk:((f+1:Nat):Int) - 1=(f:Int):=by omega
   have hk0:(0:Int)≤(f:Int):=by omega
   unfold zhH at hf;obtain⟨v,q1,hf⟩:=bind_some hf;obtain⟨c,q2,hf⟩:=bind_some hf;refine EvL.scope (zac ?_);cases hb:(v == w64 (c - 1))with
   | false=>
    rw[hb,cond_false]at hf;cases hf;simp only[rnA,Nat.reduceEqDiff,Nat.reduceLT,reduceCtorEq,hk,hk0,hga,hvs,(show(f:Int)<((cards.length:Nat):Int)from hvs ▸ zbr q1),zaQ q1 ((eI .i64).c true),zaB (n:=1) (e:=eI .i64) rfl q2,hb];exact⟨_,⟨rfl,hvs⟩,zbl.sub ⟨rfl,rfl,rfl,rfl,rfl,rfl,rfl,qcb⟩⟩
   | true=>
    rw[hb,cond_true]at hf;obtain⟨st,q3,hf⟩:=bind_some hf;obtain⟨vs',q4,hf⟩:=bind_some hf;have hw:IntKind.i64.wrap ((f:Int) - 1)=(f:Int) - 1:=by
     have:=zju hsm;exact wrap64 (by omega) (by omega)
    simp only[rnA,Nat.reduceEqDiff,Nat.reduceLT,Nat.reduceLeDiff,reduceCtorEq,hk,hk0,hga,hsa,hvs,(show(f:Int)<((cards.length:Nat):Int)from hvs ▸ zbr q1),zaQ q1 ((eI .i64).c true),zaB (n:=1) (e:=eI .i64) rfl q2,zaB (n:=1) (e:=eI .i64) rfl q3,hb,(show(vs.map ((eI .i64).c true)).set (f:Int).toNat [dI 0]=vs'.map ((eI .i64).c true)from zbE q4 ((eI .i64).c true)),hw];exact⟨(f,vs',w64 (a - w64 (v * st))),⟨hf,by rw[zbd q4]; exact hvs,by omega⟩,qbs f,zbl.sub ⟨rfl,rfl,rfl,rfl,rfl,rfl,rfl,qcb⟩⟩
 rintro a ⟨rfl,hvs⟩;simp only at hvs;refine zac ?_;cases hk:decide (kk<0)with
 | true=>
  rw[hk,cond_true]at hvk;simp only[rnA,Nat.reduceEqDiff,Nat.reduceLT,reduceCtorEq,hk];have h1:u.length=j+1:=by
   have h2:=qab hvk;have h3:u.drop (j+1)=[]:=by
    rw[hur];rw[← h2]at hul;exact(List.cons.inj hul).2.symm
   have h4:=List.drop_eq_nil_iff.1 h3;omega
  exact⟨[],rfl,L1,_,rfl,hl1,.inl (by rw[h1]; exact hb)⟩
 | false=>
  rw[hk,cond_false]at hvk;obtain⟨v,q1,hvk⟩:=bind_some hvk;obtain⟨vals2,q2,hvk⟩:=bind_some hvk;obtain⟨st,q3,hvk⟩:=bind_some hvk;obtain⟨l,q4,hl⟩:=zjc hvk;simp only[rnA,Nat.reduceEqDiff,Nat.reduceLT,Nat.reduceLeDiff,reduceCtorEq,hk,hga,hsa,hvs,zbq q1,(show kk<((cards.length:Nat):Int)from hvs ▸ zbr q1),zaQ q1 ((eI .i64).c true),(show(vals1.map ((eI .i64).c true)).set kk.toNat [dI (w64 (v+1))]=vals2.map ((eI .i64).c true)from zbE q2 ((eI .i64).c true)),zaB (n:=1) (e:=eI .i64) rfl q3];refine⟨(n,j+1,vals2,w64 (i+1),w64 (at1+st),L1),⟨hb,?_,by rw[zbd q2]; exact hvs⟩,qbs n,zbl.sub ⟨rfl,rfl,rfl,rfl,rfl,rfl,qcb⟩⟩;simp only;rw[q4,hur];rw[hul]at hl;rw[(List.cons.inj hl).2]
def zaN(p0:(List Int))(p1:Int):Nat→Int→Option (Out Unit Int)
 | 0,_=>none
 | n+1,v8=>(
bif (decide (v8<(p0.length:Int)))then(
(zbN p0 v8).bind fun x2=>
bif (p1 == x2)then(
some (.ret v8))
else(
zaN p0 p1 n (w64 (v8+1))))
else(
some (.go ())))
def za3(p0:(List Int))(p1:Int):Option Int:=
((zaN p0 p1 ((p0.length:Int) - 0+2:Int).toNat 0:Option (Out Unit Int))).bind fun o=>match o with
| .go _=>(
some (-1))
| .ret r=>some r
theorem zdV{p0:(List Int)}{p1:Int}{r:Int}(h:za3 p0 p1=some r):Lx.Fn mC 121 [(fzE false (eI .i64) p0),(dI p1)] (dI r):=by
 refine fnO (by conv=>lhs; cbv) ?_;unfold za3 at h;refine zac ?_;try simp only[rnA,Nat.reduceEqDiff,Nat.reduceLT,Nat.reduceAdd,reduceCtorEq,zbk]
 obtain⟨o1,j1,h⟩:=bind_some h;obtain⟨T1,hT1⟩:=mkT fun a:Unit=>⟨19,[],[]⟩
 refine EvL.jn T1 (fun a=>o1=.go a) ?_ ?_
 ·refine zac ?_;simp only[rnA];obtain⟨T2,hT2⟩:=mkT fun a:Int=>⟨19,[(0,(fzE false (eI .i64) p0)),(1,(dI p1)),(7,(dI (p0.length:Int))),(8,(dI a))],[]⟩
  refine EvL.rounds (α:=Int) T2 (fun n a=>zaN p0 p1 n a=some o1) ((p0.length:Int) - 0+2:Int).toNat 0 (by rw[hT2]; exact wm0 [] (by exact trivial)) j1 (fun _ h=>nomatch (show(none:Option (Out Unit Int))=some o1 from h)) ?_;rintro n v8 j1;simp only[zaN]at j1;rw[congrFun hT2 v8];refine zac ?_;try simp only[rnA,Nat.reduceEqDiff,Nat.reduceLT,reduceCtorEq]
  cases c1:(decide (v8<(p0.length:Int)))
  ·rw[c1,cond_false]at j1;try simp only[rnA]
   replace j1:=qab j1; subst j1;exact lfj hT1 rfl (wm0 [] (by exact trivial))
  rw[c1,cond_true]at j1;obtain⟨x2,g3,j1⟩:=bind_some j1;try simp only[rnA,Nat.reduceEqDiff,Nat.reduceLT,reduceCtorEq,zaB (n:=1) (e:=(eI .i64)) rfl g3]
  cases c4:(p1 == x2)
  ·rw[c4,cond_false]at j1;try simp only[rnA,Nat.reduceEqDiff,Nat.reduceLT,reduceCtorEq]
   exact⟨(w64 (v8+1)),j1,by rw[hT2]; exact wm0 [] (by exact trivial)⟩
  rw[c4,cond_true]at j1;try simp only[rnA,Nat.reduceEqDiff,Nat.reduceLT,reduceCtorEq]
  replace j1:=qab j1; subst j1;dsimp only at h;replace h:=qab h; subst h;exact zcV.ret rfl (.lit _)
 rintro⟨⟩ rfl;dsimp only at h;rw[congrFun hT1 ()];refine zac ?_;try simp only[rnA,Nat.reduceLT]
 replace h:=qab h; subst h;exact zcV.ret rfl (.lit _)
def zaj(p0:S_factor_table)(p1:Int):Option Int:=
(za3 p0.factor.vars p1).bind fun r1=>
some r1
theorem zam{p0:S_factor_table}{p1:Int}{r:Int}(h:zaj p0 p1=some r):Lx.Fn mC 90 [(.agg [(fzE false (eI .i64) p0.factor.vars),(fzE false (eI .i64) p0.factor.cards),(fzE false (eI .i64) p0.factor.w),(fzE false (eI .i64) p0.steps)]),(dI p1)] (dI r):=by
 refine fnO (by conv=>lhs; cbv) ?_;unfold zaj at h;refine zac ?_;obtain⟨r1,g2,h⟩:=bind_some h;try simp only[rnA,Nat.reduceEqDiff,reduceIte,Nat.reduceLT,Nat.reduceAdd,Nat.reduceLeDiff,Nat.reduceMul,Nat.reduceSub,Int.reduceLE,Int.reduceLT,Int.reduceBEq,Nat.reduceBEq,reduceCtorEq,zdK,zcC]
 refine EvL.fn (zdV g2) rfl rfl (.cons (zaa _ _ (fun h=>nomatch h)) (.cons (.lit _) .nil)) ?_;try simp only[rnA,Nat.reduceEqDiff,reduceIte,Nat.reduceLT,Nat.reduceAdd,Nat.reduceLeDiff,Nat.reduceMul,Nat.reduceSub,Int.reduceLE,Int.reduceLT,Int.reduceBEq,Nat.reduceBEq,reduceCtorEq,zdK]
 replace h:=qab h; subst h;exact zcV.ret rfl (.lit _)
def zbH(p0:S_factor_table)(p1:S_factor_table):Nat→Int→Option (Out Unit Bool)
 | 0,_=>none
 | n+1,v12=>(
bif (decide (v12<(p0.factor.vars.length:Int)))then(
(zbN p0.factor.vars v12).bind fun x2=>
(zaj p1 x2).bind fun r4=>
((bif (decide (0≤r4))then(
(zbN p1.factor.cards r4).bind fun x7=>
(zbN p0.factor.cards v12).bind fun x9=>
some (!(x7 == x9)))
else(
some false):Option Bool)).bind fun v36=>
bif v36 then(
some (.ret false))
else(
zbH p0 p1 n (w64 (v12+1))))
else(
some (.go ())))
def zbX(p0:S_factor_table)(p1:S_factor_table):Option Bool:=
((zbH p0 p1 ((p0.factor.vars.length:Int) - 0+2:Int).toNat 0:Option (Out Unit Bool))).bind fun o=>match o with
| .go _=>(
some true)
| .ret r=>some r
def zeJ:C:=
 .seq (rg [oW 2 0,
 oW 3 1,
 oJ 4 false])
 (.seq (.seq (rg [oF 8 0 2,
 oF 9 0 8,
 oL 10 9,
 oE 11 10,
 oK 12 0])
 (.scope (.block 0 (.loop (.seq (rg [oB 13 .lss 12 11])
 (.seq (.cond (.s 13) (.skip)
 (.exit 0))
 (.seq (.block 1 (.seq (rg [oM 14 12,
 oI 15 1 10 12,
 oL 16 15,
 oM 5 14,
 oM 6 16])
 (.seq (rg [oN 17 4 3,
 oM 18 6,
 oV 19 90 17 18,
 oM 7 19])
 (.seq (.scope (.reg true false [oM 20 7,
 oD 21 .geq 20 0,
 oM 22 21,
 oFg 23 0 3 22 true,
 oFg 24 1 23 22 true,
 oLg 25 24 22 true,
 oMg 26 7 22 true,
 ⟨some 27,.idxS 1 (.s 25) (.s 26),some (22,true)⟩,
 oLg 28 27 22 true,
 oFg 29 0 2 22 true,
 oFg 30 1 29 22 true,
 oLg 31 30 22 true,
 oMg 32 5 22 true,
 ⟨some 33,.idxS 1 (.s 31) (.s 32),some (22,true)⟩,
 oLg 34 33 22 true,
 ⟨some 35,.bin .neq (.s 28) (.s 34),some (22,true)⟩,
 ⟨some 36,.pick (.s 22) (.s 35) (.c (.bool false)),none⟩]))
 (.cond (.s 36) (.seq (rg [oJ 4 false])
 (.ret))
 (.skip))))))
 (rg [oD 37 .add 12 1,
 oM 12 37]))))))))
 (.seq (rg [oJ 4 true])
 (.ret)))
theorem zf9:zgs mC 81=some (38,zeJ,[.tmp 4],false):=zbj (by kernel_rfl)
theorem zeg{p0:S_factor_table}{p1:S_factor_table}{r:Bool}(h:zbX p0 p1=some r):Lx.Fn mC 81 [(.agg [(fzE false (eI .i64) p0.factor.vars),(fzE false (eI .i64) p0.factor.cards),(fzE false (eI .i64) p0.factor.w),(fzE false (eI .i64) p0.steps)]),(.agg [(fzE false (eI .i64) p1.factor.vars),(fzE false (eI .i64) p1.factor.cards),(fzE false (eI .i64) p1.factor.w),(fzE false (eI .i64) p1.steps)])] (dB r):=by
 refine Fn.of zf9 (zbc rfl) (qac rfl) ?_;unfold zbX at h;simp only[zeJ,zkx];refine zac ?_;try simp only[rnA,Nat.reduceEqDiff,Nat.reduceLT,Nat.reduceAdd,reduceCtorEq,zbk]
 obtain⟨o4,j4,h⟩:=bind_some h;obtain⟨T4,hT4⟩:=mkT fun a:Unit=>⟨38,[],[]⟩
 refine EvL.jn T4 (fun a=>o4=.go a) ?_ ?_
 ·refine zac ?_;simp only[rnA];obtain⟨T7,hT7⟩:=mkT fun a:Int=>⟨38,[(2,(.ptr 0 0)),(3,(.ptr 1 0)),(10,(fzE false (eI .i64) p0.factor.vars)),(11,(dI (p0.factor.vars.length:Int))),(12,(dI a))],[.cells [(fzE false (eI .i64) p0.factor.vars),(fzE false (eI .i64) p0.factor.cards),(fzE false (eI .i64) p0.factor.w),(fzE false (eI .i64) p0.steps)],.cells [(fzE false (eI .i64) p1.factor.vars),(fzE false (eI .i64) p1.factor.cards),(fzE false (eI .i64) p1.factor.w),(fzE false (eI .i64) p1.steps)]]⟩
  refine EvL.rounds (α:=Int) T7 (fun n a=>zbH p0 p1 n a=some o4) ((p0.factor.vars.length:Int) - 0+2:Int).toNat 0 (by rw[hT7]; exact wm0 [.k,.k] ⟨MB.cs ⟨qcb,qcb,qcb,qcb,qcb⟩,⟨MB.cs ⟨qcb,qcb,qcb,qcb,qcb⟩,qcb⟩⟩) j4 (fun _ h=>nomatch (show(none:Option (Out Unit Bool))=some o4 from h)) ?_;rintro n v12 j4;simp only[zbH]at j4;rw[congrFun hT7 v12];refine zac ?_;try simp only[rnA,Nat.reduceEqDiff,Nat.reduceLT]
  cases c1:(decide (v12<(p0.factor.vars.length:Int)))
  ·rw[c1,cond_false]at j4;try simp only[rnA]
   replace j4:=qab j4; subst j4;exact lfj hT4 rfl (wm0 [] (by exact trivial))
  rw[c1,cond_true]at j4;obtain⟨x2,g3,j4⟩:=bind_some j4;obtain⟨r4,g5,j4⟩:=bind_some j4;try simp only[rnA,Nat.reduceEqDiff,Nat.reduceLT,Nat.reduceAdd,Nat.reduceLeDiff,zaB (n:=1) (e:=(eI .i64)) rfl g3]
  refine EvL.fn (zam g5) rfl rfl (.cons (.zaG (.cons (zaa _ _ (fun h=>nomatch h)) (.cons (zaa _ _ (fun h=>nomatch h)) (.cons (zaa _ _ (fun h=>nomatch h)) (.cons (zaa _ _ (fun h=>nomatch h)) .nil))))) (.cons (.lit _) .nil)) ?_;try simp only[rnA,Nat.reduceEqDiff,Nat.reduceLT]
  obtain⟨o8,j8,j4⟩:=bind_some j4;obtain⟨T8,hT8⟩:=mkT fun a:Bool=>⟨38,[(2,(.ptr 0 0)),(3,(.ptr 1 0)),(10,(fzE false (eI .i64) p0.factor.vars)),(11,(dI (p0.factor.vars.length:Int))),(12,(dI v12)),(36,(dB a))],[.cells [(fzE false (eI .i64) p0.factor.vars),(fzE false (eI .i64) p0.factor.cards),(fzE false (eI .i64) p0.factor.w),(fzE false (eI .i64) p0.steps)],.cells [(fzE false (eI .i64) p1.factor.vars),(fzE false (eI .i64) p1.factor.cards),(fzE false (eI .i64) p1.factor.w),(fzE false (eI .i64) p1.steps)]]⟩
  refine EvL.jn T8 (fun a=>a=o8) ?_ ?_
  ·refine zac ?_;try simp only[rnA,Nat.reduceEqDiff,Nat.reduceLT]
   cases c6:(decide (0≤r4))
   ·rw[c6,cond_false]at j8;try simp only[rnA,Nat.reduceEqDiff,Nat.reduceLT]
    replace j8:=qab j8; subst j8;exact lfj hT8 rfl (wm0 [.k,.k] ⟨MB.cs ⟨qcb,qcb,qcb,qcb,qcb⟩,⟨MB.cs ⟨qcb,qcb,qcb,qcb,qcb⟩,qcb⟩⟩)
   rw[c6,cond_true]at j8;obtain⟨x7,g8,j8⟩:=bind_some j8;obtain⟨x9,g10,j8⟩:=bind_some j8;try simp only[rnA,Nat.reduceEqDiff,Nat.reduceLT,zaB (n:=1) (e:=(eI .i64)) rfl g8,zaB (n:=1) (e:=(eI .i64)) rfl g10]
   replace j8:=qab j8; subst j8;exact lfj hT8 rfl (wm0 [.k,.k] ⟨MB.cs ⟨qcb,qcb,qcb,qcb,qcb⟩,⟨MB.cs ⟨qcb,qcb,qcb,qcb,qcb⟩,qcb⟩⟩)
  rintro v36 rfl;rw[congrFun hT8 v36];refine zac ?_;try simp only[rnA,Nat.reduceEqDiff]
  cases c11:v36
  ·rw[c11,cond_false]at j4;try simp only[rnA,Nat.reduceEqDiff,Nat.reduceLT]
   exact⟨(w64 (v12+1)),j4,by rw[hT7]; exact wm0 [.k,.k] ⟨MB.cs ⟨qcb,qcb,qcb,qcb,qcb⟩,⟨MB.cs ⟨qcb,qcb,qcb,qcb,qcb⟩,qcb⟩⟩⟩
  rw[c11,cond_true]at j4;try simp only[rnA,Nat.reduceLT]
  replace j4:=qab j4; subst j4;dsimp only at h;replace h:=qab h; subst h;exact zcV.ret rfl (.lit _)
 rintro⟨⟩ rfl;dsimp only at h;rw[congrFun hT4 ()];refine zac ?_;try simp only[rnA,Nat.reduceLT]
 replace h:=qab h; subst h;exact zcV.ret rfl (.lit _)
def zaV(p1:(List Int))(p0:S_factor_table):Nat→Int→(List Int)→Option (List Int)
 | 0,_,_=>none
 | n+1,v14,l1=>(
bif (decide (v14<(p1.length:Int)))then(
(zbN p1 v14).bind fun x4=>
(zaj p0 x4).bind fun r6=>
((bif (decide (0≤r6))then(
(zbN p0.steps r6).bind fun x9=>
(zbN l1 v14).bind fun x11=>
(zgc l1 v14 x9).bind fun y13=>
some y13)
else(
some l1):Option (List Int))).bind fun l1'=>
zaV p1 p0 n (w64 (v14+1)) l1')
else(
some l1))
def zaI(p0:S_factor_table)(p1:(List Int)):Option (List Int):=
(zdD 8 (p1.length:Int) 0).bind fun y1=>
((zaV p1 p0 ((p1.length:Int) - 0+2:Int).toNat 0 y1:Option (List Int))).bind fun l1=>
some l1
theorem zby{p0:S_factor_table}{p1:(List Int)}{r:(List Int)}(h:zaI p0 p1=some r):Lx.Fn mC 85 [(.agg [(fzE false (eI .i64) p0.factor.vars),(fzE false (eI .i64) p0.factor.cards),(fzE false (eI .i64) p0.factor.w),(fzE false (eI .i64) p0.steps)]),(fzE false (eI .i64) p1)] (fzE true (eI .i64) r):=by
 refine fnO (by conv=>lhs; cbv) ?_;unfold zaI at h;refine zac ?_;obtain⟨y1,g2,h⟩:=bind_some h;try simp only[rnA,Nat.reduceEqDiff,Nat.reduceLT,Nat.reduceAdd,reduceCtorEq,zbk,(zau g2).1.1,(zau g2).1.2,qbn,(show List.replicate (Int.toNat (p1.length:Int)) [(dI 0)]=y1.map ((eI .i64).c true)from zbw g2 ((eI .i64).c true))]
 obtain⟨o4,j4,h⟩:=bind_some h;obtain⟨T4,hT4⟩:=mkT fun a:(List Int)=>⟨34,[(5,(.sl 1 0 1 (Int.toNat (p1.length:Int)) (some (Int.toNat (p1.length:Int))) (Int.toNat (p1.length:Int))))],[.gone,.els 1 (a.map ((eI .i64).c true))]⟩
 refine EvL.jn T4 (fun a=>a=o4∧a.length=(Int.toNat (p1.length:Int))) ?_ ?_
 ·refine zac ?_;simp only[rnA];obtain⟨T7,hT7⟩:=mkT fun a:(Int×(List Int))=>⟨34,[(2,(.ptr 0 0)),(5,(.sl 1 0 1 (Int.toNat (p1.length:Int)) (some (Int.toNat (p1.length:Int))) (Int.toNat (p1.length:Int)))),(12,(fzE false (eI .i64) p1)),(13,(dI (p1.length:Int))),(14,(dI a.1))],[.cells [(fzE false (eI .i64) p0.factor.vars),(fzE false (eI .i64) p0.factor.cards),(fzE false (eI .i64) p0.factor.w),(fzE false (eI .i64) p0.steps)],.els 1 (a.2.map ((eI .i64).c true))]⟩
  refine EvL.rounds (α:=(Int×(List Int))) T7 (fun n a=>zaV p1 p0 n a.1 a.2=some o4∧a.2.length=(Int.toNat (p1.length:Int))) ((p1.length:Int) - 0+2:Int).toNat (0,y1) (by rw[hT7]; exact wm0 [.k,.k] ⟨MB.cs ⟨qcb,qcb,qcb,qcb,qcb⟩,⟨MB.es (eI .i64) true y1,qcb⟩⟩) ⟨j4,zaC g2⟩ (fun _ h=>nomatch (show(none:Option (List Int))=some o4 from h.1)) ?_;rintro n ⟨v14,l1⟩ ⟨j4,el1⟩;simp only[zaV]at j4;rw[congrFun hT7 (v14,l1)];refine zac ?_;try simp only[rnA,Nat.reduceEqDiff,Nat.reduceLT]
  cases c3:(decide (v14<(p1.length:Int)))
  ·rw[c3,cond_false]at j4;try simp only[rnA]
   replace j4:=qab j4; subst j4;exact⟨_,⟨rfl,el1⟩,by rw[hT4]; exact wm0 [.d,.k] ⟨rfl,⟨MB.es (eI .i64) true l1,qcb⟩⟩⟩
  rw[c3,cond_true]at j4;obtain⟨x4,g5,j4⟩:=bind_some j4;obtain⟨r6,g7,j4⟩:=bind_some j4;try simp only[rnA,Nat.reduceEqDiff,Nat.reduceLT,Nat.reduceAdd,Nat.reduceLeDiff,zaB (n:=1) (e:=(eI .i64)) rfl g5]
  refine EvL.fn (zam g7) rfl rfl (.cons (.zaG (.cons (zaa _ _ (fun h=>nomatch h)) (.cons (zaa _ _ (fun h=>nomatch h)) (.cons (zaa _ _ (fun h=>nomatch h)) (.cons (zaa _ _ (fun h=>nomatch h)) .nil))))) (.cons (.lit _) .nil)) ?_;try simp only[rnA,Nat.reduceEqDiff,Nat.reduceLT]
  obtain⟨o8,j8,j4⟩:=bind_some j4;obtain⟨T8,hT8⟩:=mkT fun a:(List Int)=>⟨34,[(2,(.ptr 0 0)),(5,(.sl 1 0 1 (Int.toNat (p1.length:Int)) (some (Int.toNat (p1.length:Int))) (Int.toNat (p1.length:Int)))),(12,(fzE false (eI .i64) p1)),(13,(dI (p1.length:Int))),(14,(dI v14))],[.cells [(fzE false (eI .i64) p0.factor.vars),(fzE false (eI .i64) p0.factor.cards),(fzE false (eI .i64) p0.factor.w),(fzE false (eI .i64) p0.steps)],.els 1 (a.map ((eI .i64).c true))]⟩
  refine EvL.jn T8 (fun a=>a=o8∧a.length=(Int.toNat (p1.length:Int))) ?_ ?_
  ·refine zac ?_;try simp only[rnA,Nat.reduceEqDiff]
   cases c8:(decide (0≤r6))
   ·rw[c8,cond_false]at j8;try simp only[rnA]
    replace j8:=qab j8; subst j8;exact⟨_,⟨rfl,el1⟩,by rw[hT8]; exact wm0 [.k,.k] ⟨MB.cs ⟨qcb,qcb,qcb,qcb,qcb⟩,⟨MB.es (eI .i64) true l1,qcb⟩⟩⟩
   rw[c8,cond_true]at j8;obtain⟨x9,g10,j8⟩:=bind_some j8;obtain⟨x11,g12,j8⟩:=bind_some j8;obtain⟨y13,g14,j8⟩:=bind_some j8;try simp only[rnA,Nat.reduceEqDiff,Nat.reduceLT,Nat.reduceLeDiff,zaB (n:=1) (e:=(eI .i64)) rfl g10,el1,zbq g12,(show v14<(((Int.toNat (p1.length:Int)):Nat):Int)from el1 ▸ zbr g12),zaQ g12 ((eI .i64).c true),(show(l1.map ((eI .i64).c true)).set v14.toNat [(dI x9)]=y13.map ((eI .i64).c true)from zbE g14 ((eI .i64).c true))]
   replace j8:=qab j8; subst j8;exact⟨_,⟨rfl,(zbd g14).trans el1⟩,by rw[hT8]; exact wm0 [.k,.k] ⟨MB.cs ⟨qcb,qcb,qcb,qcb,qcb⟩,⟨MB.es (eI .i64) true y13,qcb⟩⟩⟩
  rintro l1' ⟨rfl,el1'⟩;rw[congrFun hT8 l1'];refine zac ?_;try simp only[rnA,Nat.reduceEqDiff,Nat.reduceLT]
  exact⟨((w64 (v14+1)),l1'),⟨j4,el1'⟩,by rw[hT7]; exact wm0 [.k,.k] ⟨MB.cs ⟨qcb,qcb,qcb,qcb,qcb⟩,⟨MB.es (eI .i64) true l1',qcb⟩⟩⟩
 rintro l1 ⟨rfl,el1⟩;rw[congrFun hT4 l1];refine zac ?_;try simp only[rnA,Nat.reduceEqDiff,Nat.reduceLT]
 replace h:=qab h; subst h;exact zcV.ret rfl (zbh (e:=(eI .i64)) (t:=true) rfl (.inl rfl) (el1).symm (el1).symm (fun k h=>by cases h; exact qaf _) (fun _=>rfl))
def zbo(y7:(List Int))(p0:S_factor_table)(p1:S_factor_table):Nat→Int→(List Int)→Option (List Int)
 | 0,_,_=>none
 | n+1,v26,l2=>(
bif (decide (v26<(y7.length:Int)))then(
(zbN y7 v26).bind fun x12=>
(zaj p0 x12).bind fun r14=>
((bif (decide (0≤r14))then(
(zbN p0.factor.cards r14).bind fun x25=>
(zbN l2 v26).bind fun x27=>
(zgc l2 v26 x25).bind fun y29=>
some y29)
else(
(zaj p1 x12).bind fun r17=>
(zbN p1.factor.cards r17).bind fun x19=>
(zbN l2 v26).bind fun x21=>
(zgc l2 v26 x19).bind fun y23=>
some y23):Option (List Int))).bind fun l2'=>
zbo y7 p0 p1 n (w64 (v26+1)) l2')
else(
some l2))
def zbz(p0:S_factor_table)(p1:S_factor_table):Option ((List Int)×(List Int)):=
(zda 8 p0.factor.vars).bind fun y1=>
(zjy 8 y1 p1.factor.vars).bind fun y3=>
(zhh 8 y3).bind fun y5=>
(zq0 y5).bind fun y7=>
(zdD 8 (y7.length:Int) 0).bind fun y9=>
((zbo y7 p0 p1 ((y7.length:Int) - 0+2:Int).toNat 0 y9:Option (List Int))).bind fun l2=>
some (y7,l2)
def zeG:C:=
 .seq (rg [oW 2 0,
 oW 3 1,
 ⟨some 4,.mov (.c (.slice none 0 0)),none⟩,
 ⟨some 5,.mov (.c (.slice none 0 0)),none⟩])
 (.seq (.reg true false [oF 9 0 2,
 oF 10 0 9,
 oL 11 10,
 oF 13 0 3,
 oF 14 0 13,
 oL 15 14,
 oU 12 25 11,
 oT 16 1 8 12 15,
 oM 4 16])
 (.seq (rg [oM 17 4,
 oU 18 117 17])
 (.seq (rg [oM 19 4,
 oU 20 118 19,
 oM 4 20])
 (.seq (rg [oM 21 4,
 oE 22 21,
 ⟨some 23,.mk 1 8 [(.int .i64 0)] (.s 22) (.s 22),none⟩,
 oM 5 23])
 (.seq (.seq (rg [oM 24 4,
 oE 25 24,
 oK 26 0])
 (.scope (.block 0 (.loop (.seq (rg [oB 27 .lss 26 25])
 (.seq (.cond (.s 27) (.skip)
 (.exit 0))
 (.seq (.block 1 (.seq (rg [oM 28 26,
 oI 29 1 24 26,
 oL 30 29,
 oM 6 28,
 oM 7 30])
 (.seq (rg [oN 31 4 2,
 oM 32 7,
 oV 33 90 31 32,
 oM 8 33])
 (.seq (rg [oM 34 8,
 oD 35 .geq 34 0])
 (.scope (.cond (.s 35) (rg [oM 36 5,
 oM 37 6,
 oF 38 0 2,
 oF 39 1 38,
 oL 40 39,
 oM 41 8,
 oI 42 1 40 41,
 oL 43 42,
 oI 44 1 36 37,
 oS 1 44 43])
 (.reg true true [oM 45 5,
 oM 46 6,
 oF 47 0 3,
 oF 48 1 47,
 oL 49 48,
 oN 50 4 3,
 oM 51 7,
 oV 52 90 50 51,
 oI 53 1 49 52,
 oL 54 53,
 oI 55 1 45 46,
 oS 1 55 54])))))))
 (rg [oD 56 .add 26 1,
 oM 26 56]))))))))
 (.seq (rg [oM 57 4,
 oM 58 5,
 oM 4 57,
 oM 5 58])
 (.ret)))))))
theorem zf5:zgs mC 82=some (59,zeG,[.tmp 4,.tmp 5],false):=zbj (by kernel_rfl)
theorem zgr{p0:S_factor_table}{p1:S_factor_table}{r:((List Int)×(List Int))}(h:zbz p0 p1=some r):Lx.Fn mC 82 [(.agg [(fzE false (eI .i64) p0.factor.vars),(fzE false (eI .i64) p0.factor.cards),(fzE false (eI .i64) p0.factor.w),(fzE false (eI .i64) p0.steps)]),(.agg [(fzE false (eI .i64) p1.factor.vars),(fzE false (eI .i64) p1.factor.cards),(fzE false (eI .i64) p1.factor.w),(fzE false (eI .i64) p1.steps)])] (.tup [(fzE true (eI .i64) r.1),(fzE true (eI .i64) r.2)]):=by
 refine Fn.of zf5 (zbc rfl) (qac rfl) ?_;unfold zbz at h;simp only[zeG,zkx];refine zac ?_;obtain⟨y1,g2,h⟩:=bind_some h;try simp only[rnA,Nat.reduceEqDiff,Nat.reduceLT,Nat.reduceAdd,reduceCtorEq]
 refine EvL.clone (t:=false) (zs:=p0.factor.vars) g2 rfl rfl ?_;obtain⟨y3,g4,h⟩:=bind_some h;obtain⟨y5,g6,h⟩:=bind_some h;try simp only[rnA,Nat.reduceEqDiff,Nat.reduceLT,Nat.reduceAdd,reduceCtorEq,(show ∀ L,zkY L 1 (fzE false (eI .i64) p1.factor.vars)=some (p1.factor.vars.map ((eI .i64).c true))from fun L=>zqe (e:=(eI .i64)) rfl _ L false),zoI g4,(show y1.length+p1.factor.vars.length=y3.length from zjS g4),(show y1.map ((eI .i64).c true)++ p1.factor.vars.map ((eI .i64).c true)=y3.map ((eI .i64).c true)from znK g4 ((eI .i64).c true))]
 refine EvL.sort (zs:=y3) (t:=true) g6 rfl rfl rfl rfl rfl ?_;obtain⟨y7,g8,h⟩:=bind_some h;try simp only[rnA,Nat.reduceEqDiff,Nat.reduceLT,reduceCtorEq]
 refine EvL.compact (zs:=y5) (t:=true) g8 rfl rfl rfl (((zjU g6).trans rfl)).symm (((zjU g6).trans rfl)).symm rfl ?_;refine EvL.zcY (S':=⟨59,[(2,(.ptr 0 0)),(3,(.ptr 1 0)),(20,(fzE true (eI .i64) y7))],[.cells [(fzE false (eI .i64) p0.factor.vars),(fzE false (eI .i64) p0.factor.cards),(fzE false (eI .i64) p0.factor.w),(fzE false (eI .i64) p0.steps)],.cells [(fzE false (eI .i64) p1.factor.vars),(fzE false (eI .i64) p1.factor.cards),(fzE false (eI .i64) p1.factor.w),(fzE false (eI .i64) p1.steps)]]⟩) (zbl.m0 [.k,.k,.f] rfl (msq (msq (mf rfl (zg4 (xs:=y5) (ys:=y7) (t:=true) (zqO g8) rfl rfl rfl (fun _=>rfl)) trivial))) ⟨MB.cs ⟨qcb,qcb,qcb,qcb,qcb⟩,⟨MB.cs ⟨qcb,qcb,qcb,qcb,qcb⟩,qcb⟩⟩) (zac ?_);obtain⟨y9,g10,h⟩:=bind_some h;try simp only[rnA,Nat.reduceEqDiff,Nat.reduceLT,Nat.reduceAdd,zbk,(zau g10).1.1,(zau g10).1.2,qbn,(show List.replicate (Int.toNat (y7.length:Int)) [(dI 0)]=y9.map ((eI .i64).c true)from zbw g10 ((eI .i64).c true))]
 obtain⟨o4,j4,h⟩:=bind_some h;obtain⟨T4,hT4⟩:=mkT fun a:(List Int)=>⟨59,[(4,(fzE true (eI .i64) y7)),(5,(.sl 2 0 1 (Int.toNat (y7.length:Int)) (some (Int.toNat (y7.length:Int))) (Int.toNat (y7.length:Int))))],[.gone,.gone,.els 1 (a.map ((eI .i64).c true))]⟩
 refine EvL.jn T4 (fun a=>a=o4∧a.length=(Int.toNat (y7.length:Int))) ?_ ?_
 ·refine zac ?_;simp only[rnA];obtain⟨T7,hT7⟩:=mkT fun a:(Int×(List Int))=>⟨59,[(2,(.ptr 0 0)),(3,(.ptr 1 0)),(4,(fzE true (eI .i64) y7)),(5,(.sl 2 0 1 (Int.toNat (y7.length:Int)) (some (Int.toNat (y7.length:Int))) (Int.toNat (y7.length:Int)))),(24,(fzE true (eI .i64) y7)),(25,(dI (y7.length:Int))),(26,(dI a.1))],[.cells [(fzE false (eI .i64) p0.factor.vars),(fzE false (eI .i64) p0.factor.cards),(fzE false (eI .i64) p0.factor.w),(fzE false (eI .i64) p0.steps)],.cells [(fzE false (eI .i64) p1.factor.vars),(fzE false (eI .i64) p1.factor.cards),(fzE false (eI .i64) p1.factor.w),(fzE false (eI .i64) p1.steps)],.els 1 (a.2.map ((eI .i64).c true))]⟩
  refine EvL.rounds (α:=(Int×(List Int))) T7 (fun n a=>zbo y7 p0 p1 n a.1 a.2=some o4∧a.2.length=(Int.toNat (y7.length:Int))) ((y7.length:Int) - 0+2:Int).toNat (0,y9) (by rw[hT7]; exact wm0 [.k,.k,.k] ⟨MB.cs ⟨qcb,qcb,qcb,qcb,qcb⟩,⟨MB.cs ⟨qcb,qcb,qcb,qcb,qcb⟩,⟨MB.es (eI .i64) true y9,qcb⟩⟩⟩) ⟨j4,zaC g10⟩ (fun _ h=>nomatch (show(none:Option (List Int))=some o4 from h.1)) ?_;rintro n ⟨v26,l2⟩ ⟨j4,el2⟩;simp only[zbo]at j4;rw[congrFun hT7 (v26,l2)];refine zac ?_;try simp only[rnA,Nat.reduceEqDiff,Nat.reduceLT]
  cases c11:(decide (v26<(y7.length:Int)))
  ·rw[c11,cond_false]at j4;try simp only[rnA]
   replace j4:=qab j4; subst j4;exact⟨_,⟨rfl,el2⟩,by rw[hT4]; exact wm0 [.d,.d,.k] ⟨rfl,⟨rfl,⟨MB.es (eI .i64) true l2,qcb⟩⟩⟩⟩
  rw[c11,cond_true]at j4;obtain⟨x12,g13,j4⟩:=bind_some j4;obtain⟨r14,g15,j4⟩:=bind_some j4;try simp only[rnA,Nat.reduceEqDiff,Nat.reduceLT,Nat.reduceAdd,Nat.reduceLeDiff,zaB (n:=1) (e:=(eI .i64)) rfl g13]
  refine EvL.fn (zam g15) rfl rfl (.cons (.zaG (.cons (zaa _ _ (fun h=>nomatch h)) (.cons (zaa _ _ (fun h=>nomatch h)) (.cons (zaa _ _ (fun h=>nomatch h)) (.cons (zaa _ _ (fun h=>nomatch h)) .nil))))) (.cons (.lit _) .nil)) ?_;try simp only[rnA,Nat.reduceEqDiff,Nat.reduceLT]
  obtain⟨o8,j8,j4⟩:=bind_some j4;obtain⟨T8,hT8⟩:=mkT fun a:(List Int)=>⟨59,[(2,(.ptr 0 0)),(3,(.ptr 1 0)),(4,(fzE true (eI .i64) y7)),(5,(.sl 2 0 1 (Int.toNat (y7.length:Int)) (some (Int.toNat (y7.length:Int))) (Int.toNat (y7.length:Int)))),(24,(fzE true (eI .i64) y7)),(25,(dI (y7.length:Int))),(26,(dI v26))],[.cells [(fzE false (eI .i64) p0.factor.vars),(fzE false (eI .i64) p0.factor.cards),(fzE false (eI .i64) p0.factor.w),(fzE false (eI .i64) p0.steps)],.cells [(fzE false (eI .i64) p1.factor.vars),(fzE false (eI .i64) p1.factor.cards),(fzE false (eI .i64) p1.factor.w),(fzE false (eI .i64) p1.steps)],.els 1 (a.map ((eI .i64).c true))]⟩
  refine EvL.jn T8 (fun a=>a=o8∧a.length=(Int.toNat (y7.length:Int))) ?_ ?_
  ·refine zac ?_;try simp only[rnA,Nat.reduceEqDiff]
   cases c16:(decide (0≤r14))
   ·rw[c16,cond_false]at j8;obtain⟨r17,g18,j8⟩:=bind_some j8;try simp only[rnA,Nat.reduceEqDiff,Nat.reduceLT,Nat.reduceAdd,Nat.reduceLeDiff]
    refine EvL.fn (zam g18) rfl rfl (.cons (.zaG (.cons (zaa _ _ (fun h=>nomatch h)) (.cons (zaa _ _ (fun h=>nomatch h)) (.cons (zaa _ _ (fun h=>nomatch h)) (.cons (zaa _ _ (fun h=>nomatch h)) .nil))))) (.cons (.lit _) .nil)) ?_;obtain⟨x19,g20,j8⟩:=bind_some j8;obtain⟨x21,g22,j8⟩:=bind_some j8;obtain⟨y23,g24,j8⟩:=bind_some j8;try simp only[rnA,Nat.reduceEqDiff,Nat.reduceLT,Nat.reduceLeDiff,zaB (n:=1) (e:=(eI .i64)) rfl g20,el2,zbq g22,(show v26<(((Int.toNat (y7.length:Int)):Nat):Int)from el2 ▸ zbr g22),zaQ g22 ((eI .i64).c true),(show(l2.map ((eI .i64).c true)).set v26.toNat [(dI x19)]=y23.map ((eI .i64).c true)from zbE g24 ((eI .i64).c true))]
    replace j8:=qab j8; subst j8;exact⟨_,⟨rfl,(zbd g24).trans el2⟩,by rw[hT8]; exact wm0 [.k,.k,.k] ⟨MB.cs ⟨qcb,qcb,qcb,qcb,qcb⟩,⟨MB.cs ⟨qcb,qcb,qcb,qcb,qcb⟩,⟨MB.es (eI .i64) true y23,qcb⟩⟩⟩⟩
   rw[c16,cond_true]at j8;obtain⟨x25,g26,j8⟩:=bind_some j8;obtain⟨x27,g28,j8⟩:=bind_some j8;obtain⟨y29,g30,j8⟩:=bind_some j8;try simp only[rnA,Nat.reduceEqDiff,Nat.reduceLT,Nat.reduceLeDiff,zaB (n:=1) (e:=(eI .i64)) rfl g26,el2,zbq g28,(show v26<(((Int.toNat (y7.length:Int)):Nat):Int)from el2 ▸ zbr g28),zaQ g28 ((eI .i64).c true),(show(l2.map ((eI .i64).c true)).set v26.toNat [(dI x25)]=y29.map ((eI .i64).c true)from zbE g30 ((eI .i64).c true))]
   replace j8:=qab j8; subst j8;exact⟨_,⟨rfl,(zbd g30).trans el2⟩,by rw[hT8]; exact wm0 [.k,.k,.k] ⟨MB.cs ⟨qcb,qcb,qcb,qcb,qcb⟩,⟨MB.cs ⟨qcb,qcb,qcb,qcb,qcb⟩,⟨MB.es (eI .i64) true y29,qcb⟩⟩⟩⟩
  rintro l2' ⟨rfl,el2'⟩;rw[congrFun hT8 l2'];refine zac ?_;try simp only[rnA,Nat.reduceEqDiff,Nat.reduceLT]
  exact⟨((w64 (v26+1)),l2'),⟨j4,el2'⟩,by rw[hT7]; exact wm0 [.k,.k,.k] ⟨MB.cs ⟨qcb,qcb,qcb,qcb,qcb⟩,⟨MB.cs ⟨qcb,qcb,qcb,qcb,qcb⟩,⟨MB.es (eI .i64) true l2',qcb⟩⟩⟩⟩
 rintro l2 ⟨rfl,el2⟩;rw[congrFun hT4 l2];refine zac ?_;try simp only[rnA,Nat.reduceEqDiff,Nat.reduceLT]
 replace h:=qab h; subst h;exact zcV.ret rfl (Snp.zdn (.cons (zaa _ _ (fun _=>rfl)) (.cons (zbh (e:=(eI .i64)) (t:=true) rfl (.inl rfl) (el2).symm (el2).symm (fun k h=>by cases h; exact qaf _) (fun _=>rfl)) .nil)))
def zaq(p0:S_api_Factor):Option Int:=
(zaE p0).bind fun r1=>
some r1.2
theorem zaz{p0:S_api_Factor}{r:Int}(h:zaq p0=some r):Lx.Fn mC 29 [(.agg [(fzE false (eI .i64) p0.vars),(fzE false (eI .i64) p0.cards),(fzE false (eI .i64) p0.w)])] (dI r):=by
 refine fnO (by conv=>lhs; cbv) ?_;unfold zaq at h;refine zac ?_;obtain⟨r1,g2,h⟩:=bind_some h;try simp only[rnA,Nat.reduceEqDiff,reduceIte,Nat.reduceLT,Nat.reduceAdd,Nat.reduceLeDiff,Nat.reduceMul,Nat.reduceSub,Int.reduceLE,Int.reduceLT,Int.reduceBEq,Nat.reduceBEq,reduceCtorEq,zae,zcC]
 refine EvL.fnS (zaX g2) rfl rfl (.cons (Mzs.agg (.cons (zad _ _ (fun h=>by cases h<;>contradiction)) (.cons (zad _ _ (fun h=>by cases h<;>contradiction)) (.cons (zad _ _ (fun h=>by cases h<;>contradiction)) .nil)))) .nil) ⟨⟨(zab _ _),(zab _ _),(zab _ _),qcb⟩,qcb⟩ ⟨⟨(zab _ _),(zab _ _),(zab _ _),(zab _ _),qcb⟩,qcb,qcb⟩ ?_;try simp only[rnA,Nat.reduceEqDiff,reduceIte,Nat.reduceLT,Nat.reduceAdd,Nat.reduceLeDiff,Nat.reduceMul,Nat.reduceSub,Int.reduceLE,Int.reduceLT,Int.reduceBEq,Nat.reduceBEq,reduceCtorEq,zae]
 replace h:=qab h; subst h;exact zcV.ret rfl (.lit _)
def zbR(want:S_api_Factor):Option S_api_Factor:=some want
def zlo:C:=
 .seq (rg [oW 1 0,
 ⟨some 2,.mov (.c .nilFunc),none⟩])
 (.seq (rg [⟨some 3,.clo 87 [] [(.s 1)],none⟩,
 oM 2 3])
 (.ret))
theorem zl1:zgs mC 32=some (4,zlo,[.tmp 2],false):=zbj (by kernel_rfl)
theorem zbF{want r:S_api_Factor}(h:zbR want=some r):Lx.FnA mC 32 [.agg (zah.c false want)] (.clo 87 [] [.fptr false (zah.c false r)]):=by
 cases h;refine FnA.of zl1 (zbc rfl) (qac rfl) ?_;simp only[zlo,zkx];refine zac ?_;simp only[rnA,Nat.reduceEqDiff,reduceIte,Nat.reduceLT,Nat.reduceAdd,Nat.reduceLeDiff,Nat.reduceMul,Nat.reduceSub,Int.reduceLE,Int.reduceLT,Int.reduceBEq,Nat.reduceBEq,reduceCtorEq,zae];exact zeV.ret rfl (.clo rfl rfl (Snps.get .nil) (Snps.get (.cons (zh4 zah want rfl) .nil)))
def zaw(want:Int):Option Int:=some want
def zgO:C:=
 .seq (rg [oW 1 0,
 ⟨some 2,.mov (.c .nilFunc),none⟩])
 (.seq (rg [⟨some 3,.clo 80 [] [(.s 1)],none⟩,
 oM 2 3])
 (.ret))
theorem ziV:zgs mC 30=some (4,zgO,[.tmp 2],false):=zbj (by kernel_rfl)
theorem zat{want r:Int}(h:zaw want=some r):Lx.FnA mC 30 [dI want] (.clo 80 [] [.fptr false ((eI .i64).c false r)]):=by
 cases h;refine FnA.of ziV (zbc rfl) (qac rfl) ?_;simp only[zgO,zkx];refine zac ?_;simp only[rnA,Nat.reduceEqDiff,reduceIte,Nat.reduceLT,Nat.reduceAdd,Nat.reduceLeDiff,Nat.reduceMul,Nat.reduceSub,Int.reduceLE,Int.reduceLT,Int.reduceBEq,Nat.reduceBEq,reduceCtorEq];exact zeV.ret rfl (.clo rfl rfl (Snps.get .nil) (Snps.get (.cons (zh4 (eI .i64) want rfl) .nil)))
def zav(p0:(List Int))(p1:(List Int))(p2:(List Int)):Option S_api_Factor:=
some (S_api_Factor.mk p0 p1 p2)
theorem zas{p0:(List Int)}{p1:(List Int)}{p2:(List Int)}{r:S_api_Factor}(h:zav p0 p1 p2=some r):Lx.FnA mC 27 [(fzE false (eI .i64) p0),(fzE false (eI .i64) p1),(fzE false (eI .i64) p2)] (.agg [(fzE false (eI .i64) r.vars),(fzE false (eI .i64) r.cards),(fzE false (eI .i64) r.w)]):=by
 refine zr7 (by conv=>lhs; cbv) ?_;unfold zav at h;refine zac ?_;try simp only[rnA,Nat.reduceEqDiff,reduceIte,Nat.reduceLT,Nat.reduceAdd,Nat.reduceLeDiff,Nat.reduceMul,Nat.reduceSub,Int.reduceLE,Int.reduceLT,Int.reduceBEq,Nat.reduceBEq,reduceCtorEq,zae]
 replace h:=qab h; subst h;exact zeV.ret rfl (.zaG (.cons (zaa _ _ (fun h=>nomatch h)) (.cons (zaa _ _ (fun h=>nomatch h)) (.cons (zaa _ _ (fun h=>nomatch h)) .nil))))
def zep(p0:Int)(p1:Int):Option (Int×Bool):=
some ((w64 (p0+p1)),(decide ((w64 (p0+p1))≤4611686018427387903)))
theorem zib{p0:Int}{p1:Int}{r:(Int×Bool)}(h:zep p0 p1=some r):Lx.Fn mC 79 [(dI p0),(dI p1)] (.tup [(dI r.1),(dB r.2)]):=by
 refine fnO (by conv=>lhs; cbv) ?_;unfold zep at h;refine zac ?_;try simp only[rnA,Nat.reduceEqDiff,reduceIte,Nat.reduceLT,Nat.reduceAdd,Nat.reduceLeDiff,Nat.reduceMul,Nat.reduceSub,Int.reduceLE,Int.reduceLT,Int.reduceBEq,Nat.reduceBEq,reduceCtorEq]
 replace h:=qab h; subst h;exact zcV.ret rfl (Snp.zdn (.cons (.lit _) (.cons (.lit _) .nil)))
def za8(p1:(List Int))(p0:S_factor_table):Nat→Int→Int→(List Int)→Option (Int×(List Int))
 | 0,_,_,_=>none
 | n+1,v9,v24,l3=>(
bif (decide (v24<(p1.length:Int)))then(
(zbN p1 v24).bind fun x4=>
(zaj p0 x4).bind fun r6=>
(zbN p0.factor.cards r6).bind fun x8=>
(zbN l3 v24).bind fun x10=>
(zgc l3 v24 x8).bind fun y12=>
za8 p1 p0 n (w64 (v9 * x8)) (w64 (v24+1)) y12)
else(
some (v9,l3)))
def za7(p1:(List Int))(p0:S_factor_table)(l3:(List Int)):Nat→Int→Int→(List Int)→Option (List Int)
 | 0,_,_,_=>none
 | n+1,v14,v15,l6=>(
bif (decide (0≤v15))then(
(zbN p1 v15).bind fun x19=>
(zaj p0 x19).bind fun r21=>
(zbN l6 r21).bind fun x23=>
(zgc l6 r21 v14).bind fun y25=>
(zbN l3 v15).bind fun x27=>
za7 p1 p0 l3 n (w64 (v14 * x27)) (w64 (v15 - 1)) y25)
else(
some l6))
def zaO(p0:S_factor_table)(v9:Int):List (Int×Int×(List Int))→(List Int)→Option (Out3 (List Int) (List Int) Empty)
 | [],l4=>some (.go l4)
 | y33 :: ys,l4=>(
(zbN l4 y33.2.1).bind fun x34=>
(zbN p0.factor.w y33.1).bind fun x36=>
(zep x34 x36).bind fun r38=>
(zgc l4 y33.2.1 r38.1).bind fun y40=>
bif r38.2 then(
zaO p0 v9 ys y40)
else(
some (.brk y40)))
def zaT(p0:S_factor_table)(p1:(List Int)):Option (S_api_Factor×Int):=
(zdD 8 (p1.length:Int) 0).bind fun y1=>
((za8 p1 p0 ((p1.length:Int) - 0+2:Int).toNat 1 0 y1:Option ((Int×(List Int))))).bind fun o=>match o with
|(v9,l3)=>(
(zdD 8 v9 0).bind fun y14=>
(zdD 8 (p0.factor.vars.length:Int) 0).bind fun y16=>
((za7 p1 p0 l3 ((w64 ((p1.length:Int) - 1)) - 0+2:Int).toNat 1 (w64 ((p1.length:Int) - 1)) y16:Option (List Int))).bind fun l6=>
(za1 p0.factor.cards l6).bind fun r29=>
(((zoy r29.1 r29.2).bind fun u31=>
((zaO p0 v9 u31 y14:Option (Out3 (List Int) (List Int) Empty))).bind fun o=>match o with
| .go l4=>(
some (true,l4))
| .brk l4=>(
some (false,l4))
| .ret r=>nomatch r:Option ((Bool×(List Int))))).bind fun o=>match o with
|(b7_0,l4)=>(
bif b7_0 then(
some ((S_api_Factor.mk p1 l3 l4),0))
else(
some ((S_api_Factor.mk [] [] []),6))))
def zcu:C:=
 .seq (rg [oW 3 0,
 oW 5 2,
 ⟨some 6,.alloc [(.slice none 0 0),(.slice none 0 0),(.slice none 0 0)],none⟩,
 oK 7 0])
 (.scope (.seq (rg [oM 19 1,
 oE 20 19,
 ⟨some 21,.mk 1 8 [(.int .i64 0)] (.s 20) (.s 20),none⟩,
 oM 8 21,
 oK 9 1])
 (.seq (.seq (rg [oM 22 1,
 oE 23 22,
 oK 24 0])
 (.scope (.block 0 (.loop (.seq (rg [oB 25 .lss 24 23])
 (.seq (.cond (.s 25) (.skip)
 (.exit 0))
 (.seq (.block 1 (.seq (rg [oM 26 24,
 oI 27 1 22 24,
 oL 28 27,
 oM 10 26,
 oM 11 28])
 (.seq (.reg true true [oM 29 8,
 oM 30 10,
 oF 31 0 3,
 oF 32 1 31,
 oL 33 32,
 oN 34 4 3,
 oM 35 11,
 oV 36 90 34 35,
 oI 37 1 33 36,
 oL 38 37,
 oI 39 1 29 30,
 oS 1 39 38])
 (rg [oM 40 9,
 oM 41 8,
 oM 42 10,
 oI 43 1 41 42,
 oL 44 43,
 oB 45 .mul 40 44,
 oM 9 45]))))
 (rg [oD 46 .add 24 1,
 oM 24 46]))))))))
 (.seq (.reg true false [oM 47 9,
 oF 49 0 3,
 oF 50 0 49,
 oL 51 50,
 oE 52 51,
 ⟨some 48,.mk 1 8 [(.int .i64 0)] (.s 47) (.s 47),none⟩,
 ⟨some 12,.alloc [(.slice none 0 0)],none⟩,
 ⟨none,.avo [(.s 50)] (.s 12),none⟩,
 oS 1 12 48,
 ⟨some 53,.mk 1 8 [(.int .i64 0)] (.s 52) (.s 52),none⟩,
 oM 13 53,
 oK 14 1])
 (.seq (.seq (rg [oM 54 1,
 oE 55 54,
 oD 56 .sub 55 1,
 oM 15 56])
 (.scope (.block 2 (.loop (.seq (.seq (rg [oM 57 15,
 oD 58 .geq 57 0])
 (.cond (.s 58) (.skip)
 (.exit 2)))
 (.seq (.block 3 (.seq (.reg true false [oM 61 13,
 oN 62 4 3,
 oM 63 1,
 oM 64 15,
 oI 65 1 63 64,
 oL 66 65,
 oM 68 14,
 oV 67 90 62 66,
 oI 69 1 61 67,
 oS 1 69 68])
 (rg [oM 70 14,
 oM 71 8,
 oM 72 15,
 oI 73 1 71 72,
 oL 74 73,
 oB 75 .mul 70 74,
 oM 14 75])))
 (rg [oM 59 15,
 oD 60 .sub 59 1,
 oM 15 60])))))))
 (.seq (rg [⟨some 16,.alloc [(.bool false)],none⟩,
 ⟨none,.store 1 (.s 16) (.c (.bool true)),none⟩])
 (.seq (.label 0)
 (.seq (.seq (rg [oF 76 0 3,
 oF 77 1 76,
 oL 78 77,
 oM 79 13,
 oV 80 84 78 79])
 (.scope (.block 4 (.zdB (.s 80) [81,82] (.seq (rg [oM 17 81])
 (rg [oM 18 82]))
 (.block 5 (.seq (.reg true true [oL 84 12,
 oM 85 18,
 oF 86 0 5,
 oL 87 86,
 oL 88 12,
 oM 89 18,
 oI 90 1 88 89,
 oL 91 90,
 oF 92 0 3,
 oF 93 2 92,
 oL 94 93,
 oM 95 17,
 oI 96 1 94 95,
 oL 97 96,
 ⟨some 98,.za2 (.s 87) [(.s 91),(.s 97)],none⟩,
 oM 83 98,
 oX 99 83 0,
 oX 100 83 1,
 oI 101 1 84 85,
 oS 1 101 99,
 oS 1 16 100])
 (.block 6 (.seq (rg [oL 103 16,
 ⟨some 104,.un .not (.s 103),none⟩,
 oM 102 104])
 (.cond (.s 102) (.exit 4)
 (.skip))))))))))
 (.seq (.seq (rg [oL 105 16,
 ⟨some 106,.un .not (.s 105),none⟩])
 (.cond (.s 106) (.seq (rg [⟨some 107,.build [(.slice none 0 0),(.slice none 0 0),(.slice none 0 0)] [],none⟩,
 oS 3 6 107,
 oK 7 6])
 (.ret))
 (.skip)))
 (.seq (rg [oM 108 1,
 oM 109 8,
 oL 110 12,
 ⟨some 111,.build [(.slice none 0 0),(.slice none 0 0),(.slice none 0 0)] [(0,1,(.s 108)),(1,1,(.s 109)),(2,1,(.s 110))],none⟩,
 oS 3 6 111,
 oK 7 0])
 (.ret)))))))))))
theorem zdt:zgs mC 78=some (112,zcu,[.cell 6 (some 3),.tmp 7],false):=zbj (by kernel_rfl)
theorem zbB{p0:S_factor_table}{p1:(List Int)}{r:(S_api_Factor×Int)}(h:zaT p0 p1=some r):Lx.FnA mC 78 [(.agg [(fzE false (eI .i64) p0.factor.vars),(fzE false (eI .i64) p0.factor.cards),(fzE false (eI .i64) p0.factor.w),(fzE false (eI .i64) p0.steps)]),(fzE false (eI .i64) p1),(.agg [(.clo 79 [] [])])] (.tup [(.agg [(fzE false (eI .i64) r.1.vars),(fzE false (eI .i64) r.1.cards),(fzE false (eI .i64) r.1.w)]),(dI r.2)]):=by
 refine FnA.of zdt (zbc rfl) (qac rfl) ?_;unfold zaT at h;simp only[zcu,zkx];refine zac ?_;try simp only[rnA,Nat.reduceEqDiff,Nat.reduceLT,Nat.reduceAdd,reduceCtorEq]
 refine EvL.scope (zac ?_);obtain⟨y1,g2,h⟩:=bind_some h;try simp only[rnA,Nat.reduceEqDiff,Nat.reduceLT,Nat.reduceAdd,reduceCtorEq,zbk,(zau g2).1.1,(zau g2).1.2,qbn,(show List.replicate (Int.toNat (p1.length:Int)) [(dI 0)]=y1.map ((eI .i64).c true)from zbw g2 ((eI .i64).c true))]
 obtain⟨o8,j8,h⟩:=bind_some h;obtain⟨T8,hT8⟩:=mkT fun a:(Int×(List Int))=>⟨112,[(1,(fzE false (eI .i64) p1)),(3,(.ptr 0 0)),(5,(.ptr 1 0)),(6,(.ptr 2 0)),(8,(.sl 3 0 1 (Int.toNat (p1.length:Int)) (some (Int.toNat (p1.length:Int))) (Int.toNat (p1.length:Int)))),(9,(dI a.1))],[.cells [(fzE false (eI .i64) p0.factor.vars),(fzE false (eI .i64) p0.factor.cards),(fzE false (eI .i64) p0.factor.w),(fzE false (eI .i64) p0.steps)],.cells [(.clo 79 [] [])],.cells [zaL,zaL,zaL],.els 1 (a.2.map ((eI .i64).c true))]⟩
 refine EvL.jn T8 (fun a=>a=o8∧a.2.length=(Int.toNat (p1.length:Int))) ?_ ?_
 ·refine zac ?_;simp only[rnA];obtain⟨T9,hT9⟩:=mkT fun a:(Int×Int×(List Int))=>⟨112,[(1,(fzE false (eI .i64) p1)),(3,(.ptr 0 0)),(5,(.ptr 1 0)),(6,(.ptr 2 0)),(8,(.sl 3 0 1 (Int.toNat (p1.length:Int)) (some (Int.toNat (p1.length:Int))) (Int.toNat (p1.length:Int)))),(9,(dI a.1)),(22,(fzE false (eI .i64) p1)),(23,(dI (p1.length:Int))),(24,(dI a.2.1))],[.cells [(fzE false (eI .i64) p0.factor.vars),(fzE false (eI .i64) p0.factor.cards),(fzE false (eI .i64) p0.factor.w),(fzE false (eI .i64) p0.steps)],.cells [(.clo 79 [] [])],.cells [zaL,zaL,zaL],.els 1 (a.2.2.map ((eI .i64).c true))]⟩
  refine EvL.rounds (α:=(Int×Int×(List Int))) T9 (fun n a=>za8 p1 p0 n a.1 a.2.1 a.2.2=some o8∧a.2.2.length=(Int.toNat (p1.length:Int))) ((p1.length:Int) - 0+2:Int).toNat (1,0,y1) (by rw[hT9]; exact wm0 [.k,.k,.k,.k] ⟨MB.cs ⟨qcb,qcb,qcb,qcb,qcb⟩,⟨MB.cs ⟨⟨qcb,qcb⟩,qcb⟩,⟨MB.cs ⟨qcb,qcb,qcb,qcb⟩,⟨MB.es (eI .i64) true y1,qcb⟩⟩⟩⟩) ⟨j8,zaC g2⟩ (fun _ h=>nomatch (show(none:Option (Int×(List Int)))=some o8 from h.1)) ?_;rintro n ⟨v9,v24,l3⟩ ⟨j8,el3⟩;simp only[za8]at j8;rw[congrFun hT9 (v9,v24,l3)];refine zac ?_;try simp only[rnA,Nat.reduceEqDiff,Nat.reduceLT]
  cases c3:(decide (v24<(p1.length:Int)))
  ·rw[c3,cond_false]at j8;try simp only[rnA]
   replace j8:=qab j8; subst j8;exact⟨_,⟨rfl,el3⟩,by rw[hT8]; exact wm0 [.k,.k,.k,.k] ⟨MB.cs ⟨qcb,qcb,qcb,qcb,qcb⟩,⟨MB.cs ⟨⟨qcb,qcb⟩,qcb⟩,⟨MB.cs ⟨qcb,qcb,qcb,qcb⟩,⟨MB.es (eI .i64) true l3,qcb⟩⟩⟩⟩⟩
  rw[c3,cond_true]at j8;obtain⟨x4,g5,j8⟩:=bind_some j8;obtain⟨r6,g7,j8⟩:=bind_some j8;try simp only[rnA,Nat.reduceEqDiff,Nat.reduceLT,Nat.reduceAdd,Nat.reduceLeDiff,zaB (n:=1) (e:=(eI .i64)) rfl g5]
  refine EvL.fn (zam g7) rfl rfl (.cons (.zaG (.cons (zaa _ _ (fun h=>nomatch h)) (.cons (zaa _ _ (fun h=>nomatch h)) (.cons (zaa _ _ (fun h=>nomatch h)) (.cons (zaa _ _ (fun h=>nomatch h)) .nil))))) (.cons (.lit _) .nil)) ?_;obtain⟨x8,g9,j8⟩:=bind_some j8;obtain⟨x10,g11,j8⟩:=bind_some j8;obtain⟨y12,g13,j8⟩:=bind_some j8;try simp only[rnA,Nat.reduceEqDiff,Nat.reduceLT,Nat.reduceLeDiff,zaB (n:=1) (e:=(eI .i64)) rfl g9,el3,zbq g11,(show v24<(((Int.toNat (p1.length:Int)):Nat):Int)from el3 ▸ zbr g11),zaQ g11 ((eI .i64).c true),(show(l3.map ((eI .i64).c true)).set v24.toNat [(dI x8)]=y12.map ((eI .i64).c true)from zbE g13 ((eI .i64).c true)),(zbd g13).trans el3,zaQ (zjr g13) ((eI .i64).c true)]
  exact⟨((w64 (v9 * x8)),(w64 (v24+1)),y12),⟨j8,(zbd g13).trans el3⟩,by rw[hT9]; exact wm0 [.k,.k,.k,.k] ⟨MB.cs ⟨qcb,qcb,qcb,qcb,qcb⟩,⟨MB.cs ⟨⟨qcb,qcb⟩,qcb⟩,⟨MB.cs ⟨qcb,qcb,qcb,qcb⟩,⟨MB.es (eI .i64) true y12,qcb⟩⟩⟩⟩⟩
 rintro⟨v9,l3⟩ ⟨rfl,el3⟩;dsimp only at h;rw[congrFun hT8 (v9,l3)];refine zac ?_;obtain⟨y14,g15,h⟩:=bind_some h;obtain⟨y16,g17,h⟩:=bind_some h;try simp only[rnA,Nat.reduceEqDiff,Nat.reduceLT,Nat.reduceAdd,Nat.reduceLeDiff,Nat.reduceBEq,zbk,(zau g15).1.1,(zau g15).1.2,qbn,(show List.replicate (Int.toNat v9) [(dI 0)]=y14.map ((eI .i64).c true)from zbw g15 ((eI .i64).c true)),(zau g17).1.1,(zau g17).1.2,(show List.replicate (Int.toNat (p0.factor.vars.length:Int)) [(dI 0)]=y16.map ((eI .i64).c true)from zbw g17 ((eI .i64).c true))]
 obtain⟨o10,j10,h⟩:=bind_some h;obtain⟨T10,hT10⟩:=mkT fun a:(List Int)=>⟨112,[(1,(fzE false (eI .i64) p1)),(3,(.ptr 0 0)),(5,(.ptr 1 0)),(6,(.ptr 2 0)),(8,(.sl 3 0 1 (Int.toNat (p1.length:Int)) (some (Int.toNat (p1.length:Int))) (Int.toNat (p1.length:Int)))),(12,(.ptr 5 0)),(13,(.sl 6 0 1 (Int.toNat (p0.factor.vars.length:Int)) (some (Int.toNat (p0.factor.vars.length:Int))) (Int.toNat (p0.factor.vars.length:Int))))],[.cells [(fzE false (eI .i64) p0.factor.vars),(fzE false (eI .i64) p0.factor.cards),(fzE false (eI .i64) p0.factor.w),(fzE false (eI .i64) p0.steps)],.cells [(.clo 79 [] [])],.cells [zaL,zaL,zaL],.els 1 (l3.map ((eI .i64).c true)),.els 1 (y14.map ((eI .i64).c true)),.cells [(.sl 4 0 1 (Int.toNat v9) (some (Int.toNat v9)) (Int.toNat v9))],.els 1 (a.map ((eI .i64).c true))]⟩
 refine EvL.jn T10 (fun a=>a=o10∧a.length=(Int.toNat (p0.factor.vars.length:Int))) ?_ ?_
 ·refine zac ?_;simp only[rnA];obtain⟨T11,hT11⟩:=mkT fun a:(Int×Int×(List Int))=>⟨112,[(1,(fzE false (eI .i64) p1)),(3,(.ptr 0 0)),(5,(.ptr 1 0)),(6,(.ptr 2 0)),(8,(.sl 3 0 1 (Int.toNat (p1.length:Int)) (some (Int.toNat (p1.length:Int))) (Int.toNat (p1.length:Int)))),(12,(.ptr 5 0)),(13,(.sl 6 0 1 (Int.toNat (p0.factor.vars.length:Int)) (some (Int.toNat (p0.factor.vars.length:Int))) (Int.toNat (p0.factor.vars.length:Int)))),(14,(dI a.1)),(15,(dI a.2.1))],[.cells [(fzE false (eI .i64) p0.factor.vars),(fzE false (eI .i64) p0.factor.cards),(fzE false (eI .i64) p0.factor.w),(fzE false (eI .i64) p0.steps)],.cells [(.clo 79 [] [])],.cells [zaL,zaL,zaL],.els 1 (l3.map ((eI .i64).c true)),.els 1 (y14.map ((eI .i64).c true)),.cells [(.sl 4 0 1 (Int.toNat v9) (some (Int.toNat v9)) (Int.toNat v9))],.els 1 (a.2.2.map ((eI .i64).c true))]⟩
  refine EvL.rounds (α:=(Int×Int×(List Int))) T11 (fun n a=>za7 p1 p0 l3 n a.1 a.2.1 a.2.2=some o10∧a.2.2.length=(Int.toNat (p0.factor.vars.length:Int))) ((w64 ((p1.length:Int) - 1)) - 0+2:Int).toNat (1,(w64 ((p1.length:Int) - 1)),y16) (by rw[hT11]; exact wm0 [.k,.k,.k,.k,.k,.k,.k] ⟨MB.cs ⟨qcb,qcb,qcb,qcb,qcb⟩,⟨MB.cs ⟨⟨qcb,qcb⟩,qcb⟩,⟨MB.cs ⟨qcb,qcb,qcb,qcb⟩,⟨MB.es (eI .i64) true l3,⟨MB.es (eI .i64) true y14,⟨MB.cs ⟨rfl,qcb⟩,⟨MB.es (eI .i64) true y16,qcb⟩⟩⟩⟩⟩⟩⟩) ⟨j10,zaC g17⟩ (fun _ h=>nomatch (show(none:Option (List Int))=some o10 from h.1)) ?_;rintro n ⟨v14,v15,l6⟩ ⟨j10,el6⟩;simp only[za7]at j10;rw[congrFun hT11 (v14,v15,l6)];refine zac ?_;try simp only[rnA,Nat.reduceEqDiff,Nat.reduceLT]
  cases c18:(decide (0≤v15))
  ·rw[c18,cond_false]at j10;try simp only[rnA]
   replace j10:=qab j10; subst j10;exact⟨_,⟨rfl,el6⟩,by rw[hT10]; exact wm0 [.k,.k,.k,.k,.k,.k,.k] ⟨MB.cs ⟨qcb,qcb,qcb,qcb,qcb⟩,⟨MB.cs ⟨⟨qcb,qcb⟩,qcb⟩,⟨MB.cs ⟨qcb,qcb,qcb,qcb⟩,⟨MB.es (eI .i64) true l3,⟨MB.es (eI .i64) true y14,⟨MB.cs ⟨rfl,qcb⟩,⟨MB.es (eI .i64) true l6,qcb⟩⟩⟩⟩⟩⟩⟩⟩
  rw[c18,cond_true]at j10;obtain⟨x19,g20,j10⟩:=bind_some j10;obtain⟨r21,g22,j10⟩:=bind_some j10;try simp only[rnA,Nat.reduceEqDiff,Nat.reduceLT,Nat.reduceAdd,Nat.reduceLeDiff,zaB (n:=1) (e:=(eI .i64)) rfl g20]
  refine EvL.fn (zam g22) rfl rfl (.cons (.zaG (.cons (zaa _ _ (fun h=>nomatch h)) (.cons (zaa _ _ (fun h=>nomatch h)) (.cons (zaa _ _ (fun h=>nomatch h)) (.cons (zaa _ _ (fun h=>nomatch h)) .nil))))) (.cons (.lit _) .nil)) ?_;obtain⟨x23,g24,j10⟩:=bind_some j10;obtain⟨y25,g26,j10⟩:=bind_some j10;obtain⟨x27,g28,j10⟩:=bind_some j10;try simp only[rnA,Nat.reduceEqDiff,Nat.reduceLT,Nat.reduceLeDiff,el6,zbq g24,(show r21<(((Int.toNat (p0.factor.vars.length:Int)):Nat):Int)from el6 ▸ zbr g24),zaQ g24 ((eI .i64).c true),(show(l6.map ((eI .i64).c true)).set r21.toNat [(dI v14)]=y25.map ((eI .i64).c true)from zbE g26 ((eI .i64).c true)),el3,zbq g28,(show v15<(((Int.toNat (p1.length:Int)):Nat):Int)from el3 ▸ zbr g28),zaQ g28 ((eI .i64).c true)]
  exact⟨((w64 (v14 * x27)),(w64 (v15 - 1)),y25),⟨j10,(zbd g26).trans el6⟩,by rw[hT11]; exact wm0 [.k,.k,.k,.k,.k,.k,.k] ⟨MB.cs ⟨qcb,qcb,qcb,qcb,qcb⟩,⟨MB.cs ⟨⟨qcb,qcb⟩,qcb⟩,⟨MB.cs ⟨qcb,qcb,qcb,qcb⟩,⟨MB.es (eI .i64) true l3,⟨MB.es (eI .i64) true y14,⟨MB.cs ⟨rfl,qcb⟩,⟨MB.es (eI .i64) true y25,qcb⟩⟩⟩⟩⟩⟩⟩⟩
 rintro l6 ⟨rfl,el6⟩;rw[congrFun hT10 l6];refine zac ?_;try simp only[rnA,Nat.reduceEqDiff,Nat.reduceLT,Nat.reduceAdd,Nat.reduceLeDiff]
 refine EvL.zcY (S':=⟨112,[(1,(fzE false (eI .i64) p1)),(3,(.ptr 0 0)),(5,(.ptr 1 0)),(6,(.ptr 2 0)),(8,(.sl 3 0 1 (Int.toNat (p1.length:Int)) (some (Int.toNat (p1.length:Int))) (Int.toNat (p1.length:Int)))),(12,(.ptr 5 0)),(16,(.ptr 7 0)),(78,(fzE false (eI .i64) p0.factor.cards)),(79,(fzE true (eI .i64) l6))],[.cells [(fzE false (eI .i64) p0.factor.vars),(fzE false (eI .i64) p0.factor.cards),(fzE false (eI .i64) p0.factor.w),(fzE false (eI .i64) p0.steps)],.cells [(.clo 79 [] [])],.cells [zaL,zaL,zaL],.els 1 (l3.map ((eI .i64).c true)),.els 1 (y14.map ((eI .i64).c true)),.cells [(.sl 4 0 1 (Int.toNat v9) (some (Int.toNat v9)) (Int.toNat v9))],.gone,.cells [(dB true)]]⟩) (zbl.m0 [.k,.k,.k,.k,.k,.k,.f,.k] rfl (msq (msq (msq (msq (msq (msq (msq (msq (mf rfl (zal (e:=(eI .i64)) (t:=true) rfl rfl (.inl rfl) (el6).symm (el6).symm (fun k h=>by cases h; exact qaf _) (fun h=>by cases h<;>rfl)) trivial))))))))) ⟨MB.cs ⟨qcb,qcb,qcb,qcb,qcb⟩,⟨MB.cs ⟨⟨qcb,qcb⟩,qcb⟩,⟨MB.cs ⟨qcb,qcb,qcb,qcb⟩,⟨MB.es (eI .i64) true l3,⟨MB.es (eI .i64) true y14,⟨MB.cs ⟨rfl,qcb⟩,⟨rfl,⟨MB.cs ⟨qcb,qcb⟩,qcb⟩⟩⟩⟩⟩⟩⟩⟩) (zac ?_);obtain⟨r29,g30,h⟩:=bind_some h;try simp only[rnA]
 refine EvL.fnS (zbm g30) rfl rfl (.cons (zad _ _ (fun h=>by cases h<;>contradiction)) (.cons (zad _ _ (fun h=>by cases h<;>contradiction)) .nil)) ⟨(zab _ _),(zab _ _),qcb⟩ ⟨qcb,⟨⟨rfl,zab _ _,qcb⟩,⟨rfl,zab _ _,qcb⟩,qcb⟩⟩ ?_;try simp only[rnA,Nat.reduceLT]
 obtain⟨o13,j13,h⟩:=bind_some h;obtain⟨T13,hT13⟩:=mkT fun a:(Bool×(List Int))=>⟨112,[(1,(fzE false (eI .i64) p1)),(6,(.ptr 2 0)),(8,(.sl 3 0 1 (Int.toNat (p1.length:Int)) (some (Int.toNat (p1.length:Int))) (Int.toNat (p1.length:Int)))),(12,(.ptr 5 0)),(16,(.ptr 7 0))],[.gone,.gone,.cells [zaL,zaL,zaL],.els 1 (l3.map ((eI .i64).c true)),.els 1 (a.2.map ((eI .i64).c true)),.cells [(.sl 4 0 1 (Int.toNat v9) (some (Int.toNat v9)) (Int.toNat v9))],.gone,.cells [(dB a.1)]]⟩
 refine EvL.jn T13 (fun a=>a=o13∧a.2.length=(Int.toNat v9)) ?_ ?_
 ·refine zac ?_;try simp only[rnA]
  obtain⟨u31,g32,j13⟩:=bind_some j13;obtain⟨o14,j14,j13⟩:=bind_some j13;obtain⟨T14,hT14⟩:∃ T:(List Int)→List LB,T=(fun a=>[.cells [(fzE false (eI .i64) p0.factor.vars),(fzE false (eI .i64) p0.factor.cards),(fzE false (eI .i64) p0.factor.w),(fzE false (eI .i64) p0.steps)],.cells [(.clo 79 [] [])],.cells [zaL,zaL,zaL],.els 1 (l3.map ((eI .i64).c true)),.els 1 (a.map ((eI .i64).c true)),.cells [(.sl 4 0 1 (Int.toNat v9) (some (Int.toNat v9)) (Int.toNat v9))],.gone,.cells [(dB true)]]):=⟨_,rfl⟩;obtain⟨TX14,hTX14⟩:∃ T:(List Int)→List LB,T=(fun a=>[.cells [(fzE false (eI .i64) p0.factor.vars),(fzE false (eI .i64) p0.factor.cards),(fzE false (eI .i64) p0.factor.w),(fzE false (eI .i64) p0.steps)],.cells [(.clo 79 [] [])],.cells [zaL,zaL,zaL],.els 1 (l3.map ((eI .i64).c true)),.els 1 (a.map ((eI .i64).c true)),.cells [(.sl 4 0 1 (Int.toNat v9) (some (Int.toNat v9)) (Int.toNat v9))],.gone,.cells [(dB false)]]):=⟨_,rfl⟩;refine EvL.zcY (S':=⟨112,[(1,(fzE false (eI .i64) p1)),(3,(.ptr 0 0)),(5,(.ptr 1 0)),(6,(.ptr 2 0)),(8,(.sl 3 0 1 (Int.toNat (p1.length:Int)) (some (Int.toNat (p1.length:Int))) (Int.toNat (p1.length:Int)))),(12,(.ptr 5 0)),(16,(.ptr 7 0)),(80,(.clo 120 [] [(.fptr false ((eL (eI .i64)).c false r29.1)),(.fptr false ((eL (eI .i64)).c false r29.2))]))],T14 y14⟩) (by rw[hT14]; exact wm0 [.k,.k,.k,.k,.k,.k,.k,.k] ⟨MB.cs ⟨qcb,qcb,qcb,qcb,qcb⟩,⟨MB.cs ⟨⟨qcb,qcb⟩,qcb⟩,⟨MB.cs ⟨qcb,qcb,qcb,qcb⟩,⟨MB.es (eI .i64) true l3,⟨MB.es (eI .i64) true y14,⟨MB.cs ⟨rfl,qcb⟩,⟨MB.same trivial,⟨MB.cs ⟨qcb,qcb⟩,qcb⟩⟩⟩⟩⟩⟩⟩⟩) ?_;refine EvL.zhU (n0:=8) (zbf g32) rfl (bm:=.block 5 (.seq (.reg true true [⟨some 84,.load none (.s 12),none⟩,⟨some 85,.mov (.s 18),none⟩,⟨some 86,.fld 0 (.s 5),none⟩,⟨some 87,.load none (.s 86),none⟩,⟨some 88,.load none (.s 12),none⟩,⟨some 89,.mov (.s 18),none⟩,⟨some 90,.idxS 1 (.s 88) (.s 89),none⟩,⟨some 91,.load none (.s 90),none⟩,⟨some 92,.fld 0 (.s 3),none⟩,⟨some 93,.fld 2 (.s 92),none⟩,⟨some 94,.load none (.s 93),none⟩,⟨some 95,.mov (.s 17),none⟩,⟨some 96,.idxS 1 (.s 94) (.s 95),none⟩,⟨some 97,.load none (.s 96),none⟩,⟨some 98,.za2 (.s 87) [(.s 91),(.s 97)],none⟩,⟨some 83,.mov (.s 98),none⟩,⟨some 99,.ext (.s 83) 0,none⟩,⟨some 100,.ext (.s 83) 1,none⟩,⟨some 101,.idxS 1 (.s 84) (.s 85),none⟩,⟨none,.store 1 (.s 101) (.s 99),none⟩,⟨none,.store 1 (.s 16) (.s 100),none⟩]) (.block 6 (.seq (.reg false false [⟨some 103,.load none (.s 16),none⟩,⟨some 104,.un .not (.s 103),none⟩,⟨some 102,.mov (.s 104),none⟩]) (.cond (.s 102) (.exit 4) (.skip)))))) rfl T14 (fun i a=>zaO p0 v9 (u31.drop i) a=some o14∧a.length=(Int.toNat v9)) (fun x L1=>match x with | .normal=>∃ a,o14=.go a∧a.length=(Int.toNat v9)∧L1=T14 a | .exit id=>∃ a,o14=.brk a∧a.length=(Int.toNat v9)∧id=4∧L1=TX14 a | .ret=>L1.length=8∧zd8 (8+1) L1∧(zeV [.cell 6 (some 3),.tmp 7] ((.tup [(.agg [(fzE false (eI .i64) r.1.vars),(fzE false (eI .i64) r.1.cards),(fzE false (eI .i64) r.1.w)]),(dI r.2)]))) .ret ⟨112,[(1,(fzE false (eI .i64) p1)),(3,(.ptr 0 0)),(5,(.ptr 1 0)),(6,(.ptr 2 0)),(8,(.sl 3 0 1 (Int.toNat (p1.length:Int)) (some (Int.toNat (p1.length:Int))) (Int.toNat (p1.length:Int)))),(12,(.ptr 5 0)),(16,(.ptr 7 0)),(80,(.clo 120 [] [(.fptr false ((eL (eI .i64)).c false r29.1)),(.fptr false ((eL (eI .i64)).c false r29.2))]))],L1 ++ [.lost]⟩| _=>False) y14 ?_ (qaU _) ?_ ?_ ?_ (fun d L1 hx=>hx.elim) ?_ ?_ ?_ ?_ ?_ ?_
  ·intro a; rw[hT14]; rfl
  ·exact⟨qcb,(qac rfl),(qac rfl),(qac rfl),(qac rfl),(qac rfl),(qac rfl),⟨qcb,⟨qcb,qcb,qcb⟩⟩,qcb⟩
  ·intro a; rw[hT14]; exact⟨⟨qcb,qcb,qcb,qcb,qcb⟩,⟨⟨qcb,qcb⟩,qcb⟩,⟨qcb,qcb,qcb,qcb⟩,(zcj (eI .i64) _ _ _),(zcj (eI .i64) _ _ _),⟨(qac rfl),qcb⟩,qcb,⟨qcb,qcb⟩,qcb⟩
  ·intro x L1 hx;cases x with
   | normal=>obtain⟨a,_,_,rfl⟩:=hx; exact⟨by rw[hT14]; rfl,by rw[hT14]; exact⟨⟨qcb,qcb,qcb,qcb,qcb⟩,⟨⟨qcb,qcb⟩,qcb⟩,⟨qcb,qcb,qcb,qcb⟩,(zcj (eI .i64) _ _ _),(zcj (eI .i64) _ _ _),⟨(qac rfl),qcb⟩,qcb,⟨qcb,qcb⟩,qcb⟩⟩
   | ret=>exact⟨hx.1,hx.2.1⟩
   | exit id=>obtain⟨a,_,_,_,rfl⟩:=hx; exact⟨by rw[hTX14]; rfl,by rw[hTX14]; exact⟨⟨qcb,qcb,qcb,qcb,qcb⟩,⟨⟨qcb,qcb⟩,qcb⟩,⟨qcb,qcb,qcb,qcb⟩,(zcj (eI .i64) _ _ _),(zcj (eI .i64) _ _ _),⟨(qac rfl),qcb⟩,qcb,⟨qcb,qcb⟩,qcb⟩⟩
   | panic d=>exact hx.elim
  ·exact⟨j14,zaC g15⟩
  ·rintro i l4 y33 args G lpF hy ⟨hi14,el4⟩ ⟨rfl,rfl⟩ hkin;rw[zew hy]at hi14;simp only[zaO]at hi14;refine⟨_,_,rfl,rfl,?_⟩;rw[congrFun hT14 l4];refine zac ?_;obtain⟨x34,g35,hi14⟩:=bind_some hi14;obtain⟨x36,g37,hi14⟩:=bind_some hi14;obtain⟨r38,g39,hi14⟩:=bind_some hi14;try simp only[rnA,Nat.reduceEqDiff,Nat.reduceLT,Nat.reduceAdd,el4,zbq g35,(show y33.2.1<(((Int.toNat v9):Nat):Int)from el4 ▸ zbr g35),zaQ g35 ((eI .i64).c true),zaB (n:=1) (e:=(eI .i64)) rfl g37]
   refine EvL.fnv rfl rfl (zib g39) rfl (.cons (.lit _) (.cons (.lit _) .nil)) ?_;obtain⟨y40,g41,hi14⟩:=bind_some hi14;try simp only[rnA,Nat.reduceEqDiff,Nat.reduceLT,Nat.reduceLeDiff,el4,zbq g35,(show y33.2.1<(((Int.toNat v9):Nat):Int)from el4 ▸ zbr g35),zaQ g35 ((eI .i64).c true),(show(l4.map ((eI .i64).c true)).set y33.2.1.toNat [(dI r38.1)]=y40.map ((eI .i64).c true)from zbE g41 ((eI .i64).c true))]
   cases c42:r38.2
   ·rw[c42,cond_false]at hi14;try simp only[rnA,Nat.reduceEqDiff]
    replace hi14:=qab hi14; subst hi14;exact⟨TX14 y40,by rw[hTX14]; rfl,by rw[hTX14]; exact zbl.mK [.k,.k,.k,.k,.k,.k,.k,.k,.k,.k] rfl rfl qcb ⟨MB.cs ⟨qcb,qcb,qcb,qcb,qcb⟩,⟨MB.cs ⟨⟨qcb,qcb⟩,qcb⟩,⟨MB.cs ⟨qcb,qcb,qcb,qcb⟩,⟨MB.es (eI .i64) true l3,⟨MB.es (eI .i64) true y40,⟨MB.cs ⟨rfl,qcb⟩,⟨MB.same trivial,⟨MB.cs ⟨qcb,qcb⟩,⟨.same (hkin _ (by decide)),⟨MB.same (zcT _ _ _ _),qcb⟩⟩⟩⟩⟩⟩⟩⟩⟩⟩,y40,rfl,(zbd g41).trans el4,rfl⟩
   rw[c42,cond_true]at hi14;try simp only[rnA]
   exact⟨T14 y40,by rw[hT14]; rfl,by rw[hT14]; exact zbl.mK [.k,.k,.k,.k,.k,.k,.k,.k,.k,.k] rfl rfl qcb ⟨MB.cs ⟨qcb,qcb,qcb,qcb,qcb⟩,⟨MB.cs ⟨⟨qcb,qcb⟩,qcb⟩,⟨MB.cs ⟨qcb,qcb,qcb,qcb⟩,⟨MB.es (eI .i64) true l3,⟨MB.es (eI .i64) true y40,⟨MB.cs ⟨rfl,qcb⟩,⟨MB.same trivial,⟨MB.cs ⟨qcb,qcb⟩,⟨.same (hkin _ (by decide)),⟨MB.same (zcT _ _ _ _),qcb⟩⟩⟩⟩⟩⟩⟩⟩⟩⟩,y40,⟨hi14,(zbd g41).trans el4⟩,rfl⟩
  ·rintro l4 ⟨hi14,el4⟩;rw[qaY]at hi14;simp only[zaO]at hi14;exact⟨l4,(qab hi14).symm,el4,rfl⟩
  ·rintro _ ⟨l4,oeq,el4,rfl⟩;have oeq2:=oeq.symm;subst oeq2;dsimp only at j13;rw[congrFun hT14 l4];refine zac ?_;try simp only[rnA]
   replace j13:=qab j13; subst j13;exact⟨_,⟨rfl,el4⟩,by rw[hT13]; exact wm0 [.d,.d,.k,.k,.k,.k,.d,.k] ⟨rfl,⟨rfl,⟨MB.cs ⟨qcb,qcb,qcb,qcb⟩,⟨MB.es (eI .i64) true l3,⟨MB.es (eI .i64) true l4,⟨MB.cs ⟨rfl,qcb⟩,⟨rfl,⟨MB.cs ⟨qcb,qcb⟩,qcb⟩⟩⟩⟩⟩⟩⟩⟩⟩
  ·rintro id _ ⟨l4,oeq,el4,rfl,rfl⟩;rw[oeq]at j13;dsimp only at j13;rw[congrFun hTX14 l4];refine zac ?_;try simp only[rnA]
   replace j13:=qab j13; subst j13;exact⟨_,⟨rfl,el4⟩,by rw[hT13]; exact wm0 [.d,.d,.k,.k,.k,.k,.d,.k] ⟨rfl,⟨rfl,⟨MB.cs ⟨qcb,qcb,qcb,qcb⟩,⟨MB.es (eI .i64) true l3,⟨MB.es (eI .i64) true l4,⟨MB.cs ⟨rfl,qcb⟩,⟨rfl,⟨MB.cs ⟨qcb,qcb⟩,qcb⟩⟩⟩⟩⟩⟩⟩⟩⟩
  intro L1 hx; exact hx.2.2
 rintro⟨b7_0,l4⟩ ⟨rfl,el4⟩;dsimp only at h;rw[congrFun hT13 (b7_0,l4)];refine zac ?_;try simp only[rnA,Nat.reduceEqDiff,Nat.reduceLT]
 cases c43:b7_0
 ·rw[c43,cond_false]at h;try simp only[rnA,Nat.reduceEqDiff,Nat.reduceLT,Nat.reduceAdd,Nat.reduceLeDiff]
  replace h:=qab h; subst h;exact zeV.ret rfl (Snp.zdn (.cons (.zaG (.cons (zai (eI .i64)) (.cons (zai (eI .i64)) (.cons (zai (eI .i64)) .nil)))) (.cons (.lit _) .nil)))
 rw[c43,cond_true]at h;try simp only[rnA,Nat.reduceEqDiff,Nat.reduceLT,Nat.reduceAdd,Nat.reduceLeDiff]
 replace h:=qab h; subst h;exact zeV.ret rfl (Snp.zdn (.cons (.zaG (.cons (zaa _ _ (fun h=>nomatch h)) (.cons (zbh (e:=(eI .i64)) (t:=true) rfl (.inl rfl) (el3).symm (el3).symm (fun k h=>by cases h; exact qaf _) (fun h=>nomatch h)) (.cons (zbh (e:=(eI .i64)) (t:=true) rfl (.inl rfl) (el4).symm (el4).symm (fun k h=>by cases h; exact qaf _) (fun h=>nomatch h)) .nil)))) (.cons (.lit _) .nil)))
def zcn(p0:S_api_Factor):Option (Int×Int):=
(zaE p0).bind fun r1=>
bif (r1.2 == 0)then(
(zaT r1.1 []).bind fun r4=>
bif (r4.2 == 0)then(
(zbN r4.1.w 0).bind fun x7=>
some (x7,0))
else(
some (0,r4.2)))
else(
some (0,r1.2))
theorem zdq{p0:S_api_Factor}{r:(Int×Int)}(h:zcn p0=some r):Lx.Fn mC 28 [(.agg [(fzE false (eI .i64) p0.vars),(fzE false (eI .i64) p0.cards),(fzE false (eI .i64) p0.w)])] (.tup [(dI r.1),(dI r.2)]):=by
 refine fnO (by conv=>lhs; cbv) ?_;unfold zcn at h;refine zac ?_;obtain⟨r1,g2,h⟩:=bind_some h;try simp only[rnA,Nat.reduceEqDiff,reduceIte,Nat.reduceLT,Nat.reduceAdd,Nat.reduceLeDiff,Nat.reduceMul,Nat.reduceSub,Int.reduceLE,Int.reduceLT,Int.reduceBEq,Nat.reduceBEq,reduceCtorEq,zae,zcC]
 refine EvL.fnS (zaX g2) rfl rfl (.cons (Mzs.agg (.cons (zad _ _ (fun h=>by cases h<;>contradiction)) (.cons (zad _ _ (fun h=>by cases h<;>contradiction)) (.cons (zad _ _ (fun h=>by cases h<;>contradiction)) .nil)))) .nil) ⟨⟨(zab _ _),(zab _ _),(zab _ _),qcb⟩,qcb⟩ ⟨⟨(zab _ _),(zab _ _),(zab _ _),(zab _ _),qcb⟩,qcb,qcb⟩ ?_;try simp only[rnA,Nat.reduceEqDiff,reduceIte,Nat.reduceLT,Nat.reduceAdd,Nat.reduceLeDiff,Nat.reduceMul,Nat.reduceSub,Int.reduceLE,Int.reduceLT,Int.reduceBEq,Nat.reduceBEq,reduceCtorEq,zae]
 cases c3:(r1.2 == 0)
 ·rw[c3,cond_false]at h;try simp only[rnA,Nat.reduceEqDiff,reduceIte,Nat.reduceLT,Nat.reduceAdd,Nat.reduceLeDiff,Nat.reduceMul,Nat.reduceSub,Int.reduceLE,Int.reduceLT,Int.reduceBEq,Nat.reduceBEq,reduceCtorEq,zae,c3]
  replace h:=qab h; subst h;exact zcV.ret rfl (Snp.zdn (.cons (.lit _) (.cons (.lit _) .nil)))
 rw[c3,cond_true]at h;obtain⟨r4,g5,h⟩:=bind_some h;try simp only[rnA,Nat.reduceEqDiff,reduceIte,Nat.reduceLT,Nat.reduceAdd,Nat.reduceLeDiff,Nat.reduceMul,Nat.reduceSub,Int.reduceLE,Int.reduceLT,Int.reduceBEq,Nat.reduceBEq,reduceCtorEq,zae,c3]
 refine EvL.fnS (zbB g5) rfl rfl (.cons (Mzs.agg (.cons (zad _ _ (fun h=>by cases h<;>contradiction)) (.cons (zad _ _ (fun h=>by cases h<;>contradiction)) (.cons (zad _ _ (fun h=>by cases h<;>contradiction)) (.cons (zad _ _ (fun h=>by cases h<;>contradiction)) .nil))))) (.cons (zbx (eI .i64)) (.cons (Mzs.agg (.cons zfN .nil)) .nil))) ⟨⟨(zab _ _),(zab _ _),(zab _ _),(zab _ _),qcb⟩,(zab _ _),⟨⟨qcb,qcb⟩,qcb⟩,qcb⟩ ⟨⟨(zab _ _),(zab _ _),(zab _ _),qcb⟩,qcb,qcb⟩ ?_;try simp only[rnA,Nat.reduceEqDiff,reduceIte,Nat.reduceLT,Nat.reduceAdd,Nat.reduceLeDiff,Nat.reduceMul,Nat.reduceSub,Int.reduceLE,Int.reduceLT,Int.reduceBEq,Nat.reduceBEq,reduceCtorEq,zae,c3]
 cases c6:(r4.2 == 0)
 ·rw[c6,cond_false]at h;try simp only[rnA,Nat.reduceEqDiff,reduceIte,Nat.reduceLT,Nat.reduceAdd,Nat.reduceLeDiff,Nat.reduceMul,Nat.reduceSub,Int.reduceLE,Int.reduceLT,Int.reduceBEq,Nat.reduceBEq,reduceCtorEq,zae,c3,c6]
  replace h:=qab h; subst h;exact zcV.ret rfl (Snp.zdn (.cons (.lit _) (.cons (.lit _) .nil)))
 rw[c6,cond_true]at h;obtain⟨x7,g8,h⟩:=bind_some h;try simp only[rnA,Nat.reduceEqDiff,reduceIte,Nat.reduceLT,Nat.reduceAdd,Nat.reduceLeDiff,Nat.reduceMul,Nat.reduceSub,Int.reduceLE,Int.reduceLT,Int.reduceBEq,Nat.reduceBEq,reduceCtorEq,zae,zaB (n:=1) (e:=(eI .i64)) rfl g8,c3,c6]
 replace h:=qab h; subst h;exact zcV.ret rfl (Snp.zdn (.cons (.lit _) (.cons (.lit _) .nil)))
end Go.Dc
